/-
  Whether a network is small, and the snake as the program makes it.
  The snake, as the program makes it.
  The snake, place by place: how the reference goes on from one place to the next. No program is in sight.
  The neighbours that the program hands out are the switches that the reference calls linked, each once; as many links are across a side by the one as by the other. No program is in sight.
  The snake, as the reference makes it.
  The law NetSides, as a call.
-/
import Derived.Test.YtkmhpolbhjgpoaaMJ
import Derived.Test.YtkmhpolbhjgpoaaMX
import Derived.Test.YtkmhpolbhjgpoaaMI
import Derived.Test.YtkmhpolbhjgpoaaMU
import Derived.Test.YtkmhpolbhjgpoaaMC
set_option linter.all false
namespace Go.Af.Try
open Go Go.Proofs
attribute [local irreducible] awp ACall ACallX AYield AInvoke

end Go.Af.Try
namespace Go.Af.Try
open Go Go.Proofs
attribute [local irreducible] awp ACall ACallX AYield AInvoke newSlice isCells rdCells wrCells aAppend

/-- A place of the snake: the coordinates of each other row, plane and so on are turned around. -/
def snS (g e : List Int) : Nat → List Int × Bool
  | 0 => (e, false)
  | k + 1 => ((if (snS g e k).2 then (snS g e k).1.set k (g[k]! - 1 - (snS g e k).1[k]!) else (snS g e k).1),
      decide ((if (snS g e k).2 then (snS g e k).1.set k (g[k]! - 1 - (snS g e k).1[k]!) else (snS g e k).1)[k]!.tmod 2 = 1) != (snS g e k).2)
theorem snS_in {g e : List Int} (he : InR g e) : ∀ k : Nat, k ≤ g.length → InR g (snS g e k).1
  | 0, _ => he
  | k + 1, hk => by
    have h := snS_in he k (by omega)
    have hb := h.2 k (by omega)
    simp only [snS]
    split
    · exact h.set (by omega) (by omega) (by omega)
    · exact h
def snF (g : List Int) (x : Nat) : Int := numF g (snS g (coords g x) g.length).1
def iotaL (n : Nat) : List Int := (List.range n).map fun x : Nat => (x : Int)
def Sh.snk (s : Sh) : List Int :=
  match s with
  | .grid g => (List.range (prodF g).toNat).map (snF g)
  | .fat k n => iotaL (Sh.fat k n).hm.toNat
  | .fly a h => iotaL (Sh.fly a h).hm.toNat
theorem snk_len (s : Sh) : s.snk.length = s.hm.toNat := by cases s <;> simp [Sh.snk, iotaL, Sh.hm]
theorem xs_map {xs : List Int} {f : Nat → Int} {n : Nat} (hl : xs.length = n) (h : ∀ y : Nat, y < n → xs[y]! = f y) : xs = (List.range n).map f := by
  refine List.ext_getElem (by simp [hl]) (fun y h1 h2 => ?_)
  have := h y (by omega)
  rw [getElem!_pos xs y h1] at this
  rw [this]; simp
theorem xs_set {xs : List Int} {f : Nat → Int} {n i : Nat} (hl : xs.length = n) (hi : i < n) (h : ∀ y : Nat, y < i → xs[y]! = f y) : ∀ y : Nat, y < i + 1 → (xs.set i (f i))[y]! = f y := fun y hy => by
  by_cases e : y = i
  · subst e; rw [getElem!_pos _ y (by simp; omega)]; simp
  · rw [getElem!_pos _ y (by simp; omega), List.getElem_set_ne (by omega), ← getElem!_pos xs y (by omega)]
    exact h y (by omega)

structure XS66 where
  H : List Blk
  xs : List Int
  i : Nat

set_option maxHeartbeats 1000000 in
theorem g34 {H : List Blk} {R : Value → List Blk → Prop} {b : Nat} {wr : Bool} {kind hosts : Int} {sides : List Int} {s : Sh} (hs : shapeF kind sides hosts = some s) (hb : bget H b = some (.cells wr 1 (ints sides)))
    (h : ∀ H' k, HS H none' [(true, k, rw' s.snk)] H' → R (.tuple ⟨[sv k s.snk.length, .int .i64 0]⟩) H') : ACall Try.prog 34 [spV kind (sv b sides.length) hosts] H R := by
  have hok := shapeF_ok hs
  have hof := shapeF_of hs
  have hbd := sw_bd hok
  have hsl := snk_len s
  obtain ⟨m, hm⟩ : ∃ m : Nat, s.hm = m := ⟨s.hm.toNat, by omega⟩
  rw [hm, Int.toNat_natCast] at hsl
  refine acall_vcg tok Try.call34 Try.func34 rfl Try.ntmps34 rfl (by simp) ?_
  refine new_hs (((HS.start H none').add (c := false) hb (fun i p hi => by simp at hi) (fun h => by cases h))) (fun H1 b1 e1 l1 hs1 => ?_)
  refine rdCells_of (hs1.get 0 rfl) ?_
  refine ⟨_, rfl, _, rfl, _, rfl, ?_⟩
  (first | refine c57 kind hosts (hs1.get 1 rfl) (Nat.le_refl _) ?_ | refine (c57 kind hosts (hs1.get 1 rfl) (Nat.le_refl _) ?_).call)
  rw [hs]
  refine ⟨_, rfl, _, rfl, ?_⟩
  refine And.intro (fun h => absurd h (by decide)) (fun _ => ?_)
  (first | refine x_ho hok (at_of hof (hs1.get 1 rfl)) ?_ | refine (x_ho hok (at_of hof (hs1.get 1 rfl)) ?_).call)
  rw [hm]
  refine ⟨by decide, m, m, ⟨rfl, rfl⟩, ⟨Nat.le_refl _, by simp only; omega⟩, ints (List.replicate m 0), by simp [zeroRep, ints, cellsL], ?_⟩
  refine new_hs hs1 (fun H2 j e2 l2 hs2 => ?_)
  refine vcg_loopR (α := XS66) tok (fun z => HS H none' [(true, j, rw' z.xs), (true, b1, .cells true 1 [.int .i64 kind, sv b sides.length, .int .i64 hosts]), (false, b, .cells wr 1 (ints sides))] z.H ∧ z.xs.length = m ∧ (∀ y : Nat, y < z.i → z.xs[y]! = (y : Int)) ∧ z.i ≤ m)
    (fun | ⟨_, _, i⟩ => [(1, pV b1), (4, shV (sv b sides.length) s), (6, sv j m), (27, .int .i64 (m : Int)), (28, .int .i64 (i : Int))]) (fun | ⟨H', _, _⟩ => H') (fun z => m - z.i)
    ⟨H2, List.replicate m 0, 0⟩ ⟨hs2, by simp, fun y hy => absurd hy (Nat.not_lt_zero y), Nat.zero_le _⟩ (Or.inl ⟨⟨rfl, rfl, rfl, rfl, rfl, trivial⟩, rfl⟩) ?_
  clear hs1 hs2
  rintro ⟨H2, xs, i⟩ ⟨hs2, hx, hxs, hi⟩
  simp only at hs2 hx hxs hi
  refine And.intro (fun hc => ?_) (fun hc => ?_)
  · have hlt : i < m := by simpa using hc
    refine isCells_of (hs2.get 0 rfl) ⟨i, rfl, hlt, ?_⟩
    simp only [putK, vops, guardK, cstep, Nat.blt]
    refine store_hs hs2 0 rfl (ints (xs.set i (i : Int))) rfl rfl (by simp; omega) (set_int _ _ _) (fun H3 l3 hs3 => ?_)
    refine Or.inl ⟨((i + 1 : Nat) : Int), by simp, by unfold I64; omega, ?_⟩
    exact ⟨⟨H3, xs.set i (i : Int), i + 1⟩, ⟨hs3, by simp [hx], xs_set (f := fun y => (y : Int)) hx hlt hxs, hlt⟩, by simp only; omega, Or.inl ⟨⟨rfl, rfl, rfl, rfl, rfl, trivial⟩, rfl⟩⟩
  have : i = m := by simp at hc; omega
  subst this
  have hxe := xs_map (f := fun y => (y : Int)) hx hxs
  cases s with
  | fat k n =>
    have e : xs = (Sh.fat k n).snk := by rw [hxe]; simp [Sh.snk, iotaL, hm]
    subst e
    refine ⟨_, rfl, _, rfl, ?_⟩
    refine And.intro (fun _ => ?_) (fun h => absurd h (by decide))
    have := h _ _ (hs2.pick [0] (by decide) rfl)
    rw [hx] at this
    exact this
  | fly k n =>
    have e : xs = (Sh.fly k n).snk := by rw [hxe]; simp [Sh.snk, iotaL, hm]
    subst e
    refine ⟨_, rfl, _, rfl, ?_⟩
    refine And.intro (fun _ => ?_) (fun h => absurd h (by decide))
    have := h _ _ (hs2.pick [0] (by decide) rfl)
    rw [hx] at this
    exact this
  | grid g =>
    obtain ⟨rfl, rfl⟩ := hof
    have hok' := hok
    obtain ⟨hl1, hl2, hmm, hp⟩ := hok'
    have hg2 : ∀ m ∈ g, 2 ≤ m := fun m h => (hmm m h).1
    have hgi : ∀ i, i < g.length → 2 ≤ g[i]! ∧ g[i]! ≤ 16 := fun i hi => by rw [getElem!_pos g i hi]; exact hmm _ (List.getElem_mem hi)
    refine ⟨_, rfl, _, rfl, ?_⟩
    refine And.intro (fun h => absurd h (by decide)) (fun _ => ?_)
    refine vcg_loopR (α := XS66) tok (fun z => HS H none' [(true, j, rw' z.xs), (true, b1, .cells true 1 [.int .i64 1, sv b g.length, .int .i64 hosts]), (false, b, .cells wr 1 (ints g))] z.H ∧ z.xs.length = i ∧ (∀ y : Nat, y < z.i → z.xs[y]! = snF g y) ∧ z.i ≤ i)
      (fun | ⟨_, _, y⟩ => [(1, pV b1), (6, sv j i), (8, sv b g.length), (45, .int .i64 (i : Int)), (46, .int .i64 (y : Int))]) (fun | ⟨H', _, _⟩ => H') (fun z => i - z.i)
      ⟨H2, xs, 0⟩ ⟨hs2, hx, fun y hy => absurd hy (Nat.not_lt_zero y), Nat.zero_le _⟩ (Or.inl ⟨⟨rfl, rfl, rfl, rfl, rfl, trivial⟩, rfl⟩) ?_
    clear hs2 hxe hxs hx xs
    rintro ⟨H2, xs, x⟩ ⟨hs2, hx, hxs, hxi⟩
    simp only at hs2 hx hxs hxi
    refine And.intro (fun hc => ?_) (fun hc => ?_)
    · have hlt : x < i := by simpa using hc
      have hci := coords_in (x := (x : Int)) (by omega) g hg2
      (first | refine c66 hg2 (by omega) (i64_of (x := (x : Int)) (by omega)) (hs2.get 2 rfl) ?_ | refine (c66 hg2 (by omega) (i64_of (x := (x : Int)) (by omega)) (hs2.get 2 rfl) ?_).call)
      refine new_hs hs2 (fun H3 q e3 l3 hs3 => ?_)
      refine vcg_loopR (α := List Blk × Nat) tok (fun z => HS H none' [(true, q, rw' (snS g (coords g x) z.2).1), (true, j, rw' xs), (true, b1, .cells true 1 [.int .i64 1, sv b g.length, .int .i64 hosts]), (false, b, .cells wr 1 (ints g))] z.1 ∧ z.2 ≤ g.length)
        (fun | (_, k) => [(1, pV b1), (6, sv j i), (8, sv b g.length), (10, .int .i64 (x : Int)), (11, sv q g.length), (12, .bool (snS g (coords g x) k).2), (45, .int .i64 (i : Int)), (46, .int .i64 (x : Int)), (52, sv q g.length), (53, .int .i64 (g.length : Int)), (54, .int .i64 (k : Int))]) (fun | (H', _) => H') (fun z => g.length - z.2)
        (H3, 0) ⟨hs3, Nat.zero_le _⟩ (Or.inl ⟨⟨rfl, rfl, rfl, rfl, rfl, rfl, rfl, rfl, rfl, rfl, rfl, trivial⟩, rfl⟩) ?_
      clear hs2 hs3
      rintro ⟨H4, k⟩ ⟨hs4, hk⟩
      simp only at hs4 hk
      have hsi := snS_in hci k hk
      refine And.intro (fun hc => ?_) (fun hc => ?_)
      · have hkl : k < g.length := by simpa using hc
        have hgk := hgi k hkl
        have hak := hsi.2 k hkl
        have e1 : (snS g (coords g x) (k + 1)).1 = if (snS g (coords g x) k).2 then (snS g (coords g x) k).1.set k (g[k]! - 1 - (snS g (coords g x) k).1[k]!) else (snS g (coords g x) k).1 := rfl
        have e2 : (snS g (coords g x) (k + 1)).2 = (decide ((snS g (coords g x) (k + 1)).1[k]!.tmod 2 = 1) != (snS g (coords g x) k).2) := rfl
        have hsi2 := snS_in hci (k + 1) hkl
        refine isCells_of (hs4.get 0 rfl) ⟨k, rfl, hkl, ?_⟩
        refine rdCells_of (hs4.get 0 rfl) (Ld_ints k (snS g (coords g x) k).1[k]! (by simp) (by simp [hsi.1, hkl]) ?_)
        refine And.intro (fun ho => ?_) (fun ho => ?_)
        · have ho : (snS g (coords g x) k).2 = true := ho
          have e1t : (snS g (coords g x) (k + 1)).1 = (snS g (coords g x) k).1.set k (g[k]! - 1 - (snS g (coords g x) k).1[k]!) := by rw [e1, if_pos ho]
          refine isCells_of (hs4.get 3 rfl) ⟨k, rfl, hkl, ?_⟩
          refine rdCells_of (hs4.get 3 rfl) (Ld_ints k g[k]! (by simp) (by simp [hkl]) ?_)
          refine Or.inl ⟨g[k]! - 1, rfl, by unfold I64; omega, ?_⟩
          refine Or.inl ⟨g[k]! - 1 - (snS g (coords g x) k).1[k]!, rfl, by unfold I64; omega, ?_⟩
          refine isCells_of (hs4.get 0 rfl) ⟨k, rfl, hkl, ?_⟩
          simp only [putK, vops, guardK, cstep, Nat.blt]
          refine store_hs hs4 0 rfl (ints ((snS g (coords g x) k).1.set k (g[k]! - 1 - (snS g (coords g x) k).1[k]!))) rfl rfl (by simp [hsi.1]; omega) (set_int _ _ _) (fun H5 l5 hs5 => ?_)
          rw [← e1t] at hs5
          refine isCells_of (hs5.get 0 rfl) ⟨k, rfl, hkl, ?_⟩
          refine rdCells_of (hs5.get 0 rfl) (Ld_ints k (snS g (coords g x) (k + 1)).1[k]! (by simp) (by simp [hsi2.1, hkl]) ?_)
          refine ⟨by decide, _, rfl, ?_⟩
          refine Or.inl ⟨((k + 1 : Nat) : Int), by simp, by unfold I64; omega, ?_⟩
          exact ⟨(_, k + 1), ⟨hs5, hkl⟩, by simp only; omega, Or.inl ⟨⟨rfl, rfl, rfl, rfl, rfl, congrArg (fun z => some (Value.bool z)) e2.symm, rfl, rfl, rfl, rfl, rfl, trivial⟩, rfl⟩⟩
        · have ho : (snS g (coords g x) k).2 = false := ho
          have e1f : (snS g (coords g x) (k + 1)).1 = (snS g (coords g x) k).1 := by rw [e1, if_neg (by rw [ho]; decide)]
          have hs5 := hs4
          rw [← e1f] at hs5
          have H5 := H4
          refine isCells_of (hs5.get 0 rfl) ⟨k, rfl, hkl, ?_⟩
          refine rdCells_of (hs5.get 0 rfl) (Ld_ints k (snS g (coords g x) (k + 1)).1[k]! (by simp) (by simp [hsi2.1, hkl]) ?_)
          refine ⟨by decide, _, rfl, ?_⟩
          refine Or.inl ⟨((k + 1 : Nat) : Int), by simp, by unfold I64; omega, ?_⟩
          exact ⟨(_, k + 1), ⟨hs5, hkl⟩, by simp only; omega, Or.inl ⟨⟨rfl, rfl, rfl, rfl, rfl, congrArg (fun z => some (Value.bool z)) e2.symm, rfl, rfl, rfl, rfl, rfl, trivial⟩, rfl⟩⟩
      · have : k = g.length := by simp at hc; omega
        subst this
        (first | refine c67 hsi.1 (by omega) (num_i64 hsi hp) (hs4.get 3 rfl) (hs4.get 0 rfl) ?_ | refine (c67 hsi.1 (by omega) (num_i64 hsi hp) (hs4.get 3 rfl) (hs4.get 0 rfl) ?_).call)
        refine isCells_of (hs4.get 1 rfl) ⟨x, rfl, hlt, ?_⟩
        simp only [putK, vops, guardK, cstep, Nat.blt]
        refine store_hs hs4 1 rfl (ints (xs.set x (snF g x))) rfl rfl (by simp; omega) (set_int _ _ _) (fun H5 l5 hs5 => ?_)
        refine Or.inl ⟨((x + 1 : Nat) : Int), by simp, by unfold I64; omega, ?_⟩
        exact ⟨⟨H5, xs.set x (snF g x), x + 1⟩, ⟨hs5.tail, by simp [hx], xs_set hx hlt hxs, hlt⟩, by simp only; omega, Or.inl ⟨⟨rfl, rfl, rfl, rfl, rfl, trivial⟩, rfl⟩⟩
    · have : x = i := by simp at hc; omega
      subst this
      have e : xs = (Sh.grid g).snk := by
        rw [xs_map hx hxs]
        have : (prodF g).toNat = x := by simp only [Sh.hm] at hm; omega
        simp only [Sh.snk, this]
      subst e
      have := h _ _ (hs2.pick [0] (by decide) rfl)
      rw [hx] at this
      exact this
end Go.Af.Try
namespace Go.Af.Try
open Go

theorem ext! {xs ys : List Int} (hl : xs.length = ys.length) (h : ∀ k : Nat, k < xs.length → xs[k]! = ys[k]!) : xs = ys :=
  List.ext_getElem hl fun k h1 h2 => by
    have := h k h1
    rwa [getElem!_pos xs k h1, getElem!_pos ys k h2] at this
def incL : List Int → Nat → List Int
  | [], _ => []
  | c :: e, 0 => (c + 1) :: List.replicate e.length 0
  | c :: e, i + 1 => c :: incL e i
theorem incL_len : ∀ (e : List Int) (i : Nat), (incL e i).length = e.length
  | [], _ => rfl
  | c :: e, 0 => by simp [incL]
  | c :: e, i + 1 => by simp [incL, incL_len e i]
theorem incL_get : ∀ (e : List Int) (i k : Nat), i < e.length → k < e.length → (incL e i)[k]! = if k < i then e[k]! else if k = i then e[i]! + 1 else 0
  | [], _, _, h, _ => by simp at h
  | c :: e, 0, 0, _, _ => by simp [incL]
  | c :: e, 0, k + 1, _, hk => by
    have hk : k < e.length := by simpa using hk
    rw [getElem!_pos _ (k + 1) (by simp [incL, hk])]
    simp [incL]
  | c :: e, i + 1, 0, _, _ => by simp [incL]
  | c :: e, i + 1, k + 1, hi, hk => by
    have h := incL_get e i k (by simpa using hi) (by simpa using hk)
    have e1 : ∀ (z : Int) (l : List Int) (q : Nat), (z :: l)[q + 1]! = l[q]! := fun z l q => by simp
    rw [incL, e1, e1, e1, h]
    by_cases h1 : k < i
    · rw [if_pos h1, if_pos (show k + 1 < i + 1 by omega)]
    · rw [if_neg h1, if_neg (show ¬ k + 1 < i + 1 by omega)]
      by_cases h2 : k = i
      · rw [if_pos h2, if_pos (show k + 1 = i + 1 by omega)]
      · rw [if_neg h2, if_neg (show ¬ k + 1 = i + 1 by omega)]
theorem numA_cons (a m c : Int) (g e : List Int) : numA a (m :: g) (c :: e) = numA (a * m + c) g e := rfl
theorem numA_zero : ∀ (g : List Int) (a : Int), numA a g (List.replicate g.length 0) = a * prodF g
  | [], a => by simp [numA, prodF]
  | m :: g, a => by
    show numA a (m :: g) (0 :: List.replicate g.length 0) = _
    rw [numA_cons, numA_zero g, Int.add_zero, prodF_cons, Int.mul_assoc]
theorem num_max : ∀ (g e : List Int) (a : Int), e.length = g.length → (∀ k, k < g.length → e[k]! = g[k]! - 1) → numA a g e + 1 = numA (a + 1) g (List.replicate g.length 0)
  | [], [], a, _, _ => by simp [numA]
  | m :: g, c :: e, a, hl, h => by
    have h0 : c = m - 1 := by simpa using h 0 (by simp)
    have ih := num_max g e (a * m + c) (by simpa using hl) (fun k hk => by simpa using h (k + 1) (by simpa using hk))
    show _ = numA (a + 1) (m :: g) (0 :: List.replicate g.length 0)
    rw [numA_cons, numA_cons, ih, h0]
    congr 1
    rw [Int.add_mul]; omega
  | [], _ :: _, _, h, _ => by simp at h
  | _ :: _, [], _, h, _ => by simp at h
theorem num_inc : ∀ (g e : List Int) (a : Int) (i : Nat), e.length = g.length → i < g.length → (∀ k, i < k → k < g.length → e[k]! = g[k]! - 1) → numA a g e + 1 = numA a g (incL e i)
  | [], _, _, _, _, h, _ => by simp at h
  | _ :: _, [], _, _, h, _, _ => by simp at h
  | m :: g, c :: e, a, 0, hl, _, h => by
    have hl : e.length = g.length := by simpa using hl
    have ih := num_max g e (a * m + c) hl (fun k hk => by simpa using h (k + 1) (by omega) (by simpa using hk))
    rw [incL, numA_cons, numA_cons, ih, hl, Int.add_assoc]
  | m :: g, c :: e, a, i + 1, hl, hi, h => by
    have ih := num_inc g e (a * m + c) i (by simpa using hl) (by simpa using hi) (fun k h1 h2 => by simpa using h (k + 1) (by omega) (by simpa using h2))
    rw [incL, numA_cons, numA_cons, ih]

/-! ### The place and the directions -/
def sgn (b : Bool) : Int := if b then -1 else 1
theorem snS_len (g e : List Int) : ∀ k : Nat, (snS g e k).1.length = e.length
  | 0 => rfl
  | k + 1 => by
    have h := snS_len g e k
    simp only [snS]
    split
    · simp [h]
    · exact h
theorem snS_get {g e : List Int} (hl : e.length = g.length) : ∀ (k j : Nat), k ≤ g.length → j < g.length → (snS g e k).1[j]! = if j < k then (if (snS g e j).2 then g[j]! - 1 - e[j]! else e[j]!) else e[j]!
  | 0, j, _, _ => by simp [snS]
  | k + 1, j, hk, hj => by
    have ih := snS_get hl k j (by omega) hj
    have ik := snS_get hl k k (by omega) (by omega)
    rw [if_neg (Nat.lt_irrefl k)] at ik
    simp only [snS]
    have hsl := snS_len g e k
    by_cases hod : (snS g e k).2 = true
    · rw [if_pos hod]
      by_cases hjk : j = k
      · subst hjk
        rw [set_get_self (by omega), ik, if_pos (show j < j + 1 by omega), if_pos hod]
      · rw [set_get_ne hjk, ih]
        by_cases h : j < k
        · rw [if_pos h, if_pos (show j < k + 1 by omega)]
        · rw [if_neg h, if_neg (show ¬ j < k + 1 by omega)]
    · rw [if_neg hod, ih]
      by_cases hjk : j = k
      · subst hjk
        rw [if_neg (Nat.lt_irrefl j), if_pos (show j < j + 1 by omega), if_neg hod]
      · by_cases h : j < k
        · rw [if_pos h, if_pos (show j < k + 1 by omega)]
        · rw [if_neg h, if_neg (show ¬ j < k + 1 by omega)]
theorem snS_odd {g e : List Int} (hl : e.length = g.length) {k : Nat} (hk : k < g.length) : (snS g e (k + 1)).2 = (decide ((snS g e g.length).1[k]!.tmod 2 = 1) != (snS g e k).2) := by
  have h1 := snS_get hl (k + 1) k hk hk
  have h2 := snS_get hl g.length k (Nat.le_refl _) hk
  rw [if_pos (by omega)] at h1
  rw [if_pos hk] at h2
  rw [h2, ← h1]; rfl

def atL (g : List Int) (x : Nat) : List Int := (snS g (coords g x) g.length).1
def byL (g : List Int) (x : Nat) : List Int := (List.range g.length).map fun k => sgn (snS g (coords g x) k).2
theorem byL_get {g : List Int} {x k : Nat} (h : k < g.length) : (byL g x)[k]! = sgn (snS g (coords g x) k).2 := by
  rw [getElem!_pos _ k (by simp [byL, h])]; simp [byL]
/-- The dimension can go on. -/
def okI (g a b : List Int) (i : Nat) : Bool := decide (0 ≤ a[i]! + b[i]!) && decide (a[i]! + b[i]! < g[i]!)
/-- The last dimension that can go on, plus 1; or 0. -/
def fndS (g a b : List Int) : Nat → Nat
  | 0 => 0
  | i + 1 => if okI g a b i then i + 1 else fndS g a b i
theorem fnd_spec (g a b : List Int) : ∀ n : Nat, (fndS g a b n = 0 ∧ ∀ k, k < n → okI g a b k = false) ∨ ∃ i, fndS g a b n = i + 1 ∧ i < n ∧ okI g a b i = true ∧ ∀ k, i < k → k < n → okI g a b k = false
  | 0 => .inl ⟨rfl, fun k hk => absurd hk (Nat.not_lt_zero k)⟩
  | n + 1 => by
    simp only [fndS]
    by_cases h : okI g a b n = true
    · rw [if_pos h]; exact .inr ⟨n, rfl, by omega, h, fun k h1 h2 => by omega⟩
    · rw [if_neg h]
      have h : okI g a b n = false := by simpa using h
      rcases fnd_spec g a b n with ⟨h1, h2⟩ | ⟨i, h1, h2, h3, h4⟩
      · exact .inl ⟨h1, fun k hk => by
          by_cases e : k = n
          · subst e; exact h
          · exact h2 k (by omega)⟩
      · exact .inr ⟨i, h1, by omega, h3, fun k k1 k2 => by
          by_cases e : k = n
          · subst e; exact h
          · exact h4 k k1 (by omega)⟩
section
variable {g : List Int} {x : Nat}
theorem ok_iff (hg : ∀ m ∈ g, 2 ≤ m) {i : Nat} (hi : i < g.length) : okI g (atL g x) (byL g x) i = decide ((coords g x)[i]! < g[i]! - 1) := by
  have hc := coords_in (x := (x : Int)) (by omega) g hg
  have hb := hc.2 i hi
  have ha := snS_get hc.1 g.length i (Nat.le_refl _) hi
  rw [if_pos hi] at ha
  unfold okI
  rw [byL_get hi, show (atL g x)[i]! = _ from ha]
  cases (snS g (coords g x) i).2 with
  | true =>
    simp only [sgn, if_true]
    rw [← Bool.decide_and]
    exact decide_eq_decide.2 (by omega)
  | false =>
    simp only [sgn, Bool.false_eq_true, if_false]
    rw [← Bool.decide_and]
    exact decide_eq_decide.2 (by omega)
theorem snake_end (hg : ∀ m ∈ g, 2 ≤ m) (hx : (x : Int) < prodF g) (h : fndS g (atL g x) (byL g x) g.length = 0) : (x : Int) + 1 = prodF g := by
  rcases fnd_spec g (atL g x) (byL g x) g.length with ⟨_, h2⟩ | ⟨i, h1, _⟩
  · have hc := coords_in (x := (x : Int)) (by omega) g hg
    have hm := num_max g (coords g x) 0 hc.1 (fun k hk => by
      have h3 := h2 k hk
      rw [ok_iff hg hk] at h3
      have := of_decide_eq_false h3
      have := hc.2 k hk
      omega)
    have hn := num_coords (x := (x : Int)) ⟨by omega, hx⟩ hg
    rw [show numA 0 g (coords g x) = numF g (coords g x) from rfl, hn, numA_zero, Int.zero_add, Int.one_mul] at hm
    exact hm
  · omega
theorem snake_next (hg : ∀ m ∈ g, 2 ≤ m) (hx : (x : Int) < prodF g) {i : Nat} (h : fndS g (atL g x) (byL g x) g.length = i + 1) :
    i < g.length ∧ (x : Int) + 1 < prodF g ∧ atL g (x + 1) = (atL g x).set i ((atL g x)[i]! + (byL g x)[i]!) ∧ ∀ k, k < g.length → (byL g (x + 1))[k]! = if i < k then -(byL g x)[k]! else (byL g x)[k]! := by
  have hc := coords_in (x := (x : Int)) (by omega) g hg
  rcases fnd_spec g (atL g x) (byL g x) g.length with ⟨h1, _⟩ | ⟨j, h1, hj, hok, hmx⟩
  · omega
  have : j = i := by omega
  subst this
  rw [ok_iff hg hj] at hok
  have hok := of_decide_eq_true hok
  have hmax : ∀ k, j < k → k < g.length → (coords g x)[k]! = g[k]! - 1 := fun k k1 k2 => by
    have h3 := hmx k k1 k2
    rw [ok_iff hg k2] at h3
    have := of_decide_eq_false h3
    have := hc.2 k k2
    omega
  have hinc := num_inc g (coords g x) 0 j hc.1 hj hmax
  have hn := num_coords (x := (x : Int)) ⟨by omega, hx⟩ hg
  rw [show numA 0 g (coords g x) = numF g (coords g x) from rfl, hn] at hinc
  have hic := incL_get (coords g x) j
  have hcl := hc.1
  have hin : InR g (incL (coords g x) j) := by
    refine ⟨by rw [incL_len, hc.1], fun k hk => ?_⟩
    rw [hic k (by omega) (by omega)]
    have := hc.2 k hk
    have hgk : 2 ≤ g[k]! := by rw [getElem!_pos g k hk]; exact hg _ (List.getElem_mem _)
    split
    · exact this
    · split
      · rename_i e; subst e; omega
      · omega
  have hlt := num_lt hin g.length (Nat.le_refl _)
  rw [List.take_length, List.take_of_length_le (by rw [hin.1]; exact Nat.le_refl _)] at hlt
  have hnum : numF g (incL (coords g x) j) = (x : Int) + 1 := hinc.symm
  have hco : coords g ((x + 1 : Nat) : Int) = incL (coords g x) j := by
    have := coords_num hin
    rw [hnum] at this
    simpa using this
  have hl' : (incL (coords g x) j).length = g.length := hin.1
  -- the places and the parities
  have key : ∀ k : Nat, k ≤ g.length → ((snS g (incL (coords g x) j) k).2 = if j < k then !(snS g (coords g x) k).2 else (snS g (coords g x) k).2) := by
    intro k
    induction k with
    | zero => intro _; simp [snS]
    | succ k ih =>
      intro hk
      have ih := ih (by omega)
      rw [snS_odd hl' (by omega), snS_odd hc.1 (by omega), ih]
      have a1 := snS_get hl' g.length k (Nat.le_refl _) (by omega)
      have a2 := snS_get hc.1 g.length k (Nat.le_refl _) (by omega)
      rw [if_pos (by omega)] at a1 a2
      rw [a1, a2, ih, hic k (by omega) (by omega)]
      have hbk := hc.2 k (by omega)
      have hgk : 2 ≤ g[k]! := by rw [getElem!_pos g k (by omega)]; exact hg _ (List.getElem_mem _)
      rcases Nat.lt_trichotomy k j with h | h | h
      · simp only [if_neg (show ¬ j < k by omega), if_neg (show ¬ j < k + 1 by omega), if_pos h]
      · subst h
        simp only [if_neg (Nat.lt_irrefl k), if_pos (show k < k + 1 by omega), if_true]
        generalize (coords g x)[k]! = c at *
        generalize g[k]! = m at *
        cases (snS g (coords g x) k).2 with
        | true =>
          simp only [if_true]
          rw [Int.tmod_eq_emod_of_nonneg (by omega), Int.tmod_eq_emod_of_nonneg (by omega)]
          have : decide ((m - 1 - (c + 1)) % 2 = 1) = !decide ((m - 1 - c) % 2 = 1) := by
            by_cases e : (m - 1 - c) % 2 = 1
            · rw [decide_eq_true e, decide_eq_false (by omega)]; rfl
            · rw [decide_eq_false e, decide_eq_true (by omega)]; rfl
          rw [this]; cases decide ((m - 1 - c) % 2 = 1) <;> rfl
        | false =>
          simp only [Bool.false_eq_true, if_false]
          rw [Int.tmod_eq_emod_of_nonneg (by omega), Int.tmod_eq_emod_of_nonneg (by omega)]
          have : decide ((c + 1) % 2 = 1) = !decide (c % 2 = 1) := by
            by_cases e : c % 2 = 1
            · rw [decide_eq_true e, decide_eq_false (by omega)]; rfl
            · rw [decide_eq_false e, decide_eq_true (by omega)]; rfl
          rw [this]; cases decide (c % 2 = 1) <;> rfl
      · simp only [if_pos h, if_pos (show j < k + 1 by omega), if_neg (show ¬ k < j by omega), if_neg (show ¬ k = j by omega), hmax k h (by omega)]
        cases (snS g (coords g x) k).2 with
        | true =>
          simp only [Bool.not_true, Bool.false_eq_true, if_false, if_true]
          rw [show g[k]! - 1 - (g[k]! - 1) = 0 by omega]
          cases decide ((0 : Int).tmod 2 = 1) <;> rfl
        | false =>
          simp only [Bool.not_false, Bool.false_eq_true, if_false, if_true]
          rw [show g[k]! - 1 - 0 = g[k]! - 1 by omega]
          cases decide ((g[k]! - 1).tmod 2 = 1) <;> rfl
  refine ⟨hj, by rw [← hnum]; exact hlt.2, ?_, fun k hk => ?_⟩
  · refine ext! (by simp only [atL, hco]; rw [List.length_set, snS_len, snS_len, incL_len]) (fun k hk => ?_)
    have hal' : (atL g (x + 1)).length = g.length := by unfold atL; rw [snS_len, hco, hl']
    rw [hal'] at hk
    have a1 := snS_get hl' g.length k (Nat.le_refl _) hk
    have a2 := snS_get hc.1 g.length k (Nat.le_refl _) hk
    rw [if_pos hk] at a1 a2
    have b1 : atL g (x + 1) = (snS g (incL (coords g x) j) g.length).1 := by unfold atL; rw [hco]
    rw [b1, a1, key k (by omega), hic k (by omega) (by omega)]
    have b2 := show (atL g x)[k]! = _ from a2
    have hal : (atL g x).length = g.length := by simp only [atL, snS_len, hc.1]
    rcases Nat.lt_trichotomy k j with h | h | h
    · rw [set_get_ne (by omega), b2]
      simp only [if_neg (show ¬ j < k by omega), if_pos h]
    · subst h
      rw [set_get_self (by omega), b2, byL_get hk]
      simp only [if_neg (Nat.lt_irrefl k), if_true]
      cases (snS g (coords g x) k).2 with
      | true => simp only [sgn, if_true]; omega
      | false => simp only [sgn, Bool.false_eq_true, if_false]
    · rw [set_get_ne (by omega), b2]
      simp only [if_pos h, if_neg (show ¬ k < j by omega), if_neg (show ¬ k = j by omega), hmax k h hk]
      cases (snS g (coords g x) k).2 with
      | true => simp only [Bool.not_true, Bool.false_eq_true, if_false, if_true]; omega
      | false => simp only [Bool.not_false, Bool.false_eq_true, if_false, if_true]; omega
  · rw [byL_get hk, byL_get hk, hco, key k (by omega)]
    by_cases h : j < k
    · rw [if_pos h, if_pos h]; cases (snS g (coords g x) k).2 <;> rfl
    · rw [if_neg h, if_neg h]
end
end Go.Af.Try
namespace Go.Af.Try
open Go

def nrB (m a b : Int) : Bool := decide (max (a - b) (b - a) = 1) || decide (max (a - b) (b - a) = m - 1)
theorem step_near {m a b : Int} (hm : 2 ≤ m) (a0 : 0 ≤ a) (a1 : a < m) (b0 : 0 ≤ b) (b1 : b < m) (hab : a ≠ b) :
    (if stepF m 1 a = b then 1 else 0) + (if m = 2 then 0 else if stepF m (-1) a = b then 1 else 0) = (if nrB m a b then 1 else 0 : Nat) := by
  rw [step_up hm a0 a1, step_dn hm a0 a1]
  have e : nrB m a b = decide (max (a - b) (b - a) = 1 ∨ max (a - b) (b - a) = m - 1) := by unfold nrB; rw [Bool.decide_or]
  rw [e]
  simp only [decide_eq_true_eq]
  repeat' split
  all_goals omega
section
variable {g c d : List Int}
theorem lnS_eq : ∀ {K : Nat}, (∀ j, j < K → c[j]! = d[j]!) → lnS g c d K = (0, true)
  | 0, _ => rfl
  | K + 1, h => by rw [lnS, if_pos (h K (by omega)), lnS_eq (fun j hj => h j (by omega))]
theorem lnS_one {i : Nat} (hi : c[i]! ≠ d[i]!) : ∀ {K : Nat}, i < K → (∀ j, j < K → j ≠ i → c[j]! = d[j]!) → lnS g c d K = (1, nrB g[i]! c[i]! d[i]!)
  | 0, h, _ => by omega
  | K + 1, h, ho => by
    by_cases e : K = i
    · subst e
      rw [lnS, if_neg hi, lnS_eq (fun j hj => ho j (by omega) (by omega))]; rfl
    · rw [lnS, if_pos (ho K (by omega) e), lnS_one hi (by omega) (fun j hj hji => ho j (by omega) hji)]
theorem lnS_mono : ∀ {K K' : Nat}, K ≤ K' → (lnS g c d K).1 ≤ (lnS g c d K').1
  | K, 0, h => by have : K = 0 := by omega
                  subst this; exact Int.le_refl _
  | K, K' + 1, h => by
    by_cases e : K = K' + 1
    · subst e; exact Int.le_refl _
    · have := lnS_mono (K := K) (K' := K') (by omega)
      rw [lnS]
      split
      · exact this
      · simp only; omega
theorem lnS_ge (g : List Int) {i : Nat} (hi : c[i]! ≠ d[i]!) : (lnS g c d (i + 1)).1 = (lnS g c d i).1 + 1 := by rw [lnS, if_neg hi]
theorem lnS_two {i j K : Nat} (hi : c[i]! ≠ d[i]!) (hj : c[j]! ≠ d[j]!) (hij : i < j) (hK : j < K) : 2 ≤ (lnS g c d K).1 := by
  have h1 := lnS_ge (c := c) (d := d) g hi
  have h2 := lnS_ge (c := c) (d := d) g hj
  have h3 := lnS_mono (g := g) (c := c) (d := d) (K := i + 1) (K' := j) (by omega)
  have h4 := lnS_mono (g := g) (c := c) (d := d) (K := j + 1) (K' := K) (by omega)
  have h5 := lnS_bd g c d i
  omega
theorem set_eq_iff (hc : InR g c) (hd : InR g d) {i : Nat} (hi : i < g.length) (v : Int) : c.set i v = d ↔ v = d[i]! ∧ ∀ j, j < g.length → j ≠ i → c[j]! = d[j]! := by
  constructor
  · rintro rfl
    exact ⟨(set_get_self (by rw [hc.1]; exact hi)).symm, fun j hj hji => (set_get_ne hji).symm⟩
  · rintro ⟨hv, ho⟩
    refine List.ext_getElem (by rw [List.length_set, hc.1, hd.1]) (fun k h1 h2 => ?_)
    have hk : k < g.length := by rw [← hd.1]; exact h2
    rw [List.length_set] at h1
    by_cases e : k = i
    · subst e
      rw [List.getElem_set_self, hv, getElem!_pos d k h2]
    · rw [List.getElem_set_ne (by omega)]
      have := ho k hk e
      rwa [getElem!_pos c k h1, getElem!_pos d k h2] at this
theorem nbK_count (hc : InR g c) (hd : InR g d) {i : Nat} (hi : i < g.length) (hm : 2 ≤ g[i]!) :
    ((¬ ∀ j, j < g.length → j ≠ i → c[j]! = d[j]!) → (nbK g c i 2).count (numF g d) = 0) ∧
    ((∀ j, j < g.length → j ≠ i → c[j]! = d[j]!) → (nbK g c i 2).count (numF g d) = if c[i]! = d[i]! then 0 else if nrB g[i]! c[i]! d[i]! then 1 else 0) := by
  have hcs : ∀ s : Int, s = 1 ∨ s = -1 → InR g (c.set i (stepF g[i]! s c[i]!)) := fun s hs => by
    have h := step_in hm hs (hc.2 i hi).1
    exact hc.set hi h.1 h.2
  have inj : ∀ {a b : List Int}, InR g a → InR g b → (numF g a = numF g b ↔ a = b) := fun {a b} ha hb => ⟨fun h => by rw [← coords_num ha, ← coords_num hb, h], fun h => by rw [h]⟩
  have e : nbK g c i 2 = numF g (c.set i (stepF g[i]! 1 c[i]!)) :: (if g[i]! = 2 then [] else [numF g (c.set i (stepF g[i]! (-1) c[i]!))]) := rfl
  have e2 : (nbK g c i 2).count (numF g d) = (if stepF g[i]! 1 c[i]! = d[i]! ∧ ∀ j, j < g.length → j ≠ i → c[j]! = d[j]! then 1 else 0) + (if g[i]! = 2 then 0 else if stepF g[i]! (-1) c[i]! = d[i]! ∧ ∀ j, j < g.length → j ≠ i → c[j]! = d[j]! then 1 else 0) := by
    rw [e]
    by_cases h2 : g[i]! = 2
    · simp only [if_pos h2, List.count_cons, List.count_nil, beq_iff_eq, inj (hcs 1 (.inl rfl)) hd, set_eq_iff hc hd hi]
      omega
    · simp only [if_neg h2, List.count_cons, List.count_nil, beq_iff_eq, inj (hcs 1 (.inl rfl)) hd, inj (hcs (-1) (.inr rfl)) hd, set_eq_iff hc hd hi]
      omega
  rw [e2]
  constructor
  · intro hno
    simp only [hno, and_false, if_false, ite_self]
  · intro ho
    have ho' : (∀ j, j < g.length → j ≠ i → c[j]! = d[j]!) = True := eq_true ho
    simp only [ho', and_true]
    have hb := hc.2 i hi
    have hb2 := hd.2 i hi
    by_cases hcd : c[i]! = d[i]!
    · rw [if_pos hcd, step_up hm hb.1 hb.2, step_dn hm hb.1 hb.2]
      repeat' split
      all_goals omega
    · rw [if_neg hcd]
      exact step_near hm hb.1 hb.2 hb2.1 hb2.2 hcd
theorem preG_zero (hc : InR g c) (hd : InR g d) (hg : ∀ m ∈ g, 2 ≤ m) : ∀ K : Nat, K ≤ g.length → (∀ i, i < K → ¬ ((∀ j, j < g.length → j ≠ i → c[j]! = d[j]!) ∧ c[i]! ≠ d[i]! ∧ nrB g[i]! c[i]! d[i]! = true)) → (preG g c K).count (numF g d) = 0
  | 0, _, _ => rfl
  | K + 1, hK, h => by
    have hm : 2 ≤ g[K]! := by rw [getElem!_pos g K (by omega)]; exact hg _ (List.getElem_mem _)
    rw [preG, List.count_append, preG_zero hc hd hg K (by omega) (fun i hi => h i (by omega)), Nat.zero_add]
    have hn := nbK_count hc hd (show K < g.length by omega) hm
    by_cases ho : ∀ j, j < g.length → j ≠ K → c[j]! = d[j]!
    · rw [hn.2 ho]
      by_cases h1 : c[K]! = d[K]!
      · rw [if_pos h1]
      · rw [if_neg h1]
        by_cases h2 : nrB g[K]! c[K]! d[K]! = true
        · exact absurd ⟨ho, h1, h2⟩ (h K (by omega))
        · rw [if_neg h2]
    · exact hn.1 ho
theorem preG_one (hc : InR g c) (hd : InR g d) (hg : ∀ m ∈ g, 2 ≤ m) {i : Nat} (hi : (∀ j, j < g.length → j ≠ i → c[j]! = d[j]!) ∧ c[i]! ≠ d[i]! ∧ nrB g[i]! c[i]! d[i]! = true) : ∀ K : Nat, K ≤ g.length → i < K → (preG g c K).count (numF g d) = 1
  | 0, _, h => by omega
  | K + 1, hK, h => by
    have hm : 2 ≤ g[K]! := by rw [getElem!_pos g K (by omega)]; exact hg _ (List.getElem_mem _)
    have hn := nbK_count hc hd (show K < g.length by omega) hm
    rw [preG, List.count_append]
    by_cases e : i = K
    · subst e
      rw [hn.2 hi.1, if_neg hi.2.1, if_pos hi.2.2, preG_zero hc hd hg i (by omega) (fun j hj hx => hi.2.1 (hx.1 i (by omega) (by omega)))]
    · rw [preG_one hc hd hg hi K (by omega) (by omega), hn.1 (fun hx => hi.2.1 (hx i (by omega) e))]
end
theorem near_grid {g : List Int} {n : Nat} (hok : (Sh.grid g).ok) (hn : prodF g = n) {x y : Nat} (hx : x < n) (hy : y < n) : (nearG g x).count (y : Int) = if (Sh.grid g).lnk x y then 1 else 0 := by
  have hg : ∀ m ∈ g, 2 ≤ m := fun m h => (hok.2.2.1 m h).1
  have hc := coords_in (x := (x : Int)) (by omega) g hg
  have hd := coords_in (x := (y : Int)) (by omega) g hg
  have hnx := num_coords (x := (x : Int)) ⟨by omega, by omega⟩ hg
  have hny := num_coords (x := (y : Int)) ⟨by omega, by omega⟩ hg
  have e : (nearG g x).count (y : Int) = (preG g (coords g x) g.length).count (numF g (coords g y)) := by rw [hny]; rfl
  rw [e]
  simp only [Sh.lnk]
  by_cases hxy : (x : Int) = y
  · rw [if_pos hxy]
    exact preG_zero hc hd hg _ (Nat.le_refl _) (fun i hi h => h.2.1 (by rw [hxy]))
  rw [if_neg hxy]
  have hne : coords g x ≠ coords g y := fun h => hxy (by rw [← hnx, ← hny, h])
  obtain ⟨i, hi, hdi⟩ : ∃ i, i < g.length ∧ (coords g x)[i]! ≠ (coords g y)[i]! := by
    apply Classical.byContradiction
    intro hno
    refine hne (List.ext_getElem (by rw [hc.1, hd.1]) (fun k h1 h2 => ?_))
    have : (coords g x)[k]! = (coords g y)[k]! := Classical.byContradiction fun hk => hno ⟨k, by rw [← hc.1]; exact h1, hk⟩
    rwa [getElem!_pos _ k h1, getElem!_pos _ k h2] at this
  by_cases ho : ∀ j, j < g.length → j ≠ i → (coords g x)[j]! = (coords g y)[j]!
  · have hl := lnS_one (g := g) hdi hi ho
    unfold lnG
    rw [hl]
    by_cases hnr : nrB g[i]! (coords g x)[i]! (coords g y)[i]! = true
    · rw [preG_one hc hd hg ⟨ho, hdi, hnr⟩ _ (Nat.le_refl _) hi, hnr]; rfl
    · rw [preG_zero hc hd hg _ (Nat.le_refl _) (fun j hj hx => by
        by_cases hji : j = i
        · subst hji; exact hnr hx.2.2
        · exact hx.2.1 (ho j hj hji))]
      have hnr : nrB g[i]! (coords g x)[i]! (coords g y)[i]! = false := by simpa using hnr
      rw [hnr]; rfl
  · obtain ⟨j, hj, hji, hdj⟩ : ∃ j, j < g.length ∧ j ≠ i ∧ (coords g x)[j]! ≠ (coords g y)[j]! := by
      apply Classical.byContradiction
      intro hno
      exact ho fun j hj hji => Classical.byContradiction fun hk => hno ⟨j, hj, hji, hk⟩
    have h2 : 2 ≤ (lnS g (coords g x) (coords g y) g.length).1 := by
      rcases Nat.lt_or_gt_of_ne hji with h | h
      · exact lnS_two hdj hdi h hi
      · exact lnS_two hdi hdj h hj
    unfold lnG
    rw [decide_eq_false (show ¬ (lnS g (coords g x) (coords g y) g.length).1 = 1 by omega)]
    refine preG_zero hc hd hg _ (Nat.le_refl _) (fun k hk hx => ?_)
    by_cases h1 : i = k
    · subst h1; exact hdj (hx.1 j hj hji)
    · exact hdi (hx.1 i hi h1)

/-! ### Fat trees -/
theorem div_uniq {p a r a' r' : Nat} (h : a * p + r = a' * p + r') (hr : r < p) (hr' : r' < p) : a = a' ∧ r = r' := by
  have hp : 0 < p := by omega
  have e1 : (a * p + r) / p = a := by rw [Nat.add_comm, Nat.mul_comm, Nat.add_mul_div_left _ _ hp, Nat.div_eq_of_lt hr, Nat.zero_add]
  have e2 : (a' * p + r') / p = a' := by rw [Nat.add_comm, Nat.mul_comm, Nat.add_mul_div_left _ _ hp, Nat.div_eq_of_lt hr', Nat.zero_add]
  have e : a = a' := by rw [← e1, h, e2]
  subst e
  exact ⟨rfl, by omega⟩
theorem count_one {f : Nat → Int} {y : Int} {e : Nat} {c : Prop} [Decidable c] : ∀ m : Nat, (∀ d, d < m → (f d = y ↔ d = e ∧ c)) → ((List.range m).map f).count y = if e < m ∧ c then 1 else 0
  | 0, _ => by simp
  | m + 1, h => by
    rw [List.range_succ, List.map_append, List.count_append, count_one m (fun d hd => h d (by omega))]
    simp only [List.map_cons, List.map_nil, List.count_cons, List.count_nil, beq_iff_eq, h m (by omega)]
    by_cases hc : c
    · by_cases he : m = e
      · subst he; simp [hc]
      · have : (e < m + 1) ↔ e < m := by omega
        simp [hc, he, this]
    · simp [hc]
theorem dig_nat (K X i : Nat) : digF (K : Int) (X : Int) i = ((X / K ^ i % K : Nat) : Int) := by
  unfold digF
  rw [← Int.natCast_pow, ← Int.ofNat_tdiv, ← Int.ofNat_tmod]
theorem lik_nat {K W i d : Nat} (hd : d < K) : likF (K : Int) (W : Int) i ((d : Int) * (K : Int) ^ i) = (((W / K ^ i / K * K + d) * K ^ i + W % K ^ i : Nat) : Int) := by
  have hp : 0 < K ^ i := Nat.pow_pos (by omega)
  have e0 : (d : Int) * (K : Int) ^ i = ((d * K ^ i : Nat) : Int) := by simp
  unfold likF
  rw [e0, dig_nat, dig_nat, Nat.mul_div_cancel _ hp, Nat.mod_eq_of_lt hd]
  have e1 : W = (W / K ^ i / K * K + W / K ^ i % K) * K ^ i + W % K ^ i := by
    rw [Nat.mul_comm (W / K ^ i / K) K, Nat.div_add_mod, Nat.mul_comm, Nat.div_add_mod]
  rw [← Int.natCast_pow]
  generalize W / K ^ i / K = Q at *
  generalize W / K ^ i % K = D at *
  generalize W % K ^ i = r at *
  generalize K ^ i = p at *
  subst e1
  simp only [Int.natCast_add, Int.natCast_mul, Int.add_mul, Int.sub_mul]
  omega
theorem lik_nat0 {K W i : Nat} (hK : 0 < K) : likF (K : Int) (W : Int) i 0 = ((W / K ^ i / K * K * K ^ i + W % K ^ i : Nat) : Int) := by
  have h := lik_nat (K := K) (W := W) (i := i) (d := 0) hK
  simpa using h
theorem lik_iff {K W W' i d : Nat} (hd : d < K) : likF (K : Int) (W : Int) i ((d : Int) * (K : Int) ^ i) = (W' : Int) ↔ d = W' / K ^ i % K ∧ likF (K : Int) (W : Int) i 0 = likF (K : Int) (W' : Int) i 0 := by
  have hK : 0 < K := by omega
  have hp : 0 < K ^ i := Nat.pow_pos hK
  rw [lik_nat hd, lik_nat0 hK, lik_nat0 hK]
  have e1 : W' = (W' / K ^ i / K * K + W' / K ^ i % K) * K ^ i + W' % K ^ i := by
    rw [Nat.mul_comm (W' / K ^ i / K) K, Nat.div_add_mod, Nat.mul_comm, Nat.div_add_mod]
  have hr := Nat.mod_lt W hp
  have hr' := Nat.mod_lt W' hp
  have hD := Nat.mod_lt (W' / K ^ i) hK
  constructor
  · intro h
    have h : (W / K ^ i / K * K + d) * K ^ i + W % K ^ i = W' := by exact_mod_cast h
    have h2 := div_uniq (h.trans e1) hr hr'
    have h3 := div_uniq h2.1 hd hD
    exact ⟨h3.2, by rw [h3.1, h2.2]⟩
  · rintro ⟨h1, h2⟩
    have h2 : W / K ^ i / K * K * K ^ i + W % K ^ i = W' / K ^ i / K * K * K ^ i + W' % K ^ i := by exact_mod_cast h2
    have h3 := div_uniq h2 hr hr'
    have h4 : W / K ^ i / K = W' / K ^ i / K := Nat.eq_of_mul_eq_mul_right hK h3.1
    rw [h4, h1, h3.2, ← e1]
theorem ndF_count {K N W W' i lv lv' : Nat} (hi : i < N) (hW : W < K ^ N) (hW' : W' < K ^ N) (hK : 2 ≤ K) :
    (ndF (K : Int) N (W : Int) i lv K).count ((lv' * K ^ N + W' : Nat) : Int) = if lv = lv' ∧ likF (K : Int) (W : Int) i 0 = likF (K : Int) (W' : Int) i 0 then 1 else 0 := by
  unfold ndF
  rw [count_one (e := W' / K ^ i % K) (c := lv = lv' ∧ likF (K : Int) (W : Int) i 0 = likF (K : Int) (W' : Int) i 0) K]
  · have : W' / K ^ i % K < K := Nat.mod_lt _ (by omega)
    simp only [this, true_and]
  · intro d hd
    have hl := (lik_in (k := (K : Int)) (w := (W : Int)) (o := (d : Int) * (K : Int) ^ i) (by omega) hi (by omega) (by exact_mod_cast hW) (Int.mul_nonneg (by omega) (Int.pow_nonneg (by omega)))).1
    have hiff := lik_iff (K := K) (W := W) (W' := W') (i := i) hd
    generalize likF (K : Int) (W : Int) i ((d : Int) * (K : Int) ^ i) = q at *
    obtain ⟨q', rfl⟩ : ∃ q' : Nat, q = q' := ⟨q.toNat, by omega⟩
    have hq : q' < K ^ N := by exact_mod_cast hl.2
    constructor
    · intro h
      have h : lv * K ^ N + q' = lv' * K ^ N + W' := by exact_mod_cast h
      have h2 := div_uniq h hq hW'
      have h3 := hiff.1 (by rw [h2.2])
      exact ⟨h3.1, h2.1, h3.2⟩
    · rintro ⟨h1, h2, h3⟩
      have h4 := hiff.2 ⟨h1, h3⟩
      have h4 : q' = W' := by exact_mod_cast h4
      rw [h2, h4]; simp
theorem near_fat {k m : Int} {n : Nat} (hok : (Sh.fat k m).ok) (hn : (Sh.fat k m).sw = n) {x y : Nat} (hx : x < n) (hy : y < n) : (nearFa k m x).count (y : Int) = if (Sh.fat k m).lnk x y then 1 else 0 := by
  obtain ⟨hk, hm, _⟩ := hok
  obtain ⟨K, rfl⟩ : ∃ K : Nat, k = K := ⟨k.toNat, by omega⟩
  obtain ⟨N, hN⟩ : ∃ N, (m - 1).toNat = N := ⟨_, rfl⟩
  have hmN : m = ((N + 1 : Nat) : Int) := by omega
  simp only [Sh.sw, hN] at hn
  have hP : 0 < K ^ N := Nat.pow_pos (by omega)
  have hnP : n = (N + 1) * K ^ N := by rw [hmN] at hn; exact_mod_cast hn.symm
  have ex := Nat.div_add_mod x (K ^ N)
  have ey := Nat.div_add_mod y (K ^ N)
  have hwx := Nat.mod_lt x hP
  have hwy := Nat.mod_lt y hP
  have hlx : x / K ^ N < N + 1 := Nat.div_lt_of_lt_mul (by rw [Nat.mul_comm, ← hnP]; exact hx)
  have hly : y / K ^ N < N + 1 := Nat.div_lt_of_lt_mul (by rw [Nat.mul_comm, ← hnP]; exact hy)
  have td : ∀ z : Nat, (z : Int).tdiv ((K : Int) ^ N) = ((z / K ^ N : Nat) : Int) := fun z => by rw [← Int.natCast_pow, ← Int.ofNat_tdiv]
  have tm : ∀ z : Nat, (z : Int).tmod ((K : Int) ^ N) = ((z % K ^ N : Nat) : Int) := fun z => by rw [← Int.natCast_pow, ← Int.ofNat_tmod]
  have hnear : nearFa (K : Int) m x = upN (K : Int) m N ((x % K ^ N : Nat) : Int) (x / K ^ N) 2 := by
    unfold nearFa; rw [hN, td, tm, Int.toNat_natCast]
  have e : upN (K : Int) m N ((x % K ^ N : Nat) : Int) (x / K ^ N) 2 = nuF (K : Int) m N ((x % K ^ N : Nat) : Int) (x / K ^ N) 0 ++ nuF (K : Int) m N ((x % K ^ N : Nat) : Int) (x / K ^ N) 1 := by simp [upN]
  have hy' : (y : Int) = (((y / K ^ N) * K ^ N + y % K ^ N : Nat) : Int) := by rw [Nat.mul_comm, ey]
  rw [hnear, e, List.count_append]
  have lnkE : (Sh.fat (K : Int) m).lnk x y = if x = y then false else lnFa K N x y := by
    simp only [Sh.lnk, hN]
    by_cases h : x = y
    · rw [if_pos h, if_pos (by omega)]
    · rw [if_neg h, if_neg (by omega)]
  -- the levels
  have low : ∀ {a b : Nat}, a / K ^ N < b / K ^ N → a < b := fun {a b} h => by
    rcases Nat.lt_or_ge a b with h1 | h1
    · exact h1
    · have := Nat.div_le_div_right (c := K ^ N) h1; omega
  have c0 : (nuF (K : Int) m N ((x % K ^ N : Nat) : Int) (x / K ^ N) 0).count (y : Int) = if x / K ^ N = y / K ^ N + 1 ∧ likF (K : Int) ((x % K ^ N : Nat) : Int) (y / K ^ N) 0 = likF (K : Int) ((y % K ^ N : Nat) : Int) (y / K ^ N) 0 then 1 else 0 := by
    cases hl : x / K ^ N with
    | zero => simp [nuF]
    | succ dn =>
      simp only [nuF, Int.toNat_natCast]
      conv => lhs; rw [hy']
      rw [ndF_count (by omega) hwx hwy (by omega)]
      by_cases h1 : dn = y / K ^ N
      · subst h1; simp
      · have : ¬ dn + 1 = y / K ^ N + 1 := by omega
        simp [h1]
  have c1 : (nuF (K : Int) m N ((x % K ^ N : Nat) : Int) (x / K ^ N) 1).count (y : Int) = if x / K ^ N + 1 = y / K ^ N ∧ likF (K : Int) ((x % K ^ N : Nat) : Int) (x / K ^ N) 0 = likF (K : Int) ((y % K ^ N : Nat) : Int) (x / K ^ N) 0 then 1 else 0 := by
    simp only [nuF, Int.toNat_natCast]
    by_cases hlm : ((x / K ^ N : Nat) : Int) + 1 < m
    · rw [if_pos hlm]
      conv => lhs; rw [hy']
      rw [ndF_count (by omega) hwx hwy (by omega)]
    · rw [if_neg hlm, if_neg (by omega)]; rfl
  rw [c0, c1, lnkE]
  unfold lnFa
  by_cases hxy : x = y
  · subst hxy
    rw [if_neg (by omega), if_neg (by omega), if_pos rfl]; rfl
  rw [if_neg hxy]
  rcases Nat.lt_trichotomy (x / K ^ N) (y / K ^ N) with h | h | h
  · have hlt := low h
    have emax : max (x : Int) (y : Int) = y := by omega
    have emin : min (x : Int) (y : Int) = x := by omega
    rw [emax, emin, td, td, tm, tm, Int.toNat_natCast, if_neg (by omega), Nat.zero_add]
    by_cases h1 : x / K ^ N + 1 = y / K ^ N
    · have h1' : ((y / K ^ N : Nat) : Int) = ((x / K ^ N : Nat) : Int) + 1 := by omega
      rw [decide_eq_true h1', Bool.true_and]
      simp only [h1, true_and, decide_eq_true_eq]
    · have h1' : ¬ ((y / K ^ N : Nat) : Int) = ((x / K ^ N : Nat) : Int) + 1 := by omega
      rw [decide_eq_false h1', if_neg (fun hx => h1 hx.1)]; rfl
  · rw [if_neg (by omega), if_neg (by omega)]
    have : ¬ (max (x : Int) (y : Int)).tdiv ((K : Int) ^ N) = (min (x : Int) (y : Int)).tdiv ((K : Int) ^ N) + 1 := by
      rcases Nat.lt_or_ge x y with h1 | h1
      · rw [show max (x : Int) (y : Int) = y by omega, show min (x : Int) (y : Int) = x by omega, td, td]; omega
      · rw [show max (x : Int) (y : Int) = x by omega, show min (x : Int) (y : Int) = y by omega, td, td]; omega
    rw [decide_eq_false this]; rfl
  · have hlt := low h
    have emax : max (x : Int) (y : Int) = x := by omega
    have emin : min (x : Int) (y : Int) = y := by omega
    rw [emax, emin, td, td, tm, tm, Int.toNat_natCast, if_neg (show ¬ (x / K ^ N + 1 = y / K ^ N ∧ _) by omega), Nat.add_zero]
    by_cases h1 : x / K ^ N = y / K ^ N + 1
    · have h1' : ((x / K ^ N : Nat) : Int) = ((y / K ^ N : Nat) : Int) + 1 := by omega
      rw [decide_eq_true h1', Bool.true_and]
      simp only [h1, true_and, decide_eq_true_eq]
      by_cases h2 : likF (K : Int) ((x % K ^ N : Nat) : Int) (y / K ^ N) 0 = likF (K : Int) ((y % K ^ N : Nat) : Int) (y / K ^ N) 0
      · rw [if_pos h2, if_pos h2.symm]
      · rw [if_neg h2, if_neg (fun h3 => h2 h3.symm)]
    · have h1' : ¬ ((x / K ^ N : Nat) : Int) = ((y / K ^ N : Nat) : Int) + 1 := by omega
      rw [decide_eq_false h1', if_neg (fun hx => h1 hx.1)]; rfl

/-! ### Dragonflies -/
theorem div_uniqI {p a r a' r' : Int} (h : a * p + r = a' * p + r') (r0 : 0 ≤ r) (hr : r < p) (r0' : 0 ≤ r') (hr' : r' < p) : a = a' ∧ r = r' := by
  have key : ∀ {a a' r r' : Int}, a * p + r = a' * p + r' → 0 ≤ r → r < p → 0 ≤ r' → r' < p → ¬ a < a' := fun {a a' r r'} h r0 hr r0' hr' hlt => by
    have := Int.mul_le_mul_of_nonneg_right (show a + 1 ≤ a' by omega) (show 0 ≤ p by omega)
    rw [Int.add_mul, Int.one_mul] at this
    omega
  have e : a = a' := by
    have h1 := key h r0 hr r0' hr'
    have h2 := key h.symm r0' hr' r0 hr
    omega
  subst e
  exact ⟨rfl, by omega⟩
theorem gap_back {M g j : Int} (h0 : 0 ≤ g) (h1 : g < M) (j0 : 0 ≤ j) (j1 : j < M) (hne : g ≠ j) : (g + (j - g - 1 + M).tmod M + 1).tmod M = j := by
  by_cases h : g < j
  · rw [Int.tmod_eq_emod_of_nonneg (show 0 ≤ j - g - 1 + M by omega), Int.add_emod_right, Int.emod_eq_of_lt (by omega) (by omega), Int.tmod_eq_emod_of_nonneg (by omega), Int.emod_eq_of_lt (by omega) (by omega)]; omega
  · rw [Int.tmod_eq_emod_of_nonneg (show 0 ≤ j - g - 1 + M by omega), Int.emod_eq_of_lt (by omega) (by omega), show g + (j - g - 1 + M) + 1 = j + M by omega, Int.tmod_eq_emod_of_nonneg (by omega), Int.add_emod_right, Int.emod_eq_of_lt (by omega) (by omega)]
theorem faF_count {a g p g' p' : Int} (ha : 1 ≤ a) (p0 : 0 ≤ p') (p1 : p' < a) : ∀ m : Nat, (m : Int) ≤ a → (faF a g p m).count (g' * a + p') = if g = g' ∧ p' < m ∧ p' ≠ p then 1 else 0
  | 0, _ => by rw [if_neg (by omega)]; rfl
  | m + 1, hm => by
    rw [faF, List.count_append, faF_count ha p0 p1 m (by omega)]
    have hq : (g * a + (m : Int) = g' * a + p') ↔ g = g' ∧ (m : Int) = p' := ⟨fun h => div_uniqI h (by omega) (by omega) p0 p1, fun h => by rw [h.1, h.2]⟩
    by_cases hmp : (m : Int) = p
    · rw [if_pos hmp, List.count_nil, Nat.add_zero]
      by_cases h : g = g' ∧ p' < m ∧ p' ≠ p
      · rw [if_pos h, if_pos (by omega)]
      · rw [if_neg h, if_neg (by omega)]
    · rw [if_neg hmp]
      simp only [List.count_cons, List.count_nil, beq_iff_eq, hq]
      by_cases h : g = g' ∧ p' < m ∧ p' ≠ p
      · rw [if_pos h, if_neg (by omega), if_pos (by omega)]
      · rw [if_neg h]
        by_cases h2 : g = g' ∧ (m : Int) = p'
        · rw [if_pos h2, if_pos (by omega)]
        · rw [if_neg h2, if_neg (by omega)]
theorem fbF_count {a h g p g' p' : Int} (ha : 1 ≤ a) (hh : 1 ≤ h) (g0 : 0 ≤ g) (g1 : g < a * h + 1) (q0 : 0 ≤ g') (q1 : g' < a * h + 1) (a0 : 0 ≤ p) (a1 : p < a) (p0 : 0 ≤ p') (p1 : p' < a) : ∀ j : Nat, (j : Int) ≤ h →
    (fbF a h g p j).count (g' * a + p') = if g ≠ g' ∧ p * h ≤ gapF a h g g' ∧ gapF a h g g' < p * h + j ∧ (a * h + 1 - 2 - gapF a h g g').tdiv h = p' then 1 else 0
  | 0, _ => by rw [if_neg (by omega)]; rfl
  | j + 1, hj => by
    rw [fbF, List.count_append, fbF_count ha hh g0 g1 q0 q1 a0 a1 p0 p1 j (by omega)]
    have e1 : (p + 1) * h ≤ a * h := Int.mul_le_mul_of_nonneg_right (by omega) (by omega)
    have e2 : (p + 1) * h = p * h + h := by rw [Int.add_mul, Int.one_mul]
    have e3 : 0 ≤ p * h := Int.mul_nonneg a0 (by omega)
    have hm0 : 0 ≤ p * h + (j : Int) := by omega
    have hm1 : p * h + (j : Int) < a * h := by omega
    have hgm := gap_m (a := a) (h := h) g0 g1 hm0 hm1
    have hG0 : 0 ≤ (g + (p * h + (j : Int)) + 1).tmod (a * h + 1) := Int.tmod_nonneg _ (by omega)
    have hne : (g + (p * h + (j : Int)) + 1).tmod (a * h + 1) ≠ g := by
      intro hx
      rw [hx] at hgm
      unfold gapF at hgm
      rw [show g - g - 1 + (a * h + 1) = a * h by omega, Int.tmod_eq_emod_of_nonneg (by omega), Int.emod_eq_of_lt (by omega) (by omega)] at hgm
      omega
    have d0 : 0 ≤ (a * h + 1 - 2 - (p * h + (j : Int))).tdiv h := Int.tdiv_nonneg (by omega) (by omega)
    have d1 : (a * h + 1 - 2 - (p * h + (j : Int))).tdiv h < a := by
      rw [Int.tdiv_eq_ediv_of_nonneg (by omega)]
      exact Int.ediv_lt_of_lt_mul (by omega) (by omega)
    have hq : (flyY a h g (p * h + (j : Int)) = g' * a + p') ↔ g ≠ g' ∧ gapF a h g g' = p * h + (j : Int) ∧ (a * h + 1 - 2 - gapF a h g g').tdiv h = p' := by
      unfold flyY porF
      constructor
      · intro hx
        have hx := div_uniqI hx d0 d1 p0 p1
        rw [hx.1] at hgm hne
        exact ⟨fun e => hne e.symm, hgm, by rw [hgm]; exact hx.2⟩
      · rintro ⟨h1, h2, h3⟩
        have hb := gap_back (M := a * h + 1) g0 g1 q0 q1 h1
        have hb : (g + gapF a h g g' + 1).tmod (a * h + 1) = g' := hb
        rw [h2] at hb h3
        rw [hb, h3]
    simp only [List.count_cons, List.count_nil, beq_iff_eq, hq]
    generalize gapF a h g g' = M at *
    generalize (a * h + 1 - 2 - M).tdiv h = w at *
    generalize p * h = ph at *
    by_cases h1 : g ≠ g' ∧ ph ≤ M ∧ M < ph + j ∧ w = p'
    · rw [if_pos h1, if_neg (by omega), if_pos (by omega)]
    · rw [if_neg h1]
      by_cases h2 : g ≠ g' ∧ M = ph + j ∧ w = p'
      · rw [if_pos h2, if_pos (by omega)]
      · rw [if_neg h2, if_neg (by omega)]
theorem near_fly {a h : Int} {n : Nat} (hok : (Sh.fly a h).ok) (hn : (Sh.fly a h).sw = n) {x y : Nat} (hx : x < n) (hy : y < n) : (nearFl a h x).count (y : Int) = if (Sh.fly a h).lnk x y then 1 else 0 := by
  obtain ⟨ha, hh, _⟩ := hok
  simp only [Sh.sw] at hn
  have hah : 0 ≤ a * h := Int.mul_nonneg (by omega) (by omega)
  have gl : ∀ z : Nat, z < n → 0 ≤ (z : Int).tdiv a ∧ (z : Int).tdiv a < a * h + 1 := fun z hz => ⟨Int.tdiv_nonneg (by omega) (by omega), by
    rw [Int.tdiv_eq_ediv_of_nonneg (by omega)]
    exact Int.ediv_lt_of_lt_mul (by omega) (by rw [Int.mul_comm]; omega)⟩
  have pl : ∀ z : Nat, 0 ≤ (z : Int).tmod a ∧ (z : Int).tmod a < a := fun z => ⟨Int.tmod_nonneg _ (by omega), Int.tmod_lt_of_pos _ (by omega)⟩
  have dz : ∀ z : Nat, (z : Int) = (z : Int).tdiv a * a + (z : Int).tmod a := fun z => by rw [Int.mul_comm]; exact (Int.mul_tdiv_add_tmod _ _).symm
  have gx := gl x hx
  have gy := gl y hy
  have px := pl x
  have py := pl y
  have lnkE : (Sh.fly a h).lnk x y = if x = y then false else lnFl a h x y := by
    simp only [Sh.lnk]
    by_cases h : x = y
    · rw [if_pos h, if_pos (by omega)]
    · rw [if_neg h, if_neg (by omega)]
  have ex := dz x
  have ey := dz y
  rw [lnkE]
  unfold nearFl lnFl
  rw [List.count_append]
  have hxy : (x = y) ↔ (x : Int).tdiv a = (y : Int).tdiv a ∧ (x : Int).tmod a = (y : Int).tmod a := ⟨fun e => by rw [e]; exact ⟨rfl, rfl⟩, fun e => by
    have : (x : Int) = y := by rw [ex, ey, e.1, e.2]
    omega⟩
  have ca := faF_count (a := a) (g := (x : Int).tdiv a) (p := (x : Int).tmod a) (g' := (y : Int).tdiv a) (p' := (y : Int).tmod a) ha.1 py.1 py.2 a.toNat (by omega)
  have cb := fbF_count (a := a) (h := h) (g := (x : Int).tdiv a) (p := (x : Int).tmod a) (g' := (y : Int).tdiv a) (p' := (y : Int).tmod a) ha.1 hh.1 gx.1 gx.2 gy.1 gy.2 px.1 px.2 py.1 py.2 h.toNat (by omega)
  rw [← ey] at ca cb
  rw [ca, cb]
  have hta : ((a.toNat : Nat) : Int) = a := by omega
  have hth : ((h.toNat : Nat) : Int) = h := by omega
  rw [hta, hth]
  have portx : ∀ e : Int, (porF a h ((x : Int).tdiv a) e = (x : Int)) ↔ e.tdiv h = (x : Int).tmod a := fun e => by
    unfold porF
    conv => lhs; rhs; rw [ex]
    constructor <;> (intro hz; omega)
  have porty : ∀ e : Int, (porF a h ((y : Int).tdiv a) e = (y : Int)) ↔ e.tdiv h = (y : Int).tmod a := fun e => by
    unfold porF
    conv => lhs; rhs; rw [ey]
    constructor <;> (intro hz; omega)
  simp only [portx, porty]
  by_cases hg : (x : Int).tdiv a = (y : Int).tdiv a
  · have n1 : ¬ ((x : Int).tdiv a ≠ (y : Int).tdiv a ∧ (x : Int).tmod a * h ≤ gapF a h ((x : Int).tdiv a) ((y : Int).tdiv a) ∧ gapF a h ((x : Int).tdiv a) ((y : Int).tdiv a) < (x : Int).tmod a * h + h ∧ (a * h + 1 - 2 - gapF a h ((x : Int).tdiv a) ((y : Int).tdiv a)).tdiv h = (y : Int).tmod a) := fun hz => hz.1 hg
    rw [if_neg n1, Nat.add_zero, decide_eq_true hg, Bool.true_or]
    by_cases hp : (x : Int).tmod a = (y : Int).tmod a
    · rw [if_neg (fun hz => hz.2.2 hp.symm), if_pos (hxy.2 ⟨hg, hp⟩)]; rfl
    · rw [if_pos ⟨hg, py.2, fun hz => hp hz.symm⟩, if_neg (fun hz => hp (hxy.1 hz).2)]; rfl
  · rw [if_neg (fun hz => hg hz.1), Nat.zero_add, if_neg (fun hz => hg (hxy.1 hz).1), decide_eq_false hg, Bool.false_or]
    have hgap := gap_in gx.1 gx.2 gy.1 gy.2 hg
    generalize gapF a h ((x : Int).tdiv a) ((y : Int).tdiv a) = M at *
    have hdiv : (M.tdiv h = (x : Int).tmod a) ↔ (x : Int).tmod a * h ≤ M ∧ M < (x : Int).tmod a * h + h := by
      have hm0 := Int.tmod_nonneg (a := M) h hgap.1
      have hm1 : M.tmod h < h := Int.tmod_lt_of_pos _ (by omega)
      have em : M.tdiv h * h + M.tmod h = M := by rw [Int.mul_comm]; exact Int.mul_tdiv_add_tmod _ _
      constructor
      · intro hz; rw [hz] at em; omega
      · rintro ⟨z1, z2⟩
        have : M.tdiv h * h + M.tmod h = (x : Int).tmod a * h + (M - (x : Int).tmod a * h) := by rw [em]; omega
        exact (div_uniqI this hm0 hm1 (by omega) (by omega)).1
    by_cases h1 : M.tdiv h = (x : Int).tmod a
    · have h1' := hdiv.1 h1
      rw [decide_eq_true h1, Bool.true_and]
      by_cases h2 : (a * h + 1 - 2 - M).tdiv h = (y : Int).tmod a
      · rw [if_pos ⟨hg, h1'.1, h1'.2, h2⟩, decide_eq_true h2]; rfl
      · rw [if_neg (fun hz => h2 hz.2.2.2), decide_eq_false h2]; rfl
    · rw [if_neg (fun hz => h1 (hdiv.2 ⟨hz.2.1, hz.2.2.1⟩)), decide_eq_false h1, Bool.false_and]; rfl
theorem near_lnk {s : Sh} (hok : s.ok) {n : Nat} (hn : s.sw = n) {x y : Nat} (hx : x < n) (hy : y < n) : (s.near x).count (y : Int) = if s.lnk x y then 1 else 0 := by
  cases s with
  | grid g => exact near_grid hok hn hx hy
  | fat k m => exact near_fat hok hn hx hy
  | fly a h => exact near_fly hok hn hx hy

/-! ### Across -/
end Go.Af.Try
namespace Go.Af.Try
open Go Go.Proofs
attribute [local irreducible] awp ACall ACallX AYield AInvoke newSlice isCells rdCells wrCells aAppend

theorem sgn_b (b : Bool) : sgn b = -1 ∨ sgn b = 1 := by cases b <;> simp [sgn]
theorem g34n {H : List Blk} {R : Value → List Blk → Prop} {b : Nat} {wr : Bool} {kind hosts : Int} {sides : List Int} (hs : shapeF kind sides hosts = none) (hb : bget H b = some (.cells wr 1 (ints sides)))
    (h : ∀ H', HS H none' [] H' → R (.tuple ⟨[.slice none 0 0, .int .i64 2]⟩) H') : ACall Try.prog 34 [spV kind (sv b sides.length) hosts] H R := by
  refine acall_vcg tok Try.call34 Try.func34 rfl Try.ntmps34 rfl (by simp) ?_
  refine new_hs (((HS.start H none').add (c := false) hb (fun i p hi => by simp at hi) (fun h => by cases h))) (fun H1 b1 e1 l1 hs1 => ?_)
  refine rdCells_of (hs1.get 0 rfl) ?_
  refine ⟨_, rfl, _, rfl, _, rfl, ?_⟩
  (first | refine c57 kind hosts (hs1.get 1 rfl) (Nat.le_refl _) ?_ | refine (c57 kind hosts (hs1.get 1 rfl) (Nat.le_refl _) ?_).call)
  rw [hs]
  refine ⟨_, rfl, _, rfl, ?_⟩
  refine And.intro (fun _ => ?_) (fun h => absurd h (by decide))
  exact h _ (hs1.pick [] (by decide) rfl)
end Go.Af.Try
namespace Go.Af.Try
open Go Go.Proofs
attribute [local irreducible] awp ACall ACallX AYield AInvoke newSlice isCells rdCells wrCells aAppend rangeEnd roundBegin roundEnd

end Go.Af.Try
