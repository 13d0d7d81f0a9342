/-
  slices.IndexFunc and slices.DeleteFunc of rows of integers, with a function that only reads.
  Hops and Distance, with their errors.
  Distances: there is one between all switches, the same both ways; a grid's is the sum of those along its sides. No program is in sight.
  The law NetMetric, as a call.
-/
import Derived.Test.YtjncbbdiejkalaaGreatMO
import Derived.Test.YtjncbbdiejkalaaGreatMX
import Derived.Test.YtjncbbdiejkalaaGreatMR
set_option linter.all false
namespace Go.Af.Tryz
open Go Go.Proofs
attribute [local irreducible] awp ACall ACallX AYield AInvoke newSlice isCells rdCells wrCells aAppend rangeEnd roundBegin roundEnd


/-- The first place at which a test holds; -1: there is none. -/
def ixF (p : Int → Bool) (xs : List Int) : Int :=
  match xs.findIdx? p with
  | some i => i
  | none => -1
theorem ixF_some {p : Int → Bool} {xs : List Int} {i : Nat} (hi : i < xs.length) (h : p xs[i]! = true) (hl : ∀ j, j < i → p xs[j]! = false) : ixF p xs = i := by
  have : xs.findIdx? p = some i := by
    rw [List.findIdx?_eq_some_iff_getElem]
    refine ⟨hi, by rwa [getElem!_pos xs i hi] at h, fun j hj => ?_⟩
    have := hl j hj
    rw [getElem!_pos xs j (by omega)] at this
    rw [this]; decide
  rw [ixF, this]
theorem ixF_none {p : Int → Bool} {xs : List Int} (hl : ∀ j, j < xs.length → p xs[j]! = false) : ixF p xs = -1 := by
  have : xs.findIdx? p = none := by
    rw [List.findIdx?_eq_none_iff]
    intro x hx
    obtain ⟨j, hj, rfl⟩ := List.getElem_of_mem hx
    have := hl j hj
    rwa [getElem!_pos xs j hj] at this
  rw [ixF, this]

theorem g90 {H : List Blk} {R : Value → List Blk → Prop} {k c f : Nat} {wr : Bool} {ys xs : List Int} {cap : List Value} {p : Int → Bool} (hk : bget H k = some (.cells wr 1 (ints ys))) (hys : ys.take xs.length = xs) (hl : xs.length ≤ 1000000000)
    (hp : ∀ {R : Value → List Blk → Prop} {z : Int}, z ∈ xs → R (.bool (p z)) H → ACall Tryz.prog f (.int .i64 z :: cap) H R) (h : R (.int .i64 (ixF p xs)) H) : ACall Tryz.prog 85 [.slice (some ⟨k, 0, none⟩) xs.length c, .func (.func f) ⟨[]⟩ ⟨cap⟩] H R := by
  have yg : ∀ {i : Nat}, i < xs.length → ys[i]? = some xs[i]! := fun {i} hi => by
    have h1 : (ys.take xs.length)[i]? = some xs[i]! := by rw [hys]; simp [hi]
    rwa [List.getElem?_take_of_lt hi] at h1
  refine acall_vcg tok Tryz.call85 Tryz.func85 rfl Tryz.ntmps85 rfl (by simp) ?_
  refine vcg_loopR (α := Nat) tok (fun i => i ≤ xs.length ∧ ∀ j, j < i → p xs[j]! = false)
    (fun i => [(0, .slice (some ⟨k, 0, none⟩) xs.length c), (1, .func (.func f) ⟨[]⟩ ⟨cap⟩), (7, .int .i64 (xs.length : Int)), (8, .int .i64 (i : Int))]) (fun _ => H) (fun i => xs.length - i) 0 ⟨Nat.zero_le _, fun j hj => by omega⟩ (Or.inl ⟨⟨rfl, rfl, rfl, rfl, trivial⟩, rfl⟩) ?_
  rintro i ⟨hi, hno⟩
  refine And.intro (fun hc => ?_) (fun hc => ?_)
  · have hlt : i < xs.length := by simp at hc; omega
    refine vops_gen (fun K0 hK0 => hK0 _ _ ?_)
    refine vops_gen (fun K0 hK0 => ?_)
    refine isCells_of hk ⟨i, rfl, hlt, ?_⟩
    refine rdCells_of hk (Ld_ints i xs[i]! (by simp) (yg hlt) ?_)
    refine hp (by rw [getElem!_pos xs i hlt]; exact List.getElem_mem hlt) ?_
    refine hK0 _ _ ?_
    clear hK0 K0
    cases hb : p xs[i]! with
    | true =>
      refine And.intro (fun _ => ?_) (fun h => absurd h (by decide))
      rw [ixF_some hlt hb hno] at h
      exact h
    | false =>
      refine And.intro (fun h => absurd h (by decide)) (fun _ => ?_)
      refine Or.inl ⟨((i + 1 : Nat) : Int), by simp, by unfold I64; omega, ?_⟩
      exact ⟨i + 1, ⟨hlt, fun j hj => by
        by_cases e : j = i
        · subst e; exact hb
        · exact hno j (by omega)⟩, by omega, Or.inl ⟨⟨rfl, rfl, rfl, rfl, trivial⟩, rfl⟩⟩
  · have : i = xs.length := by simp at hc; omega
    subst this
    rw [ixF_none hno] at h
    exact h

/-- What is left. -/
abbrev keptF (p : Int → Bool) (xs : List Int) : List Int := xs.filter (fun z => !p z)
theorem kept_app (p : Int → Bool) (l : List Int) (a : Int) : keptF p (l ++ [a]) = keptF p l ++ (if p a then [] else [a]) := by
  rw [keptF, List.filter_append, List.filter_cons, List.filter_nil]
  cases p a <;> rfl
theorem take_one {xs : List Int} {i : Nat} (hi : i < xs.length) : xs.take (i + 1) = xs.take i ++ [xs[i]!] := by
  rw [getElem!_pos xs i hi]; exact List.take_succ_eq_append_getElem hi

theorem g75 {H0 H : List Blk} {R : Value → List Blk → Prop} {o : Nat → Prop} {k f : Nat} {xs : List Int} {cap : List Value} {p : Int → Bool} {S : List (Bool × Nat × Blk)} (hs : HS H0 o ((true, k, rw' xs) :: S) H) (hl : xs.length ≤ 1000000000)
    (hp : ∀ {H' : List Blk} {zs : List Int} {R : Value → List Blk → Prop} {z : Int}, HS H0 o ((true, k, rw' zs) :: S) H' → z ∈ xs → R (.bool (p z)) H' → ACall Tryz.prog f (.int .i64 z :: cap) H' R)
    (h : ∀ H' zs, zs.length = xs.length → zs.take (keptF p xs).length = keptF p xs → HS H0 o ((true, k, rw' zs) :: S) H' → R (.slice (some ⟨k, 0, none⟩) (keptF p xs).length xs.length) H') :
    ACall Tryz.prog 46 [sv k xs.length, .func (.func f) ⟨[]⟩ ⟨cap⟩] H R := by
  refine acall_vcg tok Tryz.call46 Tryz.func46 rfl Tryz.ntmps46 rfl (by simp) ?_
  refine vops_gen (fun K0 hK0 => hK0 _ _ ?_)
  refine vops_gen (fun K0 hK0 => ?_)
  refine g90 (hs.get 0 rfl) (List.take_length ..) hl (fun hz hr => hp hs hz hr) ?_
  refine hK0 _ _ ?_
  clear hK0 K0
  by_cases hno : ∀ j, j < xs.length → p xs[j]! = false
  · rw [ixF_none hno]
    refine And.intro (fun _ => ?_) (fun h => absurd h (by decide))
    have e : keptF p xs = xs := by
      rw [keptF, List.filter_eq_self]
      intro a ha
      obtain ⟨j, hj, rfl⟩ := List.getElem_of_mem ha
      have := hno j hj
      rw [getElem!_pos xs j hj] at this
      rw [this]; rfl
    rw [e] at h
    exact h H xs rfl (List.take_length ..) hs
  · obtain ⟨i, hi, hpi, hlow⟩ : ∃ i, i < xs.length ∧ p xs[i]! = true ∧ ∀ j, j < i → p xs[j]! = false := by
      have hex : ∃ i, i < xs.length ∧ p xs[i]! = true := Classical.byContradiction fun hn => hno fun j hj => by
        cases hb : p xs[j]! with
        | false => rfl
        | true => exact absurd ⟨j, hj, hb⟩ hn
      have key : ∀ n i, i ≤ n → i < xs.length → p xs[i]! = true → ∃ i, i < xs.length ∧ p xs[i]! = true ∧ ∀ j, j < i → p xs[j]! = false := by
        intro n
        induction n with
        | zero => intro i h0 h1 h2; exact ⟨i, h1, h2, fun j hj => by omega⟩
        | succ n ih =>
          intro i h0 h1 h2
          by_cases hh : ∃ j, j < i ∧ p xs[j]! = true
          · obtain ⟨j, a, b⟩ := hh; exact ih j (by omega) (by omega) b
          · exact ⟨i, h1, h2, fun j hj => by
              cases hb : p xs[j]! with
              | false => rfl
              | true => exact absurd ⟨j, hj, hb⟩ hh⟩
      obtain ⟨i, a, b⟩ := hex
      exact key i i (Nat.le_refl _) a b
    rw [ixF_some hi hpi hlow]
    refine And.intro (fun h => absurd (of_decide_eq_true h) (by omega)) (fun _ => ?_)
    refine Or.inl ⟨((i + 1 : Nat) : Int), by simp, by unfold I64; omega, ?_⟩
    have hs0 : HS H0 o ((true, k, rw' xs) :: S) H := hs
    have hini : (keptF p (xs.take (i + 1))).length = i ∧ xs.take i = keptF p (xs.take (i + 1)) := by
      have e2 : keptF p (xs.take i) = xs.take i := by
        rw [keptF, List.filter_eq_self]
        intro a ha
        obtain ⟨j, hj, rfl⟩ := List.getElem_of_mem ha
        simp only [List.length_take] at hj
        have := hlow j (by omega)
        rw [getElem!_pos xs j (by omega)] at this
        rw [List.getElem_take, this]; rfl
      have e3 : keptF p (xs.take (i + 1)) = xs.take i := by
        rw [take_one hi, kept_app, e2, if_pos hpi, List.append_nil]
      exact ⟨by rw [e3, List.length_take]; omega, e3.symm⟩
    refine vcg_loopR (α := List Blk × List Int × Nat) tok (fun z => HS H0 o ((true, k, rw' z.2.1) :: S) z.1 ∧ z.2.1.length = xs.length ∧ z.2.2 ≤ xs.length ∧ (keptF p (xs.take z.2.2)).length < z.2.2 ∧ z.2.1.take (keptF p (xs.take z.2.2)).length = keptF p (xs.take z.2.2) ∧ ∀ j, z.2.2 ≤ j → j < xs.length → z.2.1[j]! = xs[j]!)
      (fun z => [(0, sv k xs.length), (1, .func (.func f) ⟨[]⟩ ⟨cap⟩), (5, .int .i64 ((keptF p (xs.take z.2.2)).length : Int)), (6, .int .i64 (z.2.2 : Int))]) (fun z => z.1) (fun z => xs.length - z.2.2)
      (H, xs, i + 1) ⟨hs0, rfl, hi, by simp only [hini.1]; omega, by simp only; rw [hini.1]; exact hini.2, fun j _ _ => rfl⟩ (Or.inl ⟨⟨rfl, rfl, by simp only [hini.1]; rfl, rfl, trivial⟩, rfl⟩) ?_
    clear hs0 hs hini
    rintro ⟨H1, zs, j⟩ ⟨hs1, hzl, hj, hlt, htk, hrest⟩
    simp only at hs1 hzl hj hlt htk hrest
    refine And.intro (fun hc => ?_) (fun hc => ?_)
    · have hjl : j < xs.length := by simp at hc; omega
      have hzj : zs[j]! = xs[j]! := hrest j (Nat.le_refl _) hjl
      have etake : keptF p (xs.take (j + 1)) = keptF p (xs.take j) ++ (if p xs[j]! then [] else [xs[j]!]) := by rw [take_one hjl, kept_app]
      refine vops_gen (fun K0 hK0 => ?_)
      refine isCells_of (hs1.get 0 rfl) ⟨j, rfl, hjl, ?_⟩
      refine rdCells_of (hs1.get 0 rfl) (Ld_ints j zs[j]! (by simp) (by simp [hzl, hjl]) ?_)
      refine hK0 _ _ ?_
      clear hK0 K0
      rw [hzj]
      refine vops_gen (fun K0 hK0 => ?_)
      refine hp hs1 (by rw [getElem!_pos xs j hjl]; exact List.getElem_mem hjl) ?_
      refine hK0 _ _ ?_
      clear hK0 K0
      cases hb : p xs[j]! with
      | true =>
        rw [hb, if_pos rfl, List.append_nil] at etake
        refine And.intro (fun h => absurd h (by decide)) (fun _ => ?_)
        refine Or.inl ⟨((j + 1 : Nat) : Int), by simp, by unfold I64; omega, ?_⟩
        refine ⟨(H1, zs, j + 1), ⟨hs1, hzl, hjl, by simp only; rw [etake]; omega, by simp only; rw [etake]; exact htk, fun q h1 h2 => hrest q (by simp only at h1; omega) h2⟩, by simp only; omega, Or.inl ⟨⟨rfl, rfl, ?_, rfl, trivial⟩, rfl⟩⟩
        simp only; rw [etake]; rfl
      | false =>
        rw [hb, if_neg (by decide)] at etake
        refine And.intro (fun _ => ?_) (fun h => absurd h (by decide))
        have hm : (keptF p (xs.take j)).length < zs.length := by omega
        refine vops_gen (fun K0 hK0 => ?_)
        refine isCells_of (hs1.get 0 rfl) ⟨(keptF p (xs.take j)).length, rfl, by omega, ?_⟩
        simp only [putK, vops, guardK, cstep, Nat.blt]
        refine store_hs hs1 0 rfl (ints (zs.set (keptF p (xs.take j)).length xs[j]!)) rfl rfl (by simp [hzl]; omega) (set_int _ _ _) (fun H2 l2 hs2 => ?_)
        refine hK0 _ _ ?_
        clear hK0 K0
        refine Or.inl ⟨(((keptF p (xs.take j)).length + 1 : Nat) : Int), by simp, by unfold I64; omega, ?_⟩
        refine Or.inl ⟨((j + 1 : Nat) : Int), by simp, by unfold I64; omega, ?_⟩
        have el : (keptF p (xs.take (j + 1))).length = (keptF p (xs.take j)).length + 1 := by rw [etake]; simp
        refine ⟨(H2, zs.set (keptF p (xs.take j)).length xs[j]!, j + 1), ⟨hs2, by simp [hzl], hjl, by simp only; omega, ?_, fun q h1 h2 => ?_⟩, by simp only; omega, Or.inl ⟨⟨rfl, rfl, ?_, rfl, trivial⟩, rfl⟩⟩
        · simp only
          rw [el, etake, List.take_succ_eq_append_getElem (by simpa using hm), List.getElem_set_self, List.take_set_of_le (Nat.le_refl _), htk]
        · simp only at h1 ⊢
          rw [set_ne! (by omega)]; exact hrest q (by omega) h2
        · simp only; rw [el]; rfl
    · have : j = xs.length := by simp at hc; omega
      subst this
      rw [List.take_length] at htk hlt
      rw [List.take_length]
      have hm : (keptF p xs).length < xs.length := hlt
      refine vops_gen (fun K0 hK0 => ?_)
      refine rdCells_of (hs1.get 0 rfl) ⟨rfl, ?_⟩
      refine ⟨(keptF p xs).length, rfl, ⟨by omega, Nat.le_refl _⟩, ?_⟩
      refine Or.inr ⟨by omega, ?_⟩
      rw [hs1.get 0 rfl]
      refine ⟨⟨⟨by decide, rfl⟩, rfl, by simp only [ints, List.length_map]; omega⟩, ints (zs.take (keptF p xs).length ++ List.replicate (zs.length - (keptF p xs).length) 0), ?_, ?_⟩
      · rw [Nat.zero_add, Nat.mul_one, ← hzl]
        exact seg_zero zs _ (by omega)
      refine set_of (hs1.lt 0 rfl) (fun H2 l2 a2 a3 => ?_)
      have hs2 := hs1.set 0 rfl l2 a2 a3
      refine hK0 _ _ ?_
      clear hK0 K0
      refine vops_gen (fun K0 hK0 => ?_)
      refine rdCells_of (hs2.get 0 rfl) ⟨rfl, ?_⟩
      refine ⟨(keptF p xs).length, rfl, ⟨Nat.zero_le _, by omega⟩, ?_⟩
      refine hK0 _ _ ?_
      clear hK0 K0
      refine h H2 _ ?_ ?_ hs2
      · simp; omega
      · rw [htk, List.take_append_of_le_length (Nat.le_refl _), List.take_length]
end Go.Af.Tryz
namespace Go.Af.Tryz
open Go Go.Proofs
attribute [local irreducible] awp ACall ACallX AYield AInvoke newSlice isCells rdCells wrCells aAppend rangeEnd roundBegin roundEnd


theorem tw_some {v : Value} {o : Option Sh} {x y : Int} (h : twF o x y = 0) : ∃ s, o = some s ∧ (0 ≤ x ∧ x < s.sw) ∧ (0 ≤ y ∧ y < s.sw) ∧ withR v o [x, y] = .tuple ⟨[shV v s, .int .i64 0]⟩ := by
  cases o with
  | none => simp [twF, isF] at h
  | some s =>
    simp only [twF, isF] at h
    by_cases hx : 0 ≤ x ∧ x < s.sw
    · by_cases hy : 0 ≤ y ∧ y < s.sw
      · refine ⟨s, rfl, hx, hy, ?_⟩
        simp [withR, inAll, hx, hy]
      · simp [hx, hy] at h
    · simp [hx] at h
theorem tw_err {v : Value} {o : Option Sh} {x y : Int} (h : twF o x y ≠ 0) : withR v o [x, y] = .tuple ⟨[.nilIface, .int .i64 (twF o x y)]⟩ := by
  cases o with
  | none => rfl
  | some s =>
    simp only [twF, isF] at h ⊢
    by_cases hx : 0 ≤ x ∧ x < s.sw
    · by_cases hy : 0 ≤ y ∧ y < s.sw
      · simp [hx, hy] at h
      · have : inAll [x, y] s.sw = false := by simp [inAll]; omega
        simp [withR, this, hx, hy]
    · have : inAll [x, y] s.sw = false := by simp [inAll]; omega
      simp [withR, this, hx]

theorem g43e {H : List Blk} {R : Value → List Blk → Prop} {b : Nat} {wr : Bool} {kind hosts x y : Int} {sides : List Int} (he : twF (shapeF kind sides hosts) x y ≠ 0) (hb : bget H b = some (.cells wr 1 (ints sides)))
    (h : ∀ H', HS H none' [] H' → R (.tuple ⟨[.int .i64 0, .int .i64 (twF (shapeF kind sides hosts) x y)]⟩) H') : ACall Tryz.prog 9 [spV kind (sv b sides.length) hosts, .int .i64 x, .int .i64 y] H R := by
  refine acall_vcg tok Tryz.call9 Tryz.func9 rfl Tryz.ntmps9 rfl (by simp) ?_
  refine new_hs (((HS.start H none').add (c := false) hb (fun i p hi => by simp at hi) (fun h => by cases h))) (fun H1 b1 e1 l1 hs1 => ?_)
  refine rdCells_of (hs1.get 0 rfl) ?_
  refine ⟨_, rfl, _, rfl, _, rfl, ?_⟩
  refine And.intro (by decide) ?_
  refine newS_hs hs1 (fun H2 j e2 l2 hs2 => ?_)
  (first | refine c62 (l := [x, y]) kind hosts (hs2.get 2 rfl) (Nat.le_refl _) (hs2.get 0 rfl) (Nat.le_refl _) (by simp) ?_ | refine (c62 (l := [x, y]) kind hosts (hs2.get 2 rfl) (Nat.le_refl _) (hs2.get 0 rfl) (Nat.le_refl _) (by simp) ?_).call)
  rw [tw_err he]
  refine ⟨_, rfl, _, rfl, ?_⟩
  refine And.intro (fun _ => ?_) (fun h => absurd h (by simpa using he))
  exact h H2 (hs2.pick [] (by decide) rfl)

theorem n76 {H : List Blk} {R : Value → List Blk → Prop} {dc xc kd n x : Nat} {w1 w2 w3 : Bool} {z : Int} {D : List Int} (h1 : bget H dc = some (.cells w1 1 [sv kd n])) (h2 : bget H xc = some (.cells w2 1 [.int .i64 (x : Int)])) (h3 : bget H kd = some (.cells w3 1 (ints D))) (hl : D.length = n) (hz : 0 ≤ z ∧ z < n) (hx : x < n)
    (h : R (.bool (decide (D[x]! ≤ D[z.toNat]!))) H) : ACall Tryz.prog 48 [.int .i64 z, pV dc, pV xc] H R := by
  obtain ⟨y, rfl⟩ : ∃ y : Nat, z = y := ⟨z.toNat, by omega⟩
  have hyl : y < D.length := by omega
  have hxl : x < D.length := by omega
  refine acall_vcg tok Tryz.call48 Tryz.func48 rfl Tryz.ntmps48 rfl (by simp) ?_
  refine vops_gen (fun K0 hK0 => hK0 _ _ ?_)
  refine vcg_draw tok mx [0, 0, 3, 7, 0, 0, 48, 112, 255, 511] [false, true, false, false, true, true, true, true, false, false] [0, 1, 2, 3, 4, 5, 6, 7, 8, 9] (by kernel_rfl) ?_
  refine vopsO_gen (fun K0 hK0 => ?_)
  refine rdCells_of (h1) ?_
  refine ⟨_, rfl, ?_⟩
  refine isCells_of h3 ⟨y, rfl, by omega, ?_⟩
  refine rdCells_of h3 (Ld_ints y D[y]! (by simp) (by simp [hyl]) ?_)
  refine rdCells_of (h1) ?_
  refine ⟨_, rfl, ?_⟩
  refine rdCells_of (h2) ?_
  refine ⟨_, rfl, ?_⟩
  refine isCells_of h3 ⟨x, rfl, hx, ?_⟩
  refine rdCells_of h3 (Ld_ints x D[x]! (by simp) (by simp [hxl]) ?_)
  refine hK0 _ _ ?_
  exact h

/-- The neighbours that are nearer. -/
abbrev hopF (s : Sh) (n : Nat) (D : List Int) (x : Nat) : List Int := keptF (fun z => decide (D[x]! ≤ D[z.toNat]!)) (lnkL s x n)

theorem g45e {H : List Blk} {R : Value → List Blk → Prop} {b : Nat} {wr : Bool} {kind hosts x y : Int} {sides : List Int} (he : twF (shapeF kind sides hosts) x y ≠ 0) (hb : bget H b = some (.cells wr 1 (ints sides)))
    (h : ∀ H', HS H none' [] H' → R (.tuple ⟨[.slice none 0 0, .int .i64 (twF (shapeF kind sides hosts) x y)]⟩) H') : ACall Tryz.prog 12 [spV kind (sv b sides.length) hosts, .int .i64 x, .int .i64 y] H R := by
  refine acall_vcg tok Tryz.call12 Tryz.func12 rfl Tryz.ntmps12 rfl (by simp) ?_
  refine new_hs (((HS.start H none').add (c := false) hb (fun i p hi => by simp at hi) (fun h => by cases h))) (fun H1 b1 e1 l1 hs1 => ?_)
  refine new_hs hs1 (fun H2 xc e2 l2 hs2 => ?_)
  refine vops_gen (fun K0 hK0 => hK0 _ _ ?_)
  refine rdCells_of (hs2.get 1 rfl) ?_
  refine ⟨_, rfl, _, rfl, _, rfl, ?_⟩
  refine rdCells_of (hs2.get 0 rfl) ?_
  refine ⟨_, rfl, ?_⟩
  refine And.intro (by decide) ?_
  refine newS_hs hs2 (fun H3 j e3 l3 hs3 => ?_)
  (first | refine c62 (l := [x, y]) kind hosts (hs3.get 3 rfl) (Nat.le_refl _) (hs3.get 0 rfl) (Nat.le_refl _) (by simp) ?_ | refine (c62 (l := [x, y]) kind hosts (hs3.get 3 rfl) (Nat.le_refl _) (hs3.get 0 rfl) (Nat.le_refl _) (by simp) ?_).call)
  rw [tw_err he]
  refine ⟨_, rfl, _, rfl, ?_⟩
  refine vops_gen (fun K0 hK0 => hK0 _ _ ?_)
  refine vops_gen (fun K0 hK0 => hK0 _ _ ?_)
  refine And.intro (fun _ => ?_) (fun h => absurd h (by simpa using he))
  exact h H3 (hs3.pick [] (by decide) rfl)

theorem g45 {H : List Blk} {R : Value → List Blk → Prop} {b n x y : Nat} {wr : Bool} {kind hosts : Int} {sides : List Int} {s : Sh} (hs : shapeF kind sides hosts = some s) (hn : s.sw = n) (hx : x < n) (hy : y < n) (hb : bget H b = some (.cells wr 1 (ints sides)))
    (h : ∀ H' D k zs, Dst (fun x : Nat => s.near x) n y D → zs.take (hopF s n D x).length = hopF s n D x → HS H none' [(true, k, rw' zs)] H' → R (.tuple ⟨[.slice (some ⟨k, 0, none⟩) (hopF s n D x).length (lnkL s x n).length, .int .i64 0]⟩) H') : ACall Tryz.prog 12 [spV kind (sv b sides.length) hosts, .int .i64 x, .int .i64 y] H R := by
  have hok := shapeF_ok hs
  have hof := shapeF_of hs
  refine acall_vcg tok Tryz.call12 Tryz.func12 rfl Tryz.ntmps12 rfl (by simp) ?_
  refine new_hs (((HS.start H none').add (c := false) hb (fun i p hi => by simp at hi) (fun h => by cases h))) (fun H1 b1 e1 l1 hs1 => ?_)
  refine new_hs hs1 (fun H2 xc e2 l2 hs2 => ?_)
  refine vops_gen (fun K0 hK0 => hK0 _ _ ?_)
  refine rdCells_of (hs2.get 1 rfl) ?_
  refine ⟨_, rfl, _, rfl, _, rfl, ?_⟩
  refine rdCells_of (hs2.get 0 rfl) ?_
  refine ⟨_, rfl, ?_⟩
  refine And.intro (by decide) ?_
  refine newS_hs hs2 (fun H3 j e3 l3 hs3 => ?_)
  (first | refine c62 (l := [(x : Int), (y : Int)]) kind hosts (hs3.get 3 rfl) (Nat.le_refl _) (hs3.get 0 rfl) (Nat.le_refl _) (by simp) ?_ | refine (c62 (l := [(x : Int), (y : Int)]) kind hosts (hs3.get 3 rfl) (Nat.le_refl _) (hs3.get 0 rfl) (Nat.le_refl _) (by simp) ?_).call)
  have e1 : withR (sv b sides.length) (some s) [(x : Int), (y : Int)] = .tuple ⟨[shV (sv b sides.length) s, .int .i64 0]⟩ := by
    have : inAll [(x : Int), (y : Int)] s.sw = true := by simp [inAll]; omega
    simp [withR, this]
  rw [hs, e1]
  refine ⟨_, rfl, _, rfl, ?_⟩
  refine vops_gen (fun K0 hK0 => hK0 _ _ ?_)
  refine vops_gen (fun K0 hK0 => hK0 _ _ ?_)
  refine And.intro (fun h => absurd h (by decide)) (fun _ => ?_)
  refine vops_gen (fun K0 hK0 => ?_)
  refine g73 hok hof hn hy (hs3.get 3 rfl) (fun H4 kd D hd hs4 => ?_)
  have hs4 := hs3.call hs4 rfl
  have hlen := hd.len
  refine new_hs hs4 (fun H5 dc e5 l5 hs5 => ?_)
  simp only [putK, vops, guardK, cstep, Nat.blt]
  refine store_hs hs5 0 rfl [sv kd n] rfl rfl (Nat.le_refl _) rfl (fun H6 l6 hs6 => ?_)
  refine hK0 _ _ ?_
  clear hK0 K0
  refine vops_gen (fun K0 hK0 => ?_)
  refine rdCells_of (hs6.get 3 rfl) ?_
  refine ⟨_, rfl, ?_⟩
  refine x_near_sorted hok (at_of hof (hs6.get 5 rfl)) (hs6.lt 5 rfl) ⟨by omega, by omega⟩ (fun fv H7 hcall => ?_)
  refine hcall.mono ?_
  rw [near_srt hok hn hx]
  rintro _ H8 ⟨q, rfl, hs8⟩
  have hs8 := hs6.call hs8 rfl
  have hlb := lnkL_len s x n
  have hnn : n ≤ 1000000 := by have := sw_bd hok; omega
  have hs9 := hs8.pick [0, 1, 2, 4] (by decide) (L' := [(true, q, rw' (lnkL s x n)), (true, dc, _), (true, kd, rw' D), (true, xc, _)]) rfl
  refine g75 (p := fun z => decide (D[x]! ≤ D[z.toNat]!)) hs9 (by omega) (fun {H' zs R z} hs' hz hr => ?_) (fun H' zs hzl htk hs' => ?_)
  · exact n76 (hs'.get 1 rfl) (hs'.get 3 rfl) (hs'.get 2 rfl) hlen (lnkL_mem.1 hz).1 hx hr
  · refine hK0 _ _ ?_
    exact h H' D q zs hd htk (hs'.pick [0] (by decide) rfl)
end Go.Af.Tryz
namespace Go.Af.Tryz
open Go

theorem way_closed {s : Sh} (hok : s.ok) {n : Nat} (hn : s.sw = n) {P : Nat → Prop} (hc : ∀ u v : Nat, u < n → v < n → s.lnk u v = true → P u → P v) {l : List Int} {a b : Nat} (hw : WayOk s n l a b) : (P a → P b) ∧ (P b → P a) := by
  have hp := hw.pos
  have key : ∀ i, i < l.length → (P l[0]!.toNat ↔ P l[i]!.toNat) := by
    intro i
    induction i with
    | zero => intro _; exact Iff.rfl
    | succ i ih =>
      intro hi
      have h1 := hw.inn i (by omega)
      have h2 := hw.inn (i + 1) hi
      have h3 := hw.lnk i hi
      have e1 : ((l[i]!.toNat : Nat) : Int) = l[i]! := by omega
      have e2 : ((l[i + 1]!.toNat : Nat) : Int) = l[i + 1]! := by omega
      rw [ih (by omega)]
      constructor
      · exact hc _ _ (by omega) (by omega) (by rw [e1, e2]; exact h3)
      · exact hc _ _ (by omega) (by omega) (by rw [e1, e2, lnk_sym hok (by omega) (by omega)]; exact h3)
  have := key (l.length - 1) (by omega)
  rw [hw.hd, hw.last, Int.toNat_natCast, Int.toNat_natCast] at this
  exact ⟨this.1, this.2⟩
theorem way_home {s : Sh} (hok : s.ok) {n : Nat} (hn : s.sw = n) {x : Nat} (hx : x < n) : ∃ l, WayOk s n l x (0 : Nat) := by
  cases s with
  | grid g => exact ⟨_, (tor_way hok hn (x := x) (y := (0 : Nat)) (by omega) (by omega)).1⟩
  | fat k n0 =>
    obtain ⟨K, hK⟩ : ∃ K : Nat, k = K := ⟨k.toNat, by have := hok.1.1; omega⟩
    subst hK
    have hK2 : 2 ≤ K := by have := hok.1.1; omega
    obtain ⟨a1, a2, a3⟩ := fat_lv hok rfl hn hx
    obtain ⟨L, _, w, _⟩ := tre_way hok rfl hn (G := 0) (Nat.pow_pos (by omega)) a1 a2
    rw [a3] at w
    exact ⟨_, w⟩
  | fly a h => exact ⟨_, (fly_way hok hn (x := x) (y := (0 : Nat)) (by omega) (by omega)).1⟩
theorem near_sym {s : Sh} (hok : s.ok) {n : Nat} (hn : s.sw = n) {w z : Nat} (hw : w < n) (hz : z < n) (h : (z : Int) ∈ s.near w) : (w : Int) ∈ s.near z := by
  have h1 := ((near_mem hok hn hw).1 h).2
  rw [lnk_sym hok (by omega) (by omega)] at h1
  exact (near_mem hok hn hz).2 ⟨by omega, h1⟩
theorem dst_pos {s : Sh} (hok : s.ok) {n : Nat} (hn : s.sw = n) {y : Nat} {D : List Int} (d : Dst (fun x : Nat => s.near x) n y D) {x : Nat} (hx : x < n) : 0 ≤ D[x]! := by
  have hc : ∀ u v : Nat, u < n → v < n → s.lnk u v = true → 0 ≤ D[u]! → 0 ≤ D[v]! := fun u v hu hv hl h0 => by
    have := (d.fwd u hu h0 v ((near_mem hok hn hu).2 ⟨by omega, hl⟩)).1
    rwa [Int.toNat_natCast] at this
  obtain ⟨l, w⟩ := way_home hok hn d.hsrc
  obtain ⟨l', w'⟩ := way_home hok hn hx
  exact (way_closed hok hn (P := fun z => 0 ≤ D[z]!) hc w').2 ((way_closed hok hn (P := fun z => 0 ≤ D[z]!) hc w).1 (by rw [d.s0]; exact Int.le_refl _))
/-- What a neighbour's distance may be. -/
theorem dst_near {s : Sh} (hok : s.ok) {n : Nat} (hn : s.sw = n) {x y z : Nat} {D : List Int} (d : Dst (fun x : Nat => s.near x) n y D) (hx : x < n) (hz : (z : Int) ∈ lnkL s x n) : z < n ∧ D[x]! - 1 ≤ D[z]! ∧ D[z]! ≤ D[x]! + 1 := by
  obtain ⟨h1, h2⟩ := lnkL_mem.1 hz
  have hzn : z < n := by omega
  have m1 : (z : Int) ∈ s.near x := (near_mem hok hn hx).2 ⟨h1, h2⟩
  have m2 := near_sym hok hn hx hzn m1
  have f1 := d.fwd x hx (dst_pos hok hn d hx) z m1
  have f2 := d.fwd z hzn (dst_pos hok hn d hzn) x m2
  rw [Int.toNat_natCast] at f1 f2
  exact ⟨hzn, by omega, f1.2⟩
end Go.Af.Tryz
namespace Go.Af.Tryz
open Go Go.Proofs
attribute [local irreducible] awp ACall ACallX AYield AInvoke newSlice isCells rdCells wrCells aAppend rangeEnd roundBegin roundEnd


theorem Rd.pre {H : List Blk} {j c : Nat} {wr : Bool} {xs zs : List Int} (h : bget H j = some (.cells wr 1 (ints zs))) (ht : zs.take xs.length = xs) (hc : xs.length ≤ c) : Rd H (.slice (some ⟨j, 0, none⟩) xs.length c) xs :=
  ⟨j, 0, wr, ints zs, h, .inl ⟨c, hc, rfl, fun i x hx => by
    have hi : i < xs.length := (List.getElem?_eq_some_iff.1 hx).1
    rw [Nat.zero_add, ints_get, ← List.getElem?_take_of_lt hi, ht, hx]; rfl⟩⟩

end Go.Af.Tryz
