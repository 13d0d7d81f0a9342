/-
  slices.IndexFunc and slices.DeleteFunc of rows of integers, with a function that only reads.
  Hops and Distance, with their errors.
  Distances: there is one between all switches, the same both ways; a grid's is the sum of those along its sides. No program is in sight.
  The law NetMetric, as a call.
-/
import Derived.Test.YtkmhpolbhjgpoaaMO
import Derived.Test.YtkmhpolbhjgpoaaMX
import Derived.Test.YtkmhpolbhjgpoaaMR
set_option linter.all false
namespace Go.Af.Try
open Go Go.Proofs
attribute [local irreducible] awp ACall ACallX AYield AInvoke newSlice isCells rdCells wrCells aAppend rangeEnd roundBegin roundEnd


/-- The first place at which a test holds; -1: there is none. -/
def ixF (p : Int → Bool) (xs : List Int) : Int :=
  match xs.findIdx? p with
  | some i => i
  | none => -1
theorem ixF_some {p : Int → Bool} {xs : List Int} {i : Nat} (hi : i < xs.length) (h : p xs[i]! = true) (hl : ∀ j, j < i → p xs[j]! = false) : ixF p xs = i := by
  have : xs.findIdx? p = some i := by
    rw [List.findIdx?_eq_some_iff_getElem]
    refine ⟨hi, by rwa [getElem!_pos xs i hi] at h, fun j hj => ?_⟩
    have := hl j hj
    rw [getElem!_pos xs j (by omega)] at this
    rw [this]; decide
  rw [ixF, this]
theorem ixF_none {p : Int → Bool} {xs : List Int} (hl : ∀ j, j < xs.length → p xs[j]! = false) : ixF p xs = -1 := by
  have : xs.findIdx? p = none := by
    rw [List.findIdx?_eq_none_iff]
    intro x hx
    obtain ⟨j, hj, rfl⟩ := List.getElem_of_mem hx
    have := hl j hj
    rwa [getElem!_pos xs j hj] at this
  rw [ixF, this]

theorem g90 {H : List Blk} {R : Value → List Blk → Prop} {k c f : Nat} {wr : Bool} {ys xs : List Int} {cap : List Value} {p : Int → Bool} (hk : bget H k = some (.cells wr 1 (ints ys))) (hys : ys.take xs.length = xs) (hl : xs.length ≤ 1000000000)
    (hp : ∀ {R : Value → List Blk → Prop} {z : Int}, z ∈ xs → R (.bool (p z)) H → ACall Try.prog f (.int .i64 z :: cap) H R) (h : R (.int .i64 (ixF p xs)) H) : ACall Try.prog 90 [.slice (some ⟨k, 0, none⟩) xs.length c, .func (.func f) ⟨[]⟩ ⟨cap⟩] H R := by
  have yg : ∀ {i : Nat}, i < xs.length → ys[i]? = some xs[i]! := fun {i} hi => by
    have h1 : (ys.take xs.length)[i]? = some xs[i]! := by rw [hys]; simp [hi]
    rwa [List.getElem?_take_of_lt hi] at h1
  refine acall_vcg tok Try.call90 Try.func90 rfl Try.ntmps90 rfl (by simp) ?_
  refine vcg_loopR (α := Nat) tok (fun i => i ≤ xs.length ∧ ∀ j, j < i → p xs[j]! = false)
    (fun i => [(0, .slice (some ⟨k, 0, none⟩) xs.length c), (1, .func (.func f) ⟨[]⟩ ⟨cap⟩), (7, .int .i64 (xs.length : Int)), (8, .int .i64 (i : Int))]) (fun _ => H) (fun i => xs.length - i) 0 ⟨Nat.zero_le _, fun j hj => by omega⟩ (Or.inl ⟨⟨rfl, rfl, rfl, rfl, trivial⟩, rfl⟩) ?_
  rintro i ⟨hi, hno⟩
  refine And.intro (fun hc => ?_) (fun hc => ?_)
  · have hlt : i < xs.length := by simp at hc; omega
    refine vops_gen (fun K0 hK0 => hK0 _ _ ?_)
    refine vops_gen (fun K0 hK0 => ?_)
    refine isCells_of hk ⟨i, rfl, hlt, ?_⟩
    refine rdCells_of hk (Ld_ints i xs[i]! (by simp) (yg hlt) ?_)
    refine hp (by rw [getElem!_pos xs i hlt]; exact List.getElem_mem hlt) ?_
    refine hK0 _ _ ?_
    clear hK0 K0
    cases hb : p xs[i]! with
    | true =>
      refine And.intro (fun _ => ?_) (fun h => absurd h (by decide))
      rw [ixF_some hlt hb hno] at h
      exact h
    | false =>
      refine And.intro (fun h => absurd h (by decide)) (fun _ => ?_)
      refine Or.inl ⟨((i + 1 : Nat) : Int), by simp, by unfold I64; omega, ?_⟩
      exact ⟨i + 1, ⟨hlt, fun j hj => by
        by_cases e : j = i
        · subst e; exact hb
        · exact hno j (by omega)⟩, by omega, Or.inl ⟨⟨rfl, rfl, rfl, rfl, trivial⟩, rfl⟩⟩
  · have : i = xs.length := by simp at hc; omega
    subst this
    rw [ixF_none hno] at h
    exact h

/-- What is left. -/
abbrev keptF (p : Int → Bool) (xs : List Int) : List Int := xs.filter (fun z => !p z)
theorem kept_app (p : Int → Bool) (l : List Int) (a : Int) : keptF p (l ++ [a]) = keptF p l ++ (if p a then [] else [a]) := by
  rw [keptF, List.filter_append, List.filter_cons, List.filter_nil]
  cases p a <;> rfl
theorem take_one {xs : List Int} {i : Nat} (hi : i < xs.length) : xs.take (i + 1) = xs.take i ++ [xs[i]!] := by
  rw [getElem!_pos xs i hi]; exact List.take_succ_eq_append_getElem hi

theorem g75 {H0 H : List Blk} {R : Value → List Blk → Prop} {o : Nat → Prop} {k f : Nat} {xs : List Int} {cap : List Value} {p : Int → Bool} {S : List (Bool × Nat × Blk)} (hs : HS H0 o ((true, k, rw' xs) :: S) H) (hl : xs.length ≤ 1000000000)
    (hp : ∀ {H' : List Blk} {zs : List Int} {R : Value → List Blk → Prop} {z : Int}, HS H0 o ((true, k, rw' zs) :: S) H' → z ∈ xs → R (.bool (p z)) H' → ACall Try.prog f (.int .i64 z :: cap) H' R)
    (h : ∀ H' zs, zs.length = xs.length → zs.take (keptF p xs).length = keptF p xs → HS H0 o ((true, k, rw' zs) :: S) H' → R (.slice (some ⟨k, 0, none⟩) (keptF p xs).length xs.length) H') :
    ACall Try.prog 75 [sv k xs.length, .func (.func f) ⟨[]⟩ ⟨cap⟩] H R := by
  refine acall_vcg tok Try.call75 Try.func75 rfl Try.ntmps75 rfl (by simp) ?_
  refine vops_gen (fun K0 hK0 => hK0 _ _ ?_)
  refine vops_gen (fun K0 hK0 => ?_)
  refine g90 (hs.get 0 rfl) (List.take_length ..) hl (fun hz hr => hp hs hz hr) ?_
  refine hK0 _ _ ?_
  clear hK0 K0
  by_cases hno : ∀ j, j < xs.length → p xs[j]! = false
  · rw [ixF_none hno]
    refine And.intro (fun _ => ?_) (fun h => absurd h (by decide))
    have e : keptF p xs = xs := by
      rw [keptF, List.filter_eq_self]
      intro a ha
      obtain ⟨j, hj, rfl⟩ := List.getElem_of_mem ha
      have := hno j hj
      rw [getElem!_pos xs j hj] at this
      rw [this]; rfl
    rw [e] at h
    exact h H xs rfl (List.take_length ..) hs
  · obtain ⟨i, hi, hpi, hlow⟩ : ∃ i, i < xs.length ∧ p xs[i]! = true ∧ ∀ j, j < i → p xs[j]! = false := by
      have hex : ∃ i, i < xs.length ∧ p xs[i]! = true := Classical.byContradiction fun hn => hno fun j hj => by
        cases hb : p xs[j]! with
        | false => rfl
        | true => exact absurd ⟨j, hj, hb⟩ hn
      have key : ∀ n i, i ≤ n → i < xs.length → p xs[i]! = true → ∃ i, i < xs.length ∧ p xs[i]! = true ∧ ∀ j, j < i → p xs[j]! = false := by
        intro n
        induction n with
        | zero => intro i h0 h1 h2; exact ⟨i, h1, h2, fun j hj => by omega⟩
        | succ n ih =>
          intro i h0 h1 h2
          by_cases hh : ∃ j, j < i ∧ p xs[j]! = true
          · obtain ⟨j, a, b⟩ := hh; exact ih j (by omega) (by omega) b
          · exact ⟨i, h1, h2, fun j hj => by
              cases hb : p xs[j]! with
              | false => rfl
              | true => exact absurd ⟨j, hj, hb⟩ hh⟩
      obtain ⟨i, a, b⟩ := hex
      exact key i i (Nat.le_refl _) a b
    rw [ixF_some hi hpi hlow]
    refine And.intro (fun h => absurd (of_decide_eq_true h) (by omega)) (fun _ => ?_)
    refine Or.inl ⟨((i + 1 : Nat) : Int), by simp, by unfold I64; omega, ?_⟩
    have hs0 : HS H0 o ((true, k, rw' xs) :: S) H := hs
    have hini : (keptF p (xs.take (i + 1))).length = i ∧ xs.take i = keptF p (xs.take (i + 1)) := by
      have e2 : keptF p (xs.take i) = xs.take i := by
        rw [keptF, List.filter_eq_self]
        intro a ha
        obtain ⟨j, hj, rfl⟩ := List.getElem_of_mem ha
        simp only [List.length_take] at hj
        have := hlow j (by omega)
        rw [getElem!_pos xs j (by omega)] at this
        rw [List.getElem_take, this]; rfl
      have e3 : keptF p (xs.take (i + 1)) = xs.take i := by
        rw [take_one hi, kept_app, e2, if_pos hpi, List.append_nil]
      exact ⟨by rw [e3, List.length_take]; omega, e3.symm⟩
    refine vcg_loopR (α := List Blk × List Int × Nat) tok (fun z => HS H0 o ((true, k, rw' z.2.1) :: S) z.1 ∧ z.2.1.length = xs.length ∧ z.2.2 ≤ xs.length ∧ (keptF p (xs.take z.2.2)).length < z.2.2 ∧ z.2.1.take (keptF p (xs.take z.2.2)).length = keptF p (xs.take z.2.2) ∧ ∀ j, z.2.2 ≤ j → j < xs.length → z.2.1[j]! = xs[j]!)
      (fun z => [(0, sv k xs.length), (1, .func (.func f) ⟨[]⟩ ⟨cap⟩), (5, .int .i64 ((keptF p (xs.take z.2.2)).length : Int)), (6, .int .i64 (z.2.2 : Int))]) (fun z => z.1) (fun z => xs.length - z.2.2)
      (H, xs, i + 1) ⟨hs0, rfl, hi, by simp only [hini.1]; omega, by simp only; rw [hini.1]; exact hini.2, fun j _ _ => rfl⟩ (Or.inl ⟨⟨rfl, rfl, by simp only [hini.1]; rfl, rfl, trivial⟩, rfl⟩) ?_
    clear hs0 hs hini
    rintro ⟨H1, zs, j⟩ ⟨hs1, hzl, hj, hlt, htk, hrest⟩
    simp only at hs1 hzl hj hlt htk hrest
    refine And.intro (fun hc => ?_) (fun hc => ?_)
    · have hjl : j < xs.length := by simp at hc; omega
      have hzj : zs[j]! = xs[j]! := hrest j (Nat.le_refl _) hjl
      have etake : keptF p (xs.take (j + 1)) = keptF p (xs.take j) ++ (if p xs[j]! then [] else [xs[j]!]) := by rw [take_one hjl, kept_app]
      refine vops_gen (fun K0 hK0 => ?_)
      refine isCells_of (hs1.get 0 rfl) ⟨j, rfl, hjl, ?_⟩
      refine rdCells_of (hs1.get 0 rfl) (Ld_ints j zs[j]! (by simp) (by simp [hzl, hjl]) ?_)
      refine hK0 _ _ ?_
      clear hK0 K0
      rw [hzj]
      refine vops_gen (fun K0 hK0 => ?_)
      refine hp hs1 (by rw [getElem!_pos xs j hjl]; exact List.getElem_mem hjl) ?_
      refine hK0 _ _ ?_
      clear hK0 K0
      cases hb : p xs[j]! with
      | true =>
        rw [hb, if_pos rfl, List.append_nil] at etake
        refine And.intro (fun h => absurd h (by decide)) (fun _ => ?_)
        refine Or.inl ⟨((j + 1 : Nat) : Int), by simp, by unfold I64; omega, ?_⟩
        refine ⟨(H1, zs, j + 1), ⟨hs1, hzl, hjl, by simp only; rw [etake]; omega, by simp only; rw [etake]; exact htk, fun q h1 h2 => hrest q (by simp only at h1; omega) h2⟩, by simp only; omega, Or.inl ⟨⟨rfl, rfl, ?_, rfl, trivial⟩, rfl⟩⟩
        simp only; rw [etake]; rfl
      | false =>
        rw [hb, if_neg (by decide)] at etake
        refine And.intro (fun _ => ?_) (fun h => absurd h (by decide))
        have hm : (keptF p (xs.take j)).length < zs.length := by omega
        refine vops_gen (fun K0 hK0 => ?_)
        refine isCells_of (hs1.get 0 rfl) ⟨(keptF p (xs.take j)).length, rfl, by omega, ?_⟩
        simp only [putK, vops, guardK, cstep, Nat.blt]
        refine store_hs hs1 0 rfl (ints (zs.set (keptF p (xs.take j)).length xs[j]!)) rfl rfl (by simp [hzl]; omega) (set_int _ _ _) (fun H2 l2 hs2 => ?_)
        refine hK0 _ _ ?_
        clear hK0 K0
        refine Or.inl ⟨(((keptF p (xs.take j)).length + 1 : Nat) : Int), by simp, by unfold I64; omega, ?_⟩
        refine Or.inl ⟨((j + 1 : Nat) : Int), by simp, by unfold I64; omega, ?_⟩
        have el : (keptF p (xs.take (j + 1))).length = (keptF p (xs.take j)).length + 1 := by rw [etake]; simp
        refine ⟨(H2, zs.set (keptF p (xs.take j)).length xs[j]!, j + 1), ⟨hs2, by simp [hzl], hjl, by simp only; omega, ?_, fun q h1 h2 => ?_⟩, by simp only; omega, Or.inl ⟨⟨rfl, rfl, ?_, rfl, trivial⟩, rfl⟩⟩
        · simp only
          rw [el, etake, List.take_succ_eq_append_getElem (by simpa using hm), List.getElem_set_self, List.take_set_of_le (Nat.le_refl _), htk]
        · simp only at h1 ⊢
          rw [set_ne! (by omega)]; exact hrest q (by omega) h2
        · simp only; rw [el]; rfl
    · have : j = xs.length := by simp at hc; omega
      subst this
      rw [List.take_length] at htk hlt
      rw [List.take_length]
      have hm : (keptF p xs).length < xs.length := hlt
      refine vops_gen (fun K0 hK0 => ?_)
      refine rdCells_of (hs1.get 0 rfl) ⟨rfl, ?_⟩
      refine ⟨(keptF p xs).length, rfl, ⟨by omega, Nat.le_refl _⟩, ?_⟩
      refine Or.inr ⟨by omega, ?_⟩
      rw [hs1.get 0 rfl]
      refine ⟨⟨⟨by decide, rfl⟩, rfl, by simp only [ints, List.length_map]; omega⟩, ints (zs.take (keptF p xs).length ++ List.replicate (zs.length - (keptF p xs).length) 0), ?_, ?_⟩
      · rw [Nat.zero_add, Nat.mul_one, ← hzl]
        exact seg_zero zs _ (by omega)
      refine set_of (hs1.lt 0 rfl) (fun H2 l2 a2 a3 => ?_)
      have hs2 := hs1.set 0 rfl l2 a2 a3
      refine hK0 _ _ ?_
      clear hK0 K0
      refine vops_gen (fun K0 hK0 => ?_)
      refine rdCells_of (hs2.get 0 rfl) ⟨rfl, ?_⟩
      refine ⟨(keptF p xs).length, rfl, ⟨Nat.zero_le _, by omega⟩, ?_⟩
      refine hK0 _ _ ?_
      clear hK0 K0
      refine h H2 _ ?_ ?_ hs2
      · simp; omega
      · rw [htk, List.take_append_of_le_length (Nat.le_refl _), List.take_length]
end Go.Af.Try
namespace Go.Af.Try
open Go Go.Proofs
attribute [local irreducible] awp ACall ACallX AYield AInvoke newSlice isCells rdCells wrCells aAppend rangeEnd roundBegin roundEnd


theorem n76 {H : List Blk} {R : Value → List Blk → Prop} {dc xc kd n x : Nat} {w1 w2 w3 : Bool} {z : Int} {D : List Int} (h1 : bget H dc = some (.cells w1 1 [sv kd n])) (h2 : bget H xc = some (.cells w2 1 [.int .i64 (x : Int)])) (h3 : bget H kd = some (.cells w3 1 (ints D))) (hl : D.length = n) (hz : 0 ≤ z ∧ z < n) (hx : x < n)
    (h : R (.bool (decide (D[x]! ≤ D[z.toNat]!))) H) : ACall Try.prog 76 [.int .i64 z, pV dc, pV xc] H R := by
  obtain ⟨y, rfl⟩ : ∃ y : Nat, z = y := ⟨z.toNat, by omega⟩
  have hyl : y < D.length := by omega
  have hxl : x < D.length := by omega
  refine acall_vcg tok Try.call76 Try.func76 rfl Try.ntmps76 rfl (by simp) ?_
  refine vops_gen (fun K0 hK0 => hK0 _ _ ?_)
  refine vcg_draw tok mx [0, 0, 3, 7, 0, 0, 48, 112, 255, 511] [false, true, false, false, true, true, true, true, false, false] [0, 1, 2, 3, 4, 5, 6, 7, 8, 9] (by kernel_rfl) ?_
  refine vopsO_gen (fun K0 hK0 => ?_)
  refine rdCells_of (h1) ?_
  refine ⟨_, rfl, ?_⟩
  refine isCells_of h3 ⟨y, rfl, by omega, ?_⟩
  refine rdCells_of h3 (Ld_ints y D[y]! (by simp) (by simp [hyl]) ?_)
  refine rdCells_of (h1) ?_
  refine ⟨_, rfl, ?_⟩
  refine rdCells_of (h2) ?_
  refine ⟨_, rfl, ?_⟩
  refine isCells_of h3 ⟨x, rfl, hx, ?_⟩
  refine rdCells_of h3 (Ld_ints x D[x]! (by simp) (by simp [hxl]) ?_)
  refine hK0 _ _ ?_
  exact h

/-- The neighbours that are nearer. -/
abbrev hopF (s : Sh) (n : Nat) (D : List Int) (x : Nat) : List Int := keptF (fun z => decide (D[x]! ≤ D[z.toNat]!)) (lnkL s x n)

theorem g45 {H : List Blk} {R : Value → List Blk → Prop} {b n x y : Nat} {wr : Bool} {kind hosts : Int} {sides : List Int} {s : Sh} (hs : shapeF kind sides hosts = some s) (hn : s.sw = n) (hx : x < n) (hy : y < n) (hb : bget H b = some (.cells wr 1 (ints sides)))
    (h : ∀ H' D k zs, Dst (fun x : Nat => s.near x) n y D → zs.take (hopF s n D x).length = hopF s n D x → HS H none' [(true, k, rw' zs)] H' → R (.tuple ⟨[.slice (some ⟨k, 0, none⟩) (hopF s n D x).length (lnkL s x n).length, .int .i64 0]⟩) H') : ACall Try.prog 45 [spV kind (sv b sides.length) hosts, .int .i64 x, .int .i64 y] H R := by
  have hok := shapeF_ok hs
  have hof := shapeF_of hs
  refine acall_vcg tok Try.call45 Try.func45 rfl Try.ntmps45 rfl (by simp) ?_
  refine new_hs (((HS.start H none').add (c := false) hb (fun i p hi => by simp at hi) (fun h => by cases h))) (fun H1 b1 e1 l1 hs1 => ?_)
  refine new_hs hs1 (fun H2 xc e2 l2 hs2 => ?_)
  refine vops_gen (fun K0 hK0 => hK0 _ _ ?_)
  refine rdCells_of (hs2.get 1 rfl) ?_
  refine ⟨_, rfl, _, rfl, _, rfl, ?_⟩
  refine rdCells_of (hs2.get 0 rfl) ?_
  refine ⟨_, rfl, ?_⟩
  refine And.intro (by decide) ?_
  refine newS_hs hs2 (fun H3 j e3 l3 hs3 => ?_)
  (first | refine c62 (l := [(x : Int), (y : Int)]) kind hosts (hs3.get 3 rfl) (Nat.le_refl _) (hs3.get 0 rfl) (Nat.le_refl _) (by simp) ?_ | refine (c62 (l := [(x : Int), (y : Int)]) kind hosts (hs3.get 3 rfl) (Nat.le_refl _) (hs3.get 0 rfl) (Nat.le_refl _) (by simp) ?_).call)
  have e1 : withR (sv b sides.length) (some s) [(x : Int), (y : Int)] = .tuple ⟨[shV (sv b sides.length) s, .int .i64 0]⟩ := by
    have : inAll [(x : Int), (y : Int)] s.sw = true := by simp [inAll]; omega
    simp [withR, this]
  rw [hs, e1]
  refine ⟨_, rfl, _, rfl, ?_⟩
  refine vops_gen (fun K0 hK0 => hK0 _ _ ?_)
  refine vops_gen (fun K0 hK0 => hK0 _ _ ?_)
  refine And.intro (fun h => absurd h (by decide)) (fun _ => ?_)
  refine vops_gen (fun K0 hK0 => ?_)
  refine g73 hok hof hn hy (hs3.get 3 rfl) (fun H4 kd D hd hs4 => ?_)
  have hs4 := hs3.call hs4 rfl
  have hlen := hd.len
  refine new_hs hs4 (fun H5 dc e5 l5 hs5 => ?_)
  simp only [putK, vops, guardK, cstep, Nat.blt]
  refine store_hs hs5 0 rfl [sv kd n] rfl rfl (Nat.le_refl _) rfl (fun H6 l6 hs6 => ?_)
  refine hK0 _ _ ?_
  clear hK0 K0
  refine vops_gen (fun K0 hK0 => ?_)
  refine rdCells_of (hs6.get 3 rfl) ?_
  refine ⟨_, rfl, ?_⟩
  refine x_near_sorted hok (at_of hof (hs6.get 5 rfl)) (hs6.lt 5 rfl) ⟨by omega, by omega⟩ (fun fv H7 hcall => ?_)
  refine hcall.mono ?_
  rw [near_srt hok hn hx]
  rintro _ H8 ⟨q, rfl, hs8⟩
  have hs8 := hs6.call hs8 rfl
  have hlb := lnkL_len s x n
  have hnn : n ≤ 1000000 := by have := sw_bd hok; omega
  have hs9 := hs8.pick [0, 1, 2, 4] (by decide) (L' := [(true, q, rw' (lnkL s x n)), (true, dc, _), (true, kd, rw' D), (true, xc, _)]) rfl
  refine g75 (p := fun z => decide (D[x]! ≤ D[z.toNat]!)) hs9 (by omega) (fun {H' zs R z} hs' hz hr => ?_) (fun H' zs hzl htk hs' => ?_)
  · exact n76 (hs'.get 1 rfl) (hs'.get 3 rfl) (hs'.get 2 rfl) hlen (lnkL_mem.1 hz).1 hx hr
  · refine hK0 _ _ ?_
    exact h H' D q zs hd htk (hs'.pick [0] (by decide) rfl)
end Go.Af.Try
namespace Go.Af.Try
open Go

theorem way_closed {s : Sh} (hok : s.ok) {n : Nat} (hn : s.sw = n) {P : Nat → Prop} (hc : ∀ u v : Nat, u < n → v < n → s.lnk u v = true → P u → P v) {l : List Int} {a b : Nat} (hw : WayOk s n l a b) : (P a → P b) ∧ (P b → P a) := by
  have hp := hw.pos
  have key : ∀ i, i < l.length → (P l[0]!.toNat ↔ P l[i]!.toNat) := by
    intro i
    induction i with
    | zero => intro _; exact Iff.rfl
    | succ i ih =>
      intro hi
      have h1 := hw.inn i (by omega)
      have h2 := hw.inn (i + 1) hi
      have h3 := hw.lnk i hi
      have e1 : ((l[i]!.toNat : Nat) : Int) = l[i]! := by omega
      have e2 : ((l[i + 1]!.toNat : Nat) : Int) = l[i + 1]! := by omega
      rw [ih (by omega)]
      constructor
      · exact hc _ _ (by omega) (by omega) (by rw [e1, e2]; exact h3)
      · exact hc _ _ (by omega) (by omega) (by rw [e1, e2, lnk_sym hok (by omega) (by omega)]; exact h3)
  have := key (l.length - 1) (by omega)
  rw [hw.hd, hw.last, Int.toNat_natCast, Int.toNat_natCast] at this
  exact ⟨this.1, this.2⟩
theorem way_home {s : Sh} (hok : s.ok) {n : Nat} (hn : s.sw = n) {x : Nat} (hx : x < n) : ∃ l, WayOk s n l x (0 : Nat) := by
  cases s with
  | grid g => exact ⟨_, (tor_way hok hn (x := x) (y := (0 : Nat)) (by omega) (by omega)).1⟩
  | fat k n0 =>
    obtain ⟨K, hK⟩ : ∃ K : Nat, k = K := ⟨k.toNat, by have := hok.1.1; omega⟩
    subst hK
    have hK2 : 2 ≤ K := by have := hok.1.1; omega
    obtain ⟨a1, a2, a3⟩ := fat_lv hok rfl hn hx
    obtain ⟨L, _, w, _⟩ := tre_way hok rfl hn (G := 0) (Nat.pow_pos (by omega)) a1 a2
    rw [a3] at w
    exact ⟨_, w⟩
  | fly a h => exact ⟨_, (fly_way hok hn (x := x) (y := (0 : Nat)) (by omega) (by omega)).1⟩
theorem near_sym {s : Sh} (hok : s.ok) {n : Nat} (hn : s.sw = n) {w z : Nat} (hw : w < n) (hz : z < n) (h : (z : Int) ∈ s.near w) : (w : Int) ∈ s.near z := by
  have h1 := ((near_mem hok hn hw).1 h).2
  rw [lnk_sym hok (by omega) (by omega)] at h1
  exact (near_mem hok hn hz).2 ⟨by omega, h1⟩
theorem dst_pos {s : Sh} (hok : s.ok) {n : Nat} (hn : s.sw = n) {y : Nat} {D : List Int} (d : Dst (fun x : Nat => s.near x) n y D) {x : Nat} (hx : x < n) : 0 ≤ D[x]! := by
  have hc : ∀ u v : Nat, u < n → v < n → s.lnk u v = true → 0 ≤ D[u]! → 0 ≤ D[v]! := fun u v hu hv hl h0 => by
    have := (d.fwd u hu h0 v ((near_mem hok hn hu).2 ⟨by omega, hl⟩)).1
    rwa [Int.toNat_natCast] at this
  obtain ⟨l, w⟩ := way_home hok hn d.hsrc
  obtain ⟨l', w'⟩ := way_home hok hn hx
  exact (way_closed hok hn (P := fun z => 0 ≤ D[z]!) hc w').2 ((way_closed hok hn (P := fun z => 0 ≤ D[z]!) hc w).1 (by rw [d.s0]; exact Int.le_refl _))
theorem dst_tri {nr : Nat → List Int} {N x y : Nat} {D D' : List Int} (d : Dst nr N y D) (d' : Dst nr N x D') (hsym : ∀ w z : Nat, w < N → z < N → (z : Int) ∈ nr w → (w : Int) ∈ nr z) : ∀ (k z : Nat), z < N → D[z]! = k → 0 ≤ D'[z]! → D'[y]! ≤ D'[z]! + k := by
  intro k
  induction k with
  | zero =>
    intro z hz hk h0
    rcases d.back z hz (by omega) with rfl | ⟨w, _, _, _, _⟩
    · omega
    · omega
  | succ k ih =>
    intro z hz hk h0
    rcases d.back z hz (by omega) with rfl | ⟨w, h1, h2, h3, h4⟩
    · have := d.s0; omega
    · have h5 := d'.fwd z hz h0 w (hsym w z h1 hz h2)
      rw [Int.toNat_natCast] at h5
      have := ih w h1 (by omega) h5.1
      omega
theorem dst_sym {s : Sh} (hok : s.ok) {n : Nat} (hn : s.sw = n) {x y : Nat} {D D' : List Int} (d : Dst (fun x : Nat => s.near x) n y D) (d' : Dst (fun x : Nat => s.near x) n x D') : D[x]! = D'[y]! := by
  have hx := d'.hsrc
  have hy := d.hsrc
  have p1 := dst_pos hok hn d hx
  have p2 := dst_pos hok hn d' hy
  have hsym : ∀ w z : Nat, w < n → z < n → (z : Int) ∈ s.near w → (w : Int) ∈ s.near z := fun w z hw hz h => near_sym hok hn hw hz h
  have a := dst_tri d d' hsym D[x]!.toNat x hx (by omega) (by rw [d'.s0]; exact Int.le_refl _)
  have b := dst_tri d' d hsym D'[y]!.toNat y hy (by omega) (by rw [d.s0]; exact Int.le_refl _)
  rw [d'.s0] at a
  rw [d.s0] at b
  omega
theorem dst_zero {nr : Nat → List Int} {N x y : Nat} {D : List Int} (d : Dst nr N y D) (hx : x < N) : D[x]! = 0 ↔ x = y := by
  constructor
  · intro h
    rcases d.back x hx (by omega) with h1 | ⟨w, _, _, _, _⟩
    · exact h1
    · omega
  · rintro rfl; exact d.s0
/-- What a neighbour's distance may be. -/
theorem dst_near {s : Sh} (hok : s.ok) {n : Nat} (hn : s.sw = n) {x y z : Nat} {D : List Int} (d : Dst (fun x : Nat => s.near x) n y D) (hx : x < n) (hz : (z : Int) ∈ lnkL s x n) : z < n ∧ D[x]! - 1 ≤ D[z]! ∧ D[z]! ≤ D[x]! + 1 := by
  obtain ⟨h1, h2⟩ := lnkL_mem.1 hz
  have hzn : z < n := by omega
  have m1 : (z : Int) ∈ s.near x := (near_mem hok hn hx).2 ⟨h1, h2⟩
  have m2 := near_sym hok hn hx hzn m1
  have f1 := d.fwd x hx (dst_pos hok hn d hx) z m1
  have f2 := d.fwd z hzn (dst_pos hok hn d hzn) x m2
  rw [Int.toNat_natCast] at f1 f2
  exact ⟨hzn, by omega, f1.2⟩
theorem hop_mem {s : Sh} (hok : s.ok) {n : Nat} (hn : s.sw = n) {x y z : Nat} {D : List Int} (d : Dst (fun x : Nat => s.near x) n y D) (hx : x < n) (hz : (z : Int) ∈ lnkL s x n) : (z : Int) ∈ hopF s n D x ↔ D[z]! = D[x]! - 1 := by
  have := dst_near hok hn d hx hz
  rw [hopF, keptF, List.mem_filter]
  simp only [hz, true_and, Int.toNat_natCast]
  simp only [Bool.not_eq_true', decide_eq_false_iff_not]
  omega
theorem hop_nil {s : Sh} (hok : s.ok) {n : Nat} (hn : s.sw = n) {x y : Nat} {D : List Int} (d : Dst (fun x : Nat => s.near x) n y D) (hx : x < n) : (hopF s n D x).length = 0 ↔ x = y := by
  rw [List.length_eq_zero_iff]
  constructor
  · intro h
    rcases d.back x hx (dst_pos hok hn d hx) with h1 | ⟨w, h1, h2, h3, h4⟩
    · exact h1
    · have m := near_sym hok hn h1 hx h2
      have m' : (w : Int) ∈ lnkL s x n := lnkL_mem.2 ((near_mem hok hn hx).1 m)
      have := (hop_mem hok hn d hx m').2 (by omega)
      rw [h] at this
      simp at this
  · rintro rfl
    rw [hopF, keptF, List.filter_eq_nil_iff]
    intro z hz
    have h1 := (lnkL_mem.1 hz).1
    have := dst_pos hok hn d (x := z.toNat) (by omega)
    simp only [d.s0, this, decide_true, Bool.not_true, Bool.false_eq_true, not_false_eq_true]
theorem one_iff {s : Sh} (hok : s.ok) {n : Nat} (hn : s.sw = n) {x y : Nat} {D : List Int} (d : Dst (fun x : Nat => s.near x) n y D) (hx : x < n) : (y : Int) ∈ lnkL s x n ↔ D[x]! = 1 := by
  have hy := d.hsrc
  constructor
  · intro h
    have h1 := dst_near hok hn d hx h
    rw [d.s0] at h1
    have hne : x ≠ y := by
      rintro rfl
      have := (lnkL_mem.1 h).2
      simp [Sh.lnk] at this
    have := mt (dst_zero d hx).1 hne
    have := dst_pos hok hn d hx
    omega
  · intro h
    rcases d.back x hx (by omega) with h1 | ⟨w, h1, h2, h3, h4⟩
    · have := (dst_zero d hx).2 h1; omega
    · have : w = y := (dst_zero d h1).1 (by omega)
      subst this
      exact lnkL_mem.2 ((near_mem hok hn hx).1 (near_sym hok hn h1 hx h2))
/-- The lesser way around a ring. -/
def rngF (a b m : Int) : Int := min (if a - b < 0 then -(a - b) else a - b) (m - (if a - b < 0 then -(a - b) else a - b))
theorem ring_eq {m a t : Int} (hm : 2 ≤ m) (h0 : 0 ≤ a) (h1 : a < m) (k0 : 0 ≤ t) (k1 : t < m) : rngF a t m = (mdF m a t : Int) := by
  rw [mdF_eq hm h0 h1 k0 k1, rngF]
  split <;> split <;> omega
/-- The sum over the first sides. -/
def rsF (g p q : List Int) : Nat → Int
  | 0 => 0
  | i + 1 => rsF g p q i + rngF p[i]! q[i]! g[i]!
theorem rs_eq {g p q : List Int} (hg : ∀ i, i < g.length → 2 ≤ g[i]!) (hp : InR g p) (hq : InR g q) : ∀ n, n ≤ g.length → rsF g p q n = (sumN n (fun i => mdF g[i]! p[i]! q[i]!) : Int) := by
  intro n
  induction n with
  | zero => intro _; rfl
  | succ n ih =>
    intro hn
    have a := hp.2 n (by omega)
    have b := hq.2 n (by omega)
    rw [rsF, ih (by omega), ring_eq (hg n (by omega)) a.1 a.2 b.1 b.2]
    simp only [sumN]
    omega
theorem grid_sum {g : List Int} (hok : (Sh.grid g).ok) {n : Nat} (hn : (Sh.grid g).sw = n) {x y : Nat} (hx : x < n) {D : List Int} (d : Dst (fun x : Nat => (Sh.grid g).near x) n y D) : rsF g (coords g x) (coords g y) g.length = D[x]! := by
  have hg : ∀ m ∈ g, 2 ≤ m := fun m h => (hok.2.2.1 m h).1
  have hg' : ∀ i, i < g.length → 2 ≤ g[i]! := fun i hi => by rw [getElem!_pos g i hi]; exact hg _ (List.getElem_mem hi)
  have hc : ∀ z : Nat, InR g (coords g z) := fun z => coords_in (by omega) g hg
  have hy := d.hsrc
  obtain ⟨h1, h2⟩ := tor_way hok hn (x := x) (y := y) (by omega) (by omega)
  rw [dst_grid hok hn hx hy d, h2, rs_eq hg' (hc x) (hc y) _ (Nat.le_refl _)]
  simp [gdF]
end Go.Af.Try
namespace Go.Af.Try
open Go Go.Proofs
attribute [local irreducible] awp ACall ACallX AYield AInvoke newSlice isCells rdCells wrCells aAppend rangeEnd roundBegin roundEnd


theorem n46 {H : List Blk} {R : Value → List Blk → Prop} {a b m : Int} (ha : 0 ≤ a ∧ a ≤ 1000) (hb : 0 ≤ b ∧ b ≤ 1000) (hm : 0 ≤ m ∧ m ≤ 1000) (h : R (.int .i64 (rngF a b m)) H) : ACall Try.prog 46 [.int .i64 a, .int .i64 b, .int .i64 m] H R := by
  refine acall_vcg tok Try.call46 Try.func46 rfl Try.ntmps46 rfl (by simp) ?_
  refine vops_gen (fun K0 hK0 => hK0 _ _ ?_)
  refine Or.inl ⟨a - b, rfl, by unfold I64; omega, ?_⟩
  unfold rngF at h
  refine And.intro (fun hc => ?_) (fun hc => ?_)
  · have hc : a - b < 0 := of_decide_eq_true hc
    rw [if_pos hc] at h
    refine Or.inl ⟨-(a - b), by omega, by unfold I64; omega, ?_⟩
    refine Or.inl ⟨m - -(a - b), rfl, by unfold I64; omega, ?_⟩
    exact h
  · have hc : ¬ a - b < 0 := of_decide_eq_false hc
    rw [if_neg hc] at h
    refine Or.inl ⟨m - (a - b), rfl, by unfold I64; omega, ?_⟩
    exact h
theorem rs_bd {g p q : List Int} (hg : ∀ i, i < g.length → 2 ≤ g[i]! ∧ g[i]! ≤ 16) (hp : InR g p) (hq : InR g q) : ∀ n : Nat, n ≤ g.length → 0 ≤ rsF g p q n ∧ rsF g p q n ≤ 16 * n := by
  intro n
  induction n with
  | zero => intro _; simp [rsF]
  | succ n ih =>
    intro hn
    have h := ih (by omega)
    have a := hp.2 n (by omega)
    have b := hq.2 n (by omega)
    have c := hg n (by omega)
    have e := ring_eq c.1 a.1 a.2 b.1 b.2
    have : rngF p[n]! q[n]! g[n]! ≤ g[n]! := by
      unfold rngF
      split <;> omega
    rw [rsF]
    omega
theorem iff_dec {p q : Prop} [Decidable p] [Decidable q] (h : p ↔ q) : decide p = decide q := decide_eq_decide.2 h

theorem Rd.pre {H : List Blk} {j c : Nat} {wr : Bool} {xs zs : List Int} (h : bget H j = some (.cells wr 1 (ints zs))) (ht : zs.take xs.length = xs) (hc : xs.length ≤ c) : Rd H (.slice (some ⟨j, 0, none⟩) xs.length c) xs :=
  ⟨j, 0, wr, ints zs, h, .inl ⟨c, hc, rfl, fun i x hx => by
    have hi : i < xs.length := (List.getElem?_eq_some_iff.1 hx).1
    rw [Nat.zero_add, ints_get, ← List.getElem?_take_of_lt hi, ht, hx]; rfl⟩⟩

set_option maxHeartbeats 4000000 in
theorem k11 (kind hosts : Int) (sides : List Int) (a b : Nat) {m : LM} {argsR : Array Value} {w : World} (ha : LRel m [spV kind (sv 0 sides.length) hosts, .int .u8 a, .int .u8 b] argsR.toList) (hab : a ≤ 255 ∧ b ≤ 255) (hr : HRel m [ro sides] w) :
    Calls Try.prog 11 argsR w fun e w' => ∃ vR, e = .returned vR ∧ AppOut m [ro sides] w (fun v _ => v = .bool true) vR w' := by
  refine calls_vcg tok Try.func11 rfl Try.ntmps11 rfl (by simp) ?_ ha hr
  have hs1 := hs_one kind hosts sides
  refine vops_gen (fun K0 hK0 => hK0 _ _ ?_)
  refine rdCells_of (hs1.get 0 rfl) ?_
  refine ⟨_, rfl, _, rfl, _, rfl, ?_⟩
  (first | refine c19 (hs1.get 1 rfl) (Nat.le_refl _) ?_ | refine (c19 (hs1.get 1 rfl) (Nat.le_refl _) ?_).call)
  rcases szF_or' (shapeF kind sides hosts) 64 with hz | ⟨s, hs, hsw, hz⟩
  · rw [hz]
    refine ⟨_, rfl, _, rfl, ?_⟩
    refine vops_gen (fun K0 hK0 => hK0 _ _ ?_)
    refine vops_gen (fun K0 hK0 => hK0 _ _ ?_)
    refine And.intro (fun _ => ?_) (fun h => absurd h (by decide))
    (first | refine c12 ?_ | refine (c12 ?_).call)
    exact rfl
  rw [hz]
  have hok := shapeF_ok hs
  have hof := shapeF_of hs
  have hbd := sw_bd hok
  obtain ⟨n, hn⟩ : ∃ n : Nat, s.sw = n := ⟨s.sw.toNat, by omega⟩
  have hn0 : 0 < n := by omega
  rw [hn]
  refine ⟨_, rfl, _, rfl, ?_⟩
  refine vops_gen (fun K0 hK0 => hK0 _ _ ?_)
  refine vops_gen (fun K0 hK0 => hK0 _ _ ?_)
  refine And.intro (fun h => by simp at h; omega) (fun _ => ?_)
  have hxn : a % n < n := Nat.mod_lt _ hn0
  have hyn : b % n < n := Nat.mod_lt _ hn0
  refine vcg_draw tok mx [0, 1, 0, 7, 0, 16, 0, 112, 15, 511] [false, false, false, false, false, false, false, false, false, false] [0, 1, 2, 3, 4, 5, 6, 7, 8, 9] (by kernel_rfl) ?_
  refine vopsO_gen (fun K0 hK0 => ?_)
  refine Or.inl ⟨(a : Int), rfl, by unfold I64; omega, ?_⟩
  refine And.intro (by omega) ?_
  refine ⟨((a % n : Nat) : Int), (Int.ofNat_tmod a n).symm, ?_⟩
  refine Or.inl ⟨(b : Int), rfl, by unfold I64; omega, ?_⟩
  refine And.intro (by omega) ?_
  refine ⟨((b % n : Nat) : Int), (Int.ofNat_tmod b n).symm, ?_⟩
  refine hK0 _ _ ?_
  clear hK0 K0
  generalize a % n = x at hxn ⊢
  generalize b % n = y at hyn ⊢
  refine rdCells_of (hs1.get 0 rfl) ?_
  refine ⟨_, rfl, _, rfl, _, rfl, ?_⟩
  refine g43 hs hn hxn hyn (hs1.get 1 rfl) (fun H2 D hd hs2 => ?_)
  have hs2 := hs1.call hs2 rfl
  refine ⟨_, rfl, _, rfl, ?_⟩
  refine vops_gen (fun K0 hK0 => hK0 _ _ ?_)
  refine rdCells_of (hs2.get 0 rfl) ?_
  refine ⟨_, rfl, _, rfl, _, rfl, ?_⟩
  refine g43 hs hn hyn hxn (hs2.get 1 rfl) (fun H3 D' hd' hs3 => ?_)
  rw [← dst_sym hok hn hd hd']
  clear hd' D'
  have hs3 := hs2.call hs3 rfl
  refine ⟨_, rfl, _, rfl, ?_⟩
  refine vops_gen (fun K0 hK0 => hK0 _ _ ?_)
  refine rdCells_of (hs3.get 0 rfl) ?_
  refine ⟨_, rfl, _, rfl, _, rfl, ?_⟩
  refine g40 (hs3.get 1 rfl) (fun H4 k hs4 => ?_)
  have hs4 := hs3.call hs4 rfl
  have hin : 0 ≤ (x : Int) ∧ (x : Int) < s.sw := by omega
  have his : isF (some s) (x : Int) = 0 := by simp only [isF]; rw [if_pos hin]
  rw [hs, nbL_some hn hin] at hs4
  rw [hs, nbL_some hn hin, his]
  refine ⟨_, rfl, _, rfl, ?_⟩
  refine vops_gen (fun K0 hK0 => hK0 _ _ ?_)
  refine rdCells_of (hs4.get 1 rfl) ?_
  refine ⟨_, rfl, _, rfl, _, rfl, ?_⟩
  refine g45 hs hn hxn hyn (hs4.get 2 rfl) (fun H5 D2 q zs hd2 htk hs5 => ?_)
  have hs5 := hs4.call hs5 rfl
  have : D2 = D := hd2.eq hd (fun _ _ _ _ => Iff.rfl)
  subst this
  refine ⟨_, rfl, _, rfl, ?_⟩
  refine vops_gen (fun K0 hK0 => hK0 _ _ ?_)
  have hlb := lnkL_len s x n
  have hb1 := iff_dec ((dst_zero hd hxn).trans (show x = y ↔ (x : Int) = (y : Int) by omega))
  have hb2 := iff_dec ((hop_nil hok hn hd hxn).trans (show x = y ↔ (x : Int) = (y : Int) by omega))
  have hb2 : decide (((hopF s n D2 x).length : Int) = 0) = decide ((x : Int) = (y : Int)) := by rw [← hb2]; exact iff_dec (by omega)
  have hone := one_iff hok hn hd hxn
  have hDn := hd.le x hxn
  have hDp := dst_pos hok hn hd hxn
  have hnear : ∀ z : Nat, (z : Int) ∈ lnkL s x n → (z < n ∧ D2[x]! - 1 ≤ D2[z]! ∧ D2[z]! ≤ D2[x]! + 1) ∧ ((z : Int) ∈ hopF s n D2 x ↔ D2[z]! = D2[x]! - 1) := fun z hz => ⟨dst_near hok hn hd hxn hz, hop_mem hok hn hd hxn hz⟩
  have hsum : ∀ g, s = .grid g → rsF g (coords g x) (coords g y) g.length = D2[x]! := fun g hg => by
    subst hg; exact grid_sum hok hn hxn hd
  have hLin : ∀ z ∈ lnkL s x n, 0 ≤ z := fun z hz => (lnkL_mem.1 hz).1.1
  have hhL : (hopF s n D2 x).length ≤ (lnkL s x n).length := List.length_filter_le _ _
  have hhl : (hopF s n D2 x).length ≤ 1000000000 := by
    have := List.length_filter_le (fun z => !decide (D2[x]! ≤ D2[z.toNat]!)) (lnkL s x n)
    simp only [hopF, keptF]; omega
  generalize hopF s n D2 x = hop at *
  generalize lnkL s x n = L at *
  generalize hdd : D2[x]! = d at *
  refine vops_gen (fun K0 hK0 => ?_)
  repeat refine And.intro (fun _ => ?_) (fun h => absurd h (by first | decide | (simp; done) | (simp [hb1, hb2]; done) | (simp; omega)))
  refine hK0 _ _ ?_
  clear hK0 K0
  refine And.intro (fun h => absurd h (by rw [hb2]; simp)) (fun _ => ?_)
  refine vcg_loopR (α := List Blk × Nat) tok (fun z => HS [ro sides] none' [(true, q, rw' zs), (true, k, rw' L), (true, 1, spB kind hosts sides), (false, 0, ro sides)] z.1 ∧ z.2 ≤ L.length)
    (fun z => [(3, pV 1), (9, .int .i64 (x : Int)), (10, .int .i64 (y : Int)), (11, .int .i64 d), (15, sv k L.length), (17, .slice (some ⟨q, 0, none⟩) hop.length L.length), (19, .bool (decide ((y : Int) ∈ L.take z.2))), (20, .int .i64 (z.2 : Int))]) (fun z => z.1) (fun z => L.length - z.2)
    (H5, 0) ⟨hs5, Nat.zero_le _⟩ (Or.inl ⟨⟨rfl, rfl, rfl, rfl, rfl, rfl, rfl, rfl, trivial⟩, rfl⟩) ?_
  clear hs5 hs4 hs3 hs2 hs1
  rintro ⟨H6, i⟩ ⟨hs6, hi⟩
  simp only at hs6 hi
  refine And.intro (fun hc => ?_) (fun hc => ?_)
  · have hlt : i < L.length := by simp at hc; omega
    obtain ⟨z, hz⟩ : ∃ z : Nat, L[i]! = z := ⟨L[i]!.toNat, by have := hLin L[i]! (by rw [getElem!_pos L i hlt]; exact List.getElem_mem hlt); omega⟩
    have hzm : (z : Int) ∈ L := by rw [← hz, getElem!_pos L i hlt]; exact List.getElem_mem hlt
    obtain ⟨⟨hzn, hz1, hz2⟩, hz3⟩ := hnear z hzm
    refine vcg_draw tok mx [0, 0, 0, 6, 14, 0, 63, 127, 255, 255, 511, 2047] [false, true, true, true, true, true, false, false, false, false, false, false] [0, 1, 2, 3, 4, 5, 6, 7, 8, 9, 10, 11] (by kernel_rfl) ?_
    refine vopsO_gen (fun K0 hK0 => ?_)
    refine rdCells_of (hs6.get 2 rfl) ?_
    refine ⟨_, rfl, _, rfl, _, rfl, ?_⟩
    refine isCells_of (hs6.get 1 rfl) ⟨i, rfl, hlt, ?_⟩
    refine rdCells_of (hs6.get 1 rfl) (Ld_ints i L[i]! (by simp) (by simp [hlt]) ?_)
    rw [hz]
    refine g43 hs hn hzn hyn (hs6.get 3 rfl) (fun H7 D3 hd3 hs7 => ?_)
    have hs7 := hs6.call hs7 rfl
    have : D3 = D2 := hd3.eq hd (fun _ _ _ _ => Iff.rfl)
    subst this
    clear hd3
    generalize D3[z]! = e at *
    refine ⟨_, rfl, _, rfl, ?_⟩
    refine hK0 _ _ ?_
    clear hK0 K0
    have hb3 : decide (e = d - 1) = decide ((z : Int) ∈ hop) := iff_dec hz3.symm
    refine vops_gen (fun K0 hK0 => ?_)
    repeat refine And.intro (fun _ => ?_) (fun h => absurd h (by first | decide | (simp; done) | (simp; omega)))
    refine Or.inl ⟨d - 1, rfl, by unfold I64; omega, ?_⟩
    repeat refine And.intro (fun _ => ?_) (fun h => absurd h (by first | decide | (simp; done) | (simp; omega)))
    refine Or.inl ⟨d + 1, rfl, by unfold I64; omega, ?_⟩
    repeat refine And.intro (fun _ => ?_) (fun h => absurd h (by first | decide | (simp; done) | (simp; omega)))
    refine Or.inl ⟨d - 1, rfl, by unfold I64; omega, ?_⟩
    repeat refine And.intro (fun _ => ?_) (fun h => absurd h (by first | decide | (simp; done) | (simp; omega)))
    refine isCells_of (hs7.get 1 rfl) ⟨i, rfl, hlt, ?_⟩
    repeat refine And.intro (fun _ => ?_) (fun h => absurd h (by first | decide | (simp; done) | (simp; omega)))
    refine rdCells_of (hs7.get 1 rfl) (Ld_ints i L[i]! (by simp) (by simp [hlt]) ?_)
    rw [hz]
    repeat refine And.intro (fun _ => ?_) (fun h => absurd h (by first | decide | (simp; done) | (simp; omega)))
    (first | refine c42 (Rd.pre (hs7.get 0 rfl) htk hhL) hhl ?_ | refine (c42 (Rd.pre (hs7.get 0 rfl) htk hhL) hhl ?_).call)
    repeat refine And.intro (fun _ => ?_) (fun h => absurd h (by first | decide | (simp; done) | (simp [hb3]; done) | (simp; omega)))
    refine hK0 _ _ ?_
    clear hK0 K0
    refine And.intro (fun h => absurd h (by rw [hb3]; simp)) (fun _ => ?_)
    have hti : L.take (i + 1) = L.take i ++ [(z : Int)] := by rw [take_one hlt, hz]
    by_cases hlk : (y : Int) ∈ L.take i
    · have hlk' : (y : Int) ∈ L.take (i + 1) := by rw [hti]; exact List.mem_append_left _ hlk
      rw [decide_eq_true hlk]
      refine vops_gen (fun K0 hK0 => ?_)
      repeat refine And.intro (fun h => absurd h (by first | decide | (simp; done) | (simp; omega))) (fun _ => ?_)
      refine hK0 _ _ ?_
      clear hK0 K0
      refine Or.inl ⟨((i + 1 : Nat) : Int), by simp, by unfold I64; omega, ?_⟩
      refine ⟨(H7, i + 1), ⟨hs7, hlt⟩, by simp only; omega, Or.inl ⟨⟨rfl, rfl, rfl, rfl, rfl, rfl, ?_, rfl, trivial⟩, rfl⟩⟩
      simp only; rw [decide_eq_true hlk']; rfl
    · rw [decide_eq_false hlk]
      refine vops_gen (fun K0 hK0 => ?_)
      repeat refine And.intro (fun _ => ?_) (fun h => absurd h (by first | decide | (simp; done) | (simp; omega)))
      refine isCells_of (hs7.get 1 rfl) ⟨i, rfl, hlt, ?_⟩
      repeat refine And.intro (fun _ => ?_) (fun h => absurd h (by first | decide | (simp; done) | (simp; omega)))
      refine rdCells_of (hs7.get 1 rfl) (Ld_ints i L[i]! (by simp) (by simp [hlt]) ?_)
      rw [hz]
      repeat refine And.intro (fun _ => ?_) (fun h => absurd h (by first | decide | (simp; done) | (simp; omega)))
      refine hK0 _ _ ?_
      clear hK0 K0
      refine Or.inl ⟨((i + 1 : Nat) : Int), by simp, by unfold I64; omega, ?_⟩
      refine ⟨(H7, i + 1), ⟨hs7, hlt⟩, by simp only; omega, Or.inl ⟨⟨rfl, rfl, rfl, rfl, rfl, rfl, ?_, rfl, trivial⟩, rfl⟩⟩
      have : decide ((z : Int) = (y : Int)) = decide ((y : Int) ∈ L.take (i + 1)) := iff_dec (by
        rw [hti, List.mem_append, List.mem_singleton]
        exact ⟨fun h => .inr h.symm, fun h => h.elim (fun h => absurd h hlk) (fun h => h.symm)⟩)
      simp only; rw [← this]; rfl
  · have : i = L.length := by simp at hc; omega
    subst this
    rw [List.take_length]
    have hb4 : decide ((y : Int) ∈ L) = decide (d = 1) := iff_dec hone
    refine And.intro (fun h => absurd h (by rw [hb4]; simp)) (fun _ => ?_)
    first | refine Exists.intro _ (And.intro rfl ?_) | refine And.intro (by decide) ?_
    refine isCells_of (hs6.get 2 rfl) ?_
    refine rdCells_of (hs6.get 2 rfl) ?_
    refine ⟨_, rfl, ?_⟩
    by_cases hk1 : kind = 1
    rotate_left
    · refine And.intro (fun _ => ?_) (fun h => by simp at h; omega)
      (first | refine c12 ?_ | refine (c12 ?_).call)
      exact rfl
    subst hk1
    refine And.intro (fun h => absurd h (by decide)) (fun _ => ?_)
    obtain ⟨g, rfl⟩ : ∃ g, s = .grid g := by
      cases s with
      | grid g => exact ⟨g, rfl⟩
      | fat _ _ => have := hof.1; omega
      | fly _ _ => have := hof.1; omega
    obtain ⟨_, rfl⟩ := hof
    have hsum := hsum g rfl
    have hgi : ∀ i, i < g.length → 2 ≤ g[i]! ∧ g[i]! ≤ 16 := fun i hi => by rw [getElem!_pos g i hi]; exact hok.2.2.1 _ (List.getElem_mem hi)
    have hg : ∀ m ∈ g, 2 ≤ m := fun m h => (hok.2.2.1 m h).1
    have hcx : InR g (coords g x) := coords_in (by omega) g hg
    have hcy : InR g (coords g y) := coords_in (by omega) g hg
    have hg4 := hok.2.1
    refine rdCells_of (hs6.get 2 rfl) ?_
    refine ⟨_, rfl, _, rfl, _, rfl, ?_⟩
    have pl : ∀ z : Nat, z < n → placeF z (shapeF 1 g hosts) = .inr (coords g z) := fun z hz => by
      rw [hs]
      have : 0 ≤ (z : Int) ∧ (z : Int) < (Sh.grid g).sw := by omega
      simp only [placeF]; rw [if_pos this]; rfl
    have hI : ∀ z : Nat, z < n → I64 (z : Int) := fun z hz => by unfold I64; omega
    (first | refine c28 (hI x hxn) (hs6.get 3 rfl) (Nat.le_refl _) ?_ | refine (c28 (hI x hxn) (hs6.get 3 rfl) (Nat.le_refl _) ?_).call)
    rw [pl x hxn, show orH H6 (.inr (coords g (x : Int))) = H6 ++ [rw' (coords g x)] from rfl]
    refine ⟨_, rfl, _, rfl, ?_⟩
    refine vops_gen (fun K0 hK0 => hK0 _ _ ?_)
    have hs7 := hs6.new (H' := H6 ++ [rw' (coords g x)]) (by simp) bget_app_at (fun i hi => bget_app_lt hi)
    refine rdCells_of (hs7.get 3 rfl) ?_
    refine ⟨_, rfl, _, rfl, _, rfl, ?_⟩
    (first | refine c28 (hI y hyn) (hs7.get 4 rfl) (Nat.le_refl _) ?_ | refine (c28 (hI y hyn) (hs7.get 4 rfl) (Nat.le_refl _) ?_).call)
    rw [pl y hyn, show orH (H6 ++ [rw' (coords g (x : Int))]) (.inr (coords g (y : Int))) = H6 ++ [rw' (coords g x)] ++ [rw' (coords g y)] from rfl]
    refine ⟨_, rfl, _, rfl, ?_⟩
    refine vops_gen (fun K0 hK0 => hK0 _ _ ?_)
    have hs8 := hs7.new (H' := H6 ++ [rw' (coords g x)] ++ [rw' (coords g y)]) (by simp) bget_app_at (fun i hi => bget_app_lt hi)
    clear hs7 hs6
    generalize (H6 ++ [rw' (coords g x)]).length = kq at hs8 ⊢
    generalize H6 ++ [rw' (coords g x)] ++ [rw' (coords g y)] = H8 at hs8 ⊢
    generalize H6.length = kp at hs8 ⊢
    have lx : (coords g x).length = g.length := hcx.1
    have ly : (coords g y).length = g.length := hcy.1
    have hbd2 := rs_bd hgi hcx hcy
    generalize coords g x = p at *
    generalize coords g y = p' at *
    refine vops_gen (fun K0 hK0 => ?_)
    repeat refine And.intro (fun _ => ?_) (fun h => absurd h (by first | decide | (simp; done) | (simp; omega)))
    refine And.intro (by decide) ?_
    refine isCells_of (hs8.get 4 rfl) ?_
    repeat refine And.intro (fun _ => ?_) (fun h => absurd h (by first | decide | (simp; done) | (simp; omega)))
    refine rdCells_of (hs8.get 4 rfl) ?_
    refine ⟨_, rfl, ?_⟩
    repeat refine And.intro (fun _ => ?_) (fun h => absurd h (by first | decide | (simp; done) | (simp; omega)))
    refine hK0 _ _ ?_
    clear hK0 K0
    refine And.intro (fun h => by simp at h; omega) (fun _ => ?_)
    refine vcg_loopR (α := Nat) tok (fun i => i ≤ g.length)
      (fun i => [(3, pV 1), (11, .int .i64 d), (23, sv kp p.length), (24, sv kq p'.length), (25, .int .i64 (rsF g p p' i)), (26, .int .i64 (i : Int))]) (fun _ => H8) (fun i => g.length - i)
      0 (Nat.zero_le _) (Or.inl ⟨⟨rfl, rfl, rfl, rfl, rfl, rfl, trivial⟩, rfl⟩) ?_
    intro i hi
    refine And.intro (fun hc => ?_) (fun hc => ?_)
    · have hlt : i < g.length := by simp at hc; omega
      have a1 := hcx.2 i hlt
      have a2 := hcy.2 i hlt
      have a3 := hgi i hlt
      have b1 := hbd2 i hi
      have b2 := hbd2 (i + 1) hlt
      refine vcg_draw tok mx [0, 0, 0, 6, 14, 0, 0, 96, 224, 0, 512, 0, 3584, 7680, 16382, 32767, 65535] [false, false, false, false, false, true, true, true, true, true, true, true, true, true, false, false, false] [0, 1, 2, 3, 4, 5, 6, 7, 8, 9, 10, 11, 12, 13, 14, 15, 16] (by kernel_rfl) ?_
      refine vopsO_gen (fun K0 hK0 => ?_)
      refine isCells_of (hs8.get 1 rfl) ⟨i, rfl, by omega, ?_⟩
      refine rdCells_of (hs8.get 1 rfl) (Ld_ints i p[i]! (by simp) (by simp [lx, hlt]) ?_)
      refine isCells_of (hs8.get 0 rfl) ⟨i, rfl, by omega, ?_⟩
      refine rdCells_of (hs8.get 0 rfl) (Ld_ints i p'[i]! (by simp) (by simp [ly, hlt]) ?_)
      refine And.intro (by decide) ?_
      refine isCells_of (hs8.get 4 rfl) ?_
      refine rdCells_of (hs8.get 4 rfl) ?_
      refine ⟨_, rfl, ?_⟩
      refine isCells_of (hs8.get 5 rfl) ⟨i, rfl, hlt, ?_⟩
      refine rdCells_of (hs8.get 5 rfl) (Ld_ints i g[i]! (by simp) (by simp [hlt]) ?_)
      refine n46 ⟨by omega, by omega⟩ ⟨by omega, by omega⟩ ⟨by omega, by omega⟩ ?_
      refine Or.inl ⟨rsF g p p' (i + 1), rfl, by unfold I64; omega, ?_⟩
      refine hK0 _ _ ?_
      clear hK0 K0
      refine Or.inl ⟨((i + 1 : Nat) : Int), by simp, by unfold I64; omega, ?_⟩
      exact ⟨i + 1, hlt, by omega, Or.inl ⟨⟨rfl, rfl, rfl, rfl, rfl, rfl, trivial⟩, rfl⟩⟩
    · have : i = g.length := by simp at hc; omega
      subst this
      rw [hsum]
      refine vops_gen (fun K0 hK0 => ?_)
      repeat refine And.intro (fun _ => ?_) (fun h => absurd h (by first | decide | (simp; done) | (simp; omega)))
      (first | refine c12 ?_ | refine (c12 ?_).call)
      repeat refine And.intro (fun _ => ?_) (fun h => absurd h (by first | decide | (simp; done) | (simp; omega)))
      refine hK0 _ _ ?_
      exact rfl
end Go.Af.Try
