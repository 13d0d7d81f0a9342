/-
  Whether a network is small, and the snake as the program makes it.
  The snake, as the program makes it.
  The snake, place by place: how the reference goes on from one place to the next. No program is in sight.
  The neighbours that the program hands out are the switches that the reference calls linked, each once; as many links are across a side by the one as by the other. No program is in sight.
  The snake, as the reference makes it.
  The law NetSides, as a call.
-/
import Derived.Test.YtjncbbdiejkalaaGreatMJ
import Derived.Test.YtjncbbdiejkalaaGreatMX
import Derived.Test.YtjncbbdiejkalaaGreatMI
import Derived.Test.YtjncbbdiejkalaaGreatMU
import Derived.Test.YtjncbbdiejkalaaGreatMC
set_option linter.all false
namespace Go.Af.Tryz
open Go Go.Proofs
attribute [local irreducible] awp ACall ACallX AYield AInvoke

end Go.Af.Tryz
namespace Go.Af.Tryz
open Go Go.Proofs
attribute [local irreducible] awp ACall ACallX AYield AInvoke newSlice isCells rdCells wrCells aAppend

end Go.Af.Tryz
namespace Go.Af.Tryz
open Go

/-! ### The place and the directions -/
section
variable {g : List Int} {x : Nat}
end
end Go.Af.Tryz
namespace Go.Af.Tryz
open Go

def nrB (m a b : Int) : Bool := decide (max (a - b) (b - a) = 1) || decide (max (a - b) (b - a) = m - 1)
theorem step_near {m a b : Int} (hm : 2 ≤ m) (a0 : 0 ≤ a) (a1 : a < m) (b0 : 0 ≤ b) (b1 : b < m) (hab : a ≠ b) :
    (if stepF m 1 a = b then 1 else 0) + (if m = 2 then 0 else if stepF m (-1) a = b then 1 else 0) = (if nrB m a b then 1 else 0 : Nat) := by
  rw [step_up hm a0 a1, step_dn hm a0 a1]
  have e : nrB m a b = decide (max (a - b) (b - a) = 1 ∨ max (a - b) (b - a) = m - 1) := by unfold nrB; rw [Bool.decide_or]
  rw [e]
  simp only [decide_eq_true_eq]
  repeat' split
  all_goals omega
section
variable {g c d : List Int}
theorem lnS_eq : ∀ {K : Nat}, (∀ j, j < K → c[j]! = d[j]!) → lnS g c d K = (0, true)
  | 0, _ => rfl
  | K + 1, h => by rw [lnS, if_pos (h K (by omega)), lnS_eq (fun j hj => h j (by omega))]
theorem lnS_one {i : Nat} (hi : c[i]! ≠ d[i]!) : ∀ {K : Nat}, i < K → (∀ j, j < K → j ≠ i → c[j]! = d[j]!) → lnS g c d K = (1, nrB g[i]! c[i]! d[i]!)
  | 0, h, _ => by omega
  | K + 1, h, ho => by
    by_cases e : K = i
    · subst e
      rw [lnS, if_neg hi, lnS_eq (fun j hj => ho j (by omega) (by omega))]; rfl
    · rw [lnS, if_pos (ho K (by omega) e), lnS_one hi (by omega) (fun j hj hji => ho j (by omega) hji)]
theorem lnS_mono : ∀ {K K' : Nat}, K ≤ K' → (lnS g c d K).1 ≤ (lnS g c d K').1
  | K, 0, h => by have : K = 0 := by omega
                  subst this; exact Int.le_refl _
  | K, K' + 1, h => by
    by_cases e : K = K' + 1
    · subst e; exact Int.le_refl _
    · have := lnS_mono (K := K) (K' := K') (by omega)
      rw [lnS]
      split
      · exact this
      · simp only; omega
theorem lnS_ge (g : List Int) {i : Nat} (hi : c[i]! ≠ d[i]!) : (lnS g c d (i + 1)).1 = (lnS g c d i).1 + 1 := by rw [lnS, if_neg hi]
theorem lnS_two {i j K : Nat} (hi : c[i]! ≠ d[i]!) (hj : c[j]! ≠ d[j]!) (hij : i < j) (hK : j < K) : 2 ≤ (lnS g c d K).1 := by
  have h1 := lnS_ge (c := c) (d := d) g hi
  have h2 := lnS_ge (c := c) (d := d) g hj
  have h3 := lnS_mono (g := g) (c := c) (d := d) (K := i + 1) (K' := j) (by omega)
  have h4 := lnS_mono (g := g) (c := c) (d := d) (K := j + 1) (K' := K) (by omega)
  have h5 := lnS_bd g c d i
  omega
theorem set_eq_iff (hc : InR g c) (hd : InR g d) {i : Nat} (hi : i < g.length) (v : Int) : c.set i v = d ↔ v = d[i]! ∧ ∀ j, j < g.length → j ≠ i → c[j]! = d[j]! := by
  constructor
  · rintro rfl
    exact ⟨(set_get_self (by rw [hc.1]; exact hi)).symm, fun j hj hji => (set_get_ne hji).symm⟩
  · rintro ⟨hv, ho⟩
    refine List.ext_getElem (by rw [List.length_set, hc.1, hd.1]) (fun k h1 h2 => ?_)
    have hk : k < g.length := by rw [← hd.1]; exact h2
    rw [List.length_set] at h1
    by_cases e : k = i
    · subst e
      rw [List.getElem_set_self, hv, getElem!_pos d k h2]
    · rw [List.getElem_set_ne (by omega)]
      have := ho k hk e
      rwa [getElem!_pos c k h1, getElem!_pos d k h2] at this
theorem nbK_count (hc : InR g c) (hd : InR g d) {i : Nat} (hi : i < g.length) (hm : 2 ≤ g[i]!) :
    ((¬ ∀ j, j < g.length → j ≠ i → c[j]! = d[j]!) → (nbK g c i 2).count (numF g d) = 0) ∧
    ((∀ j, j < g.length → j ≠ i → c[j]! = d[j]!) → (nbK g c i 2).count (numF g d) = if c[i]! = d[i]! then 0 else if nrB g[i]! c[i]! d[i]! then 1 else 0) := by
  have hcs : ∀ s : Int, s = 1 ∨ s = -1 → InR g (c.set i (stepF g[i]! s c[i]!)) := fun s hs => by
    have h := step_in hm hs (hc.2 i hi).1
    exact hc.set hi h.1 h.2
  have inj : ∀ {a b : List Int}, InR g a → InR g b → (numF g a = numF g b ↔ a = b) := fun {a b} ha hb => ⟨fun h => by rw [← coords_num ha, ← coords_num hb, h], fun h => by rw [h]⟩
  have e : nbK g c i 2 = numF g (c.set i (stepF g[i]! 1 c[i]!)) :: (if g[i]! = 2 then [] else [numF g (c.set i (stepF g[i]! (-1) c[i]!))]) := rfl
  have e2 : (nbK g c i 2).count (numF g d) = (if stepF g[i]! 1 c[i]! = d[i]! ∧ ∀ j, j < g.length → j ≠ i → c[j]! = d[j]! then 1 else 0) + (if g[i]! = 2 then 0 else if stepF g[i]! (-1) c[i]! = d[i]! ∧ ∀ j, j < g.length → j ≠ i → c[j]! = d[j]! then 1 else 0) := by
    rw [e]
    by_cases h2 : g[i]! = 2
    · simp only [if_pos h2, List.count_cons, List.count_nil, beq_iff_eq, inj (hcs 1 (.inl rfl)) hd, set_eq_iff hc hd hi]
      omega
    · simp only [if_neg h2, List.count_cons, List.count_nil, beq_iff_eq, inj (hcs 1 (.inl rfl)) hd, inj (hcs (-1) (.inr rfl)) hd, set_eq_iff hc hd hi]
      omega
  rw [e2]
  constructor
  · intro hno
    simp only [hno, and_false, if_false, ite_self]
  · intro ho
    have ho' : (∀ j, j < g.length → j ≠ i → c[j]! = d[j]!) = True := eq_true ho
    simp only [ho', and_true]
    have hb := hc.2 i hi
    have hb2 := hd.2 i hi
    by_cases hcd : c[i]! = d[i]!
    · rw [if_pos hcd, step_up hm hb.1 hb.2, step_dn hm hb.1 hb.2]
      repeat' split
      all_goals omega
    · rw [if_neg hcd]
      exact step_near hm hb.1 hb.2 hb2.1 hb2.2 hcd
theorem preG_zero (hc : InR g c) (hd : InR g d) (hg : ∀ m ∈ g, 2 ≤ m) : ∀ K : Nat, K ≤ g.length → (∀ i, i < K → ¬ ((∀ j, j < g.length → j ≠ i → c[j]! = d[j]!) ∧ c[i]! ≠ d[i]! ∧ nrB g[i]! c[i]! d[i]! = true)) → (preG g c K).count (numF g d) = 0
  | 0, _, _ => rfl
  | K + 1, hK, h => by
    have hm : 2 ≤ g[K]! := by rw [getElem!_pos g K (by omega)]; exact hg _ (List.getElem_mem _)
    rw [preG, List.count_append, preG_zero hc hd hg K (by omega) (fun i hi => h i (by omega)), Nat.zero_add]
    have hn := nbK_count hc hd (show K < g.length by omega) hm
    by_cases ho : ∀ j, j < g.length → j ≠ K → c[j]! = d[j]!
    · rw [hn.2 ho]
      by_cases h1 : c[K]! = d[K]!
      · rw [if_pos h1]
      · rw [if_neg h1]
        by_cases h2 : nrB g[K]! c[K]! d[K]! = true
        · exact absurd ⟨ho, h1, h2⟩ (h K (by omega))
        · rw [if_neg h2]
    · exact hn.1 ho
theorem preG_one (hc : InR g c) (hd : InR g d) (hg : ∀ m ∈ g, 2 ≤ m) {i : Nat} (hi : (∀ j, j < g.length → j ≠ i → c[j]! = d[j]!) ∧ c[i]! ≠ d[i]! ∧ nrB g[i]! c[i]! d[i]! = true) : ∀ K : Nat, K ≤ g.length → i < K → (preG g c K).count (numF g d) = 1
  | 0, _, h => by omega
  | K + 1, hK, h => by
    have hm : 2 ≤ g[K]! := by rw [getElem!_pos g K (by omega)]; exact hg _ (List.getElem_mem _)
    have hn := nbK_count hc hd (show K < g.length by omega) hm
    rw [preG, List.count_append]
    by_cases e : i = K
    · subst e
      rw [hn.2 hi.1, if_neg hi.2.1, if_pos hi.2.2, preG_zero hc hd hg i (by omega) (fun j hj hx => hi.2.1 (hx.1 i (by omega) (by omega)))]
    · rw [preG_one hc hd hg hi K (by omega) (by omega), hn.1 (fun hx => hi.2.1 (hx i (by omega) e))]
end
theorem near_grid {g : List Int} {n : Nat} (hok : (Sh.grid g).ok) (hn : prodF g = n) {x y : Nat} (hx : x < n) (hy : y < n) : (nearG g x).count (y : Int) = if (Sh.grid g).lnk x y then 1 else 0 := by
  have hg : ∀ m ∈ g, 2 ≤ m := fun m h => (hok.2.2.1 m h).1
  have hc := coords_in (x := (x : Int)) (by omega) g hg
  have hd := coords_in (x := (y : Int)) (by omega) g hg
  have hnx := num_coords (x := (x : Int)) ⟨by omega, by omega⟩ hg
  have hny := num_coords (x := (y : Int)) ⟨by omega, by omega⟩ hg
  have e : (nearG g x).count (y : Int) = (preG g (coords g x) g.length).count (numF g (coords g y)) := by rw [hny]; rfl
  rw [e]
  simp only [Sh.lnk]
  by_cases hxy : (x : Int) = y
  · rw [if_pos hxy]
    exact preG_zero hc hd hg _ (Nat.le_refl _) (fun i hi h => h.2.1 (by rw [hxy]))
  rw [if_neg hxy]
  have hne : coords g x ≠ coords g y := fun h => hxy (by rw [← hnx, ← hny, h])
  obtain ⟨i, hi, hdi⟩ : ∃ i, i < g.length ∧ (coords g x)[i]! ≠ (coords g y)[i]! := by
    apply Classical.byContradiction
    intro hno
    refine hne (List.ext_getElem (by rw [hc.1, hd.1]) (fun k h1 h2 => ?_))
    have : (coords g x)[k]! = (coords g y)[k]! := Classical.byContradiction fun hk => hno ⟨k, by rw [← hc.1]; exact h1, hk⟩
    rwa [getElem!_pos _ k h1, getElem!_pos _ k h2] at this
  by_cases ho : ∀ j, j < g.length → j ≠ i → (coords g x)[j]! = (coords g y)[j]!
  · have hl := lnS_one (g := g) hdi hi ho
    unfold lnG
    rw [hl]
    by_cases hnr : nrB g[i]! (coords g x)[i]! (coords g y)[i]! = true
    · rw [preG_one hc hd hg ⟨ho, hdi, hnr⟩ _ (Nat.le_refl _) hi, hnr]; rfl
    · rw [preG_zero hc hd hg _ (Nat.le_refl _) (fun j hj hx => by
        by_cases hji : j = i
        · subst hji; exact hnr hx.2.2
        · exact hx.2.1 (ho j hj hji))]
      have hnr : nrB g[i]! (coords g x)[i]! (coords g y)[i]! = false := by simpa using hnr
      rw [hnr]; rfl
  · obtain ⟨j, hj, hji, hdj⟩ : ∃ j, j < g.length ∧ j ≠ i ∧ (coords g x)[j]! ≠ (coords g y)[j]! := by
      apply Classical.byContradiction
      intro hno
      exact ho fun j hj hji => Classical.byContradiction fun hk => hno ⟨j, hj, hji, hk⟩
    have h2 : 2 ≤ (lnS g (coords g x) (coords g y) g.length).1 := by
      rcases Nat.lt_or_gt_of_ne hji with h | h
      · exact lnS_two hdj hdi h hi
      · exact lnS_two hdi hdj h hj
    unfold lnG
    rw [decide_eq_false (show ¬ (lnS g (coords g x) (coords g y) g.length).1 = 1 by omega)]
    refine preG_zero hc hd hg _ (Nat.le_refl _) (fun k hk hx => ?_)
    by_cases h1 : i = k
    · subst h1; exact hdj (hx.1 j hj hji)
    · exact hdi (hx.1 i hi h1)

/-! ### Fat trees -/
theorem div_uniq {p a r a' r' : Nat} (h : a * p + r = a' * p + r') (hr : r < p) (hr' : r' < p) : a = a' ∧ r = r' := by
  have hp : 0 < p := by omega
  have e1 : (a * p + r) / p = a := by rw [Nat.add_comm, Nat.mul_comm, Nat.add_mul_div_left _ _ hp, Nat.div_eq_of_lt hr, Nat.zero_add]
  have e2 : (a' * p + r') / p = a' := by rw [Nat.add_comm, Nat.mul_comm, Nat.add_mul_div_left _ _ hp, Nat.div_eq_of_lt hr', Nat.zero_add]
  have e : a = a' := by rw [← e1, h, e2]
  subst e
  exact ⟨rfl, by omega⟩
theorem count_one {f : Nat → Int} {y : Int} {e : Nat} {c : Prop} [Decidable c] : ∀ m : Nat, (∀ d, d < m → (f d = y ↔ d = e ∧ c)) → ((List.range m).map f).count y = if e < m ∧ c then 1 else 0
  | 0, _ => by simp
  | m + 1, h => by
    rw [List.range_succ, List.map_append, List.count_append, count_one m (fun d hd => h d (by omega))]
    simp only [List.map_cons, List.map_nil, List.count_cons, List.count_nil, beq_iff_eq, h m (by omega)]
    by_cases hc : c
    · by_cases he : m = e
      · subst he; simp [hc]
      · have : (e < m + 1) ↔ e < m := by omega
        simp [hc, he, this]
    · simp [hc]
theorem dig_nat (K X i : Nat) : digF (K : Int) (X : Int) i = ((X / K ^ i % K : Nat) : Int) := by
  unfold digF
  rw [← Int.natCast_pow, ← Int.ofNat_tdiv, ← Int.ofNat_tmod]
theorem lik_nat {K W i d : Nat} (hd : d < K) : likF (K : Int) (W : Int) i ((d : Int) * (K : Int) ^ i) = (((W / K ^ i / K * K + d) * K ^ i + W % K ^ i : Nat) : Int) := by
  have hp : 0 < K ^ i := Nat.pow_pos (by omega)
  have e0 : (d : Int) * (K : Int) ^ i = ((d * K ^ i : Nat) : Int) := by simp
  unfold likF
  rw [e0, dig_nat, dig_nat, Nat.mul_div_cancel _ hp, Nat.mod_eq_of_lt hd]
  have e1 : W = (W / K ^ i / K * K + W / K ^ i % K) * K ^ i + W % K ^ i := by
    rw [Nat.mul_comm (W / K ^ i / K) K, Nat.div_add_mod, Nat.mul_comm, Nat.div_add_mod]
  rw [← Int.natCast_pow]
  generalize W / K ^ i / K = Q at *
  generalize W / K ^ i % K = D at *
  generalize W % K ^ i = r at *
  generalize K ^ i = p at *
  subst e1
  simp only [Int.natCast_add, Int.natCast_mul, Int.add_mul, Int.sub_mul]
  omega
theorem lik_nat0 {K W i : Nat} (hK : 0 < K) : likF (K : Int) (W : Int) i 0 = ((W / K ^ i / K * K * K ^ i + W % K ^ i : Nat) : Int) := by
  have h := lik_nat (K := K) (W := W) (i := i) (d := 0) hK
  simpa using h
theorem lik_iff {K W W' i d : Nat} (hd : d < K) : likF (K : Int) (W : Int) i ((d : Int) * (K : Int) ^ i) = (W' : Int) ↔ d = W' / K ^ i % K ∧ likF (K : Int) (W : Int) i 0 = likF (K : Int) (W' : Int) i 0 := by
  have hK : 0 < K := by omega
  have hp : 0 < K ^ i := Nat.pow_pos hK
  rw [lik_nat hd, lik_nat0 hK, lik_nat0 hK]
  have e1 : W' = (W' / K ^ i / K * K + W' / K ^ i % K) * K ^ i + W' % K ^ i := by
    rw [Nat.mul_comm (W' / K ^ i / K) K, Nat.div_add_mod, Nat.mul_comm, Nat.div_add_mod]
  have hr := Nat.mod_lt W hp
  have hr' := Nat.mod_lt W' hp
  have hD := Nat.mod_lt (W' / K ^ i) hK
  constructor
  · intro h
    have h : (W / K ^ i / K * K + d) * K ^ i + W % K ^ i = W' := by exact_mod_cast h
    have h2 := div_uniq (h.trans e1) hr hr'
    have h3 := div_uniq h2.1 hd hD
    exact ⟨h3.2, by rw [h3.1, h2.2]⟩
  · rintro ⟨h1, h2⟩
    have h2 : W / K ^ i / K * K * K ^ i + W % K ^ i = W' / K ^ i / K * K * K ^ i + W' % K ^ i := by exact_mod_cast h2
    have h3 := div_uniq h2 hr hr'
    have h4 : W / K ^ i / K = W' / K ^ i / K := Nat.eq_of_mul_eq_mul_right hK h3.1
    rw [h4, h1, h3.2, ← e1]
theorem ndF_count {K N W W' i lv lv' : Nat} (hi : i < N) (hW : W < K ^ N) (hW' : W' < K ^ N) (hK : 2 ≤ K) :
    (ndF (K : Int) N (W : Int) i lv K).count ((lv' * K ^ N + W' : Nat) : Int) = if lv = lv' ∧ likF (K : Int) (W : Int) i 0 = likF (K : Int) (W' : Int) i 0 then 1 else 0 := by
  unfold ndF
  rw [count_one (e := W' / K ^ i % K) (c := lv = lv' ∧ likF (K : Int) (W : Int) i 0 = likF (K : Int) (W' : Int) i 0) K]
  · have : W' / K ^ i % K < K := Nat.mod_lt _ (by omega)
    simp only [this, true_and]
  · intro d hd
    have hl := (lik_in (k := (K : Int)) (w := (W : Int)) (o := (d : Int) * (K : Int) ^ i) (by omega) hi (by omega) (by exact_mod_cast hW) (Int.mul_nonneg (by omega) (Int.pow_nonneg (by omega)))).1
    have hiff := lik_iff (K := K) (W := W) (W' := W') (i := i) hd
    generalize likF (K : Int) (W : Int) i ((d : Int) * (K : Int) ^ i) = q at *
    obtain ⟨q', rfl⟩ : ∃ q' : Nat, q = q' := ⟨q.toNat, by omega⟩
    have hq : q' < K ^ N := by exact_mod_cast hl.2
    constructor
    · intro h
      have h : lv * K ^ N + q' = lv' * K ^ N + W' := by exact_mod_cast h
      have h2 := div_uniq h hq hW'
      have h3 := hiff.1 (by rw [h2.2])
      exact ⟨h3.1, h2.1, h3.2⟩
    · rintro ⟨h1, h2, h3⟩
      have h4 := hiff.2 ⟨h1, h3⟩
      have h4 : q' = W' := by exact_mod_cast h4
      rw [h2, h4]; simp
theorem near_fat {k m : Int} {n : Nat} (hok : (Sh.fat k m).ok) (hn : (Sh.fat k m).sw = n) {x y : Nat} (hx : x < n) (hy : y < n) : (nearFa k m x).count (y : Int) = if (Sh.fat k m).lnk x y then 1 else 0 := by
  obtain ⟨hk, hm, _⟩ := hok
  obtain ⟨K, rfl⟩ : ∃ K : Nat, k = K := ⟨k.toNat, by omega⟩
  obtain ⟨N, hN⟩ : ∃ N, (m - 1).toNat = N := ⟨_, rfl⟩
  have hmN : m = ((N + 1 : Nat) : Int) := by omega
  simp only [Sh.sw, hN] at hn
  have hP : 0 < K ^ N := Nat.pow_pos (by omega)
  have hnP : n = (N + 1) * K ^ N := by rw [hmN] at hn; exact_mod_cast hn.symm
  have ex := Nat.div_add_mod x (K ^ N)
  have ey := Nat.div_add_mod y (K ^ N)
  have hwx := Nat.mod_lt x hP
  have hwy := Nat.mod_lt y hP
  have hlx : x / K ^ N < N + 1 := Nat.div_lt_of_lt_mul (by rw [Nat.mul_comm, ← hnP]; exact hx)
  have hly : y / K ^ N < N + 1 := Nat.div_lt_of_lt_mul (by rw [Nat.mul_comm, ← hnP]; exact hy)
  have td : ∀ z : Nat, (z : Int).tdiv ((K : Int) ^ N) = ((z / K ^ N : Nat) : Int) := fun z => by rw [← Int.natCast_pow, ← Int.ofNat_tdiv]
  have tm : ∀ z : Nat, (z : Int).tmod ((K : Int) ^ N) = ((z % K ^ N : Nat) : Int) := fun z => by rw [← Int.natCast_pow, ← Int.ofNat_tmod]
  have hnear : nearFa (K : Int) m x = upN (K : Int) m N ((x % K ^ N : Nat) : Int) (x / K ^ N) 2 := by
    unfold nearFa; rw [hN, td, tm, Int.toNat_natCast]
  have e : upN (K : Int) m N ((x % K ^ N : Nat) : Int) (x / K ^ N) 2 = nuF (K : Int) m N ((x % K ^ N : Nat) : Int) (x / K ^ N) 0 ++ nuF (K : Int) m N ((x % K ^ N : Nat) : Int) (x / K ^ N) 1 := by simp [upN]
  have hy' : (y : Int) = (((y / K ^ N) * K ^ N + y % K ^ N : Nat) : Int) := by rw [Nat.mul_comm, ey]
  rw [hnear, e, List.count_append]
  have lnkE : (Sh.fat (K : Int) m).lnk x y = if x = y then false else lnFa K N x y := by
    simp only [Sh.lnk, hN]
    by_cases h : x = y
    · rw [if_pos h, if_pos (by omega)]
    · rw [if_neg h, if_neg (by omega)]
  -- the levels
  have low : ∀ {a b : Nat}, a / K ^ N < b / K ^ N → a < b := fun {a b} h => by
    rcases Nat.lt_or_ge a b with h1 | h1
    · exact h1
    · have := Nat.div_le_div_right (c := K ^ N) h1; omega
  have c0 : (nuF (K : Int) m N ((x % K ^ N : Nat) : Int) (x / K ^ N) 0).count (y : Int) = if x / K ^ N = y / K ^ N + 1 ∧ likF (K : Int) ((x % K ^ N : Nat) : Int) (y / K ^ N) 0 = likF (K : Int) ((y % K ^ N : Nat) : Int) (y / K ^ N) 0 then 1 else 0 := by
    cases hl : x / K ^ N with
    | zero => simp [nuF]
    | succ dn =>
      simp only [nuF, Int.toNat_natCast]
      conv => lhs; rw [hy']
      rw [ndF_count (by omega) hwx hwy (by omega)]
      by_cases h1 : dn = y / K ^ N
      · subst h1; simp
      · have : ¬ dn + 1 = y / K ^ N + 1 := by omega
        simp [h1]
  have c1 : (nuF (K : Int) m N ((x % K ^ N : Nat) : Int) (x / K ^ N) 1).count (y : Int) = if x / K ^ N + 1 = y / K ^ N ∧ likF (K : Int) ((x % K ^ N : Nat) : Int) (x / K ^ N) 0 = likF (K : Int) ((y % K ^ N : Nat) : Int) (x / K ^ N) 0 then 1 else 0 := by
    simp only [nuF, Int.toNat_natCast]
    by_cases hlm : ((x / K ^ N : Nat) : Int) + 1 < m
    · rw [if_pos hlm]
      conv => lhs; rw [hy']
      rw [ndF_count (by omega) hwx hwy (by omega)]
    · rw [if_neg hlm, if_neg (by omega)]; rfl
  rw [c0, c1, lnkE]
  unfold lnFa
  by_cases hxy : x = y
  · subst hxy
    rw [if_neg (by omega), if_neg (by omega), if_pos rfl]; rfl
  rw [if_neg hxy]
  rcases Nat.lt_trichotomy (x / K ^ N) (y / K ^ N) with h | h | h
  · have hlt := low h
    have emax : max (x : Int) (y : Int) = y := by omega
    have emin : min (x : Int) (y : Int) = x := by omega
    rw [emax, emin, td, td, tm, tm, Int.toNat_natCast, if_neg (by omega), Nat.zero_add]
    by_cases h1 : x / K ^ N + 1 = y / K ^ N
    · have h1' : ((y / K ^ N : Nat) : Int) = ((x / K ^ N : Nat) : Int) + 1 := by omega
      rw [decide_eq_true h1', Bool.true_and]
      simp only [h1, true_and, decide_eq_true_eq]
    · have h1' : ¬ ((y / K ^ N : Nat) : Int) = ((x / K ^ N : Nat) : Int) + 1 := by omega
      rw [decide_eq_false h1', if_neg (fun hx => h1 hx.1)]; rfl
  · rw [if_neg (by omega), if_neg (by omega)]
    have : ¬ (max (x : Int) (y : Int)).tdiv ((K : Int) ^ N) = (min (x : Int) (y : Int)).tdiv ((K : Int) ^ N) + 1 := by
      rcases Nat.lt_or_ge x y with h1 | h1
      · rw [show max (x : Int) (y : Int) = y by omega, show min (x : Int) (y : Int) = x by omega, td, td]; omega
      · rw [show max (x : Int) (y : Int) = x by omega, show min (x : Int) (y : Int) = y by omega, td, td]; omega
    rw [decide_eq_false this]; rfl
  · have hlt := low h
    have emax : max (x : Int) (y : Int) = x := by omega
    have emin : min (x : Int) (y : Int) = y := by omega
    rw [emax, emin, td, td, tm, tm, Int.toNat_natCast, if_neg (show ¬ (x / K ^ N + 1 = y / K ^ N ∧ _) by omega), Nat.add_zero]
    by_cases h1 : x / K ^ N = y / K ^ N + 1
    · have h1' : ((x / K ^ N : Nat) : Int) = ((y / K ^ N : Nat) : Int) + 1 := by omega
      rw [decide_eq_true h1', Bool.true_and]
      simp only [h1, true_and, decide_eq_true_eq]
      by_cases h2 : likF (K : Int) ((x % K ^ N : Nat) : Int) (y / K ^ N) 0 = likF (K : Int) ((y % K ^ N : Nat) : Int) (y / K ^ N) 0
      · rw [if_pos h2, if_pos h2.symm]
      · rw [if_neg h2, if_neg (fun h3 => h2 h3.symm)]
    · have h1' : ¬ ((x / K ^ N : Nat) : Int) = ((y / K ^ N : Nat) : Int) + 1 := by omega
      rw [decide_eq_false h1', if_neg (fun hx => h1 hx.1)]; rfl

/-! ### Dragonflies -/
theorem div_uniqI {p a r a' r' : Int} (h : a * p + r = a' * p + r') (r0 : 0 ≤ r) (hr : r < p) (r0' : 0 ≤ r') (hr' : r' < p) : a = a' ∧ r = r' := by
  have key : ∀ {a a' r r' : Int}, a * p + r = a' * p + r' → 0 ≤ r → r < p → 0 ≤ r' → r' < p → ¬ a < a' := fun {a a' r r'} h r0 hr r0' hr' hlt => by
    have := Int.mul_le_mul_of_nonneg_right (show a + 1 ≤ a' by omega) (show 0 ≤ p by omega)
    rw [Int.add_mul, Int.one_mul] at this
    omega
  have e : a = a' := by
    have h1 := key h r0 hr r0' hr'
    have h2 := key h.symm r0' hr' r0 hr
    omega
  subst e
  exact ⟨rfl, by omega⟩
theorem gap_back {M g j : Int} (h0 : 0 ≤ g) (h1 : g < M) (j0 : 0 ≤ j) (j1 : j < M) (hne : g ≠ j) : (g + (j - g - 1 + M).tmod M + 1).tmod M = j := by
  by_cases h : g < j
  · rw [Int.tmod_eq_emod_of_nonneg (show 0 ≤ j - g - 1 + M by omega), Int.add_emod_right, Int.emod_eq_of_lt (by omega) (by omega), Int.tmod_eq_emod_of_nonneg (by omega), Int.emod_eq_of_lt (by omega) (by omega)]; omega
  · rw [Int.tmod_eq_emod_of_nonneg (show 0 ≤ j - g - 1 + M by omega), Int.emod_eq_of_lt (by omega) (by omega), show g + (j - g - 1 + M) + 1 = j + M by omega, Int.tmod_eq_emod_of_nonneg (by omega), Int.add_emod_right, Int.emod_eq_of_lt (by omega) (by omega)]
theorem faF_count {a g p g' p' : Int} (ha : 1 ≤ a) (p0 : 0 ≤ p') (p1 : p' < a) : ∀ m : Nat, (m : Int) ≤ a → (faF a g p m).count (g' * a + p') = if g = g' ∧ p' < m ∧ p' ≠ p then 1 else 0
  | 0, _ => by rw [if_neg (by omega)]; rfl
  | m + 1, hm => by
    rw [faF, List.count_append, faF_count ha p0 p1 m (by omega)]
    have hq : (g * a + (m : Int) = g' * a + p') ↔ g = g' ∧ (m : Int) = p' := ⟨fun h => div_uniqI h (by omega) (by omega) p0 p1, fun h => by rw [h.1, h.2]⟩
    by_cases hmp : (m : Int) = p
    · rw [if_pos hmp, List.count_nil, Nat.add_zero]
      by_cases h : g = g' ∧ p' < m ∧ p' ≠ p
      · rw [if_pos h, if_pos (by omega)]
      · rw [if_neg h, if_neg (by omega)]
    · rw [if_neg hmp]
      simp only [List.count_cons, List.count_nil, beq_iff_eq, hq]
      by_cases h : g = g' ∧ p' < m ∧ p' ≠ p
      · rw [if_pos h, if_neg (by omega), if_pos (by omega)]
      · rw [if_neg h]
        by_cases h2 : g = g' ∧ (m : Int) = p'
        · rw [if_pos h2, if_pos (by omega)]
        · rw [if_neg h2, if_neg (by omega)]
theorem fbF_count {a h g p g' p' : Int} (ha : 1 ≤ a) (hh : 1 ≤ h) (g0 : 0 ≤ g) (g1 : g < a * h + 1) (q0 : 0 ≤ g') (q1 : g' < a * h + 1) (a0 : 0 ≤ p) (a1 : p < a) (p0 : 0 ≤ p') (p1 : p' < a) : ∀ j : Nat, (j : Int) ≤ h →
    (fbF a h g p j).count (g' * a + p') = if g ≠ g' ∧ p * h ≤ gapF a h g g' ∧ gapF a h g g' < p * h + j ∧ (a * h + 1 - 2 - gapF a h g g').tdiv h = p' then 1 else 0
  | 0, _ => by rw [if_neg (by omega)]; rfl
  | j + 1, hj => by
    rw [fbF, List.count_append, fbF_count ha hh g0 g1 q0 q1 a0 a1 p0 p1 j (by omega)]
    have e1 : (p + 1) * h ≤ a * h := Int.mul_le_mul_of_nonneg_right (by omega) (by omega)
    have e2 : (p + 1) * h = p * h + h := by rw [Int.add_mul, Int.one_mul]
    have e3 : 0 ≤ p * h := Int.mul_nonneg a0 (by omega)
    have hm0 : 0 ≤ p * h + (j : Int) := by omega
    have hm1 : p * h + (j : Int) < a * h := by omega
    have hgm := gap_m (a := a) (h := h) g0 g1 hm0 hm1
    have hG0 : 0 ≤ (g + (p * h + (j : Int)) + 1).tmod (a * h + 1) := Int.tmod_nonneg _ (by omega)
    have hne : (g + (p * h + (j : Int)) + 1).tmod (a * h + 1) ≠ g := by
      intro hx
      rw [hx] at hgm
      unfold gapF at hgm
      rw [show g - g - 1 + (a * h + 1) = a * h by omega, Int.tmod_eq_emod_of_nonneg (by omega), Int.emod_eq_of_lt (by omega) (by omega)] at hgm
      omega
    have d0 : 0 ≤ (a * h + 1 - 2 - (p * h + (j : Int))).tdiv h := Int.tdiv_nonneg (by omega) (by omega)
    have d1 : (a * h + 1 - 2 - (p * h + (j : Int))).tdiv h < a := by
      rw [Int.tdiv_eq_ediv_of_nonneg (by omega)]
      exact Int.ediv_lt_of_lt_mul (by omega) (by omega)
    have hq : (flyY a h g (p * h + (j : Int)) = g' * a + p') ↔ g ≠ g' ∧ gapF a h g g' = p * h + (j : Int) ∧ (a * h + 1 - 2 - gapF a h g g').tdiv h = p' := by
      unfold flyY porF
      constructor
      · intro hx
        have hx := div_uniqI hx d0 d1 p0 p1
        rw [hx.1] at hgm hne
        exact ⟨fun e => hne e.symm, hgm, by rw [hgm]; exact hx.2⟩
      · rintro ⟨h1, h2, h3⟩
        have hb := gap_back (M := a * h + 1) g0 g1 q0 q1 h1
        have hb : (g + gapF a h g g' + 1).tmod (a * h + 1) = g' := hb
        rw [h2] at hb h3
        rw [hb, h3]
    simp only [List.count_cons, List.count_nil, beq_iff_eq, hq]
    generalize gapF a h g g' = M at *
    generalize (a * h + 1 - 2 - M).tdiv h = w at *
    generalize p * h = ph at *
    by_cases h1 : g ≠ g' ∧ ph ≤ M ∧ M < ph + j ∧ w = p'
    · rw [if_pos h1, if_neg (by omega), if_pos (by omega)]
    · rw [if_neg h1]
      by_cases h2 : g ≠ g' ∧ M = ph + j ∧ w = p'
      · rw [if_pos h2, if_pos (by omega)]
      · rw [if_neg h2, if_neg (by omega)]
theorem near_fly {a h : Int} {n : Nat} (hok : (Sh.fly a h).ok) (hn : (Sh.fly a h).sw = n) {x y : Nat} (hx : x < n) (hy : y < n) : (nearFl a h x).count (y : Int) = if (Sh.fly a h).lnk x y then 1 else 0 := by
  obtain ⟨ha, hh, _⟩ := hok
  simp only [Sh.sw] at hn
  have hah : 0 ≤ a * h := Int.mul_nonneg (by omega) (by omega)
  have gl : ∀ z : Nat, z < n → 0 ≤ (z : Int).tdiv a ∧ (z : Int).tdiv a < a * h + 1 := fun z hz => ⟨Int.tdiv_nonneg (by omega) (by omega), by
    rw [Int.tdiv_eq_ediv_of_nonneg (by omega)]
    exact Int.ediv_lt_of_lt_mul (by omega) (by rw [Int.mul_comm]; omega)⟩
  have pl : ∀ z : Nat, 0 ≤ (z : Int).tmod a ∧ (z : Int).tmod a < a := fun z => ⟨Int.tmod_nonneg _ (by omega), Int.tmod_lt_of_pos _ (by omega)⟩
  have dz : ∀ z : Nat, (z : Int) = (z : Int).tdiv a * a + (z : Int).tmod a := fun z => by rw [Int.mul_comm]; exact (Int.mul_tdiv_add_tmod _ _).symm
  have gx := gl x hx
  have gy := gl y hy
  have px := pl x
  have py := pl y
  have lnkE : (Sh.fly a h).lnk x y = if x = y then false else lnFl a h x y := by
    simp only [Sh.lnk]
    by_cases h : x = y
    · rw [if_pos h, if_pos (by omega)]
    · rw [if_neg h, if_neg (by omega)]
  have ex := dz x
  have ey := dz y
  rw [lnkE]
  unfold nearFl lnFl
  rw [List.count_append]
  have hxy : (x = y) ↔ (x : Int).tdiv a = (y : Int).tdiv a ∧ (x : Int).tmod a = (y : Int).tmod a := ⟨fun e => by rw [e]; exact ⟨rfl, rfl⟩, fun e => by
    have : (x : Int) = y := by rw [ex, ey, e.1, e.2]
    omega⟩
  have ca := faF_count (a := a) (g := (x : Int).tdiv a) (p := (x : Int).tmod a) (g' := (y : Int).tdiv a) (p' := (y : Int).tmod a) ha.1 py.1 py.2 a.toNat (by omega)
  have cb := fbF_count (a := a) (h := h) (g := (x : Int).tdiv a) (p := (x : Int).tmod a) (g' := (y : Int).tdiv a) (p' := (y : Int).tmod a) ha.1 hh.1 gx.1 gx.2 gy.1 gy.2 px.1 px.2 py.1 py.2 h.toNat (by omega)
  rw [← ey] at ca cb
  rw [ca, cb]
  have hta : ((a.toNat : Nat) : Int) = a := by omega
  have hth : ((h.toNat : Nat) : Int) = h := by omega
  rw [hta, hth]
  have portx : ∀ e : Int, (porF a h ((x : Int).tdiv a) e = (x : Int)) ↔ e.tdiv h = (x : Int).tmod a := fun e => by
    unfold porF
    conv => lhs; rhs; rw [ex]
    constructor <;> (intro hz; omega)
  have porty : ∀ e : Int, (porF a h ((y : Int).tdiv a) e = (y : Int)) ↔ e.tdiv h = (y : Int).tmod a := fun e => by
    unfold porF
    conv => lhs; rhs; rw [ey]
    constructor <;> (intro hz; omega)
  simp only [portx, porty]
  by_cases hg : (x : Int).tdiv a = (y : Int).tdiv a
  · have n1 : ¬ ((x : Int).tdiv a ≠ (y : Int).tdiv a ∧ (x : Int).tmod a * h ≤ gapF a h ((x : Int).tdiv a) ((y : Int).tdiv a) ∧ gapF a h ((x : Int).tdiv a) ((y : Int).tdiv a) < (x : Int).tmod a * h + h ∧ (a * h + 1 - 2 - gapF a h ((x : Int).tdiv a) ((y : Int).tdiv a)).tdiv h = (y : Int).tmod a) := fun hz => hz.1 hg
    rw [if_neg n1, Nat.add_zero, decide_eq_true hg, Bool.true_or]
    by_cases hp : (x : Int).tmod a = (y : Int).tmod a
    · rw [if_neg (fun hz => hz.2.2 hp.symm), if_pos (hxy.2 ⟨hg, hp⟩)]; rfl
    · rw [if_pos ⟨hg, py.2, fun hz => hp hz.symm⟩, if_neg (fun hz => hp (hxy.1 hz).2)]; rfl
  · rw [if_neg (fun hz => hg hz.1), Nat.zero_add, if_neg (fun hz => hg (hxy.1 hz).1), decide_eq_false hg, Bool.false_or]
    have hgap := gap_in gx.1 gx.2 gy.1 gy.2 hg
    generalize gapF a h ((x : Int).tdiv a) ((y : Int).tdiv a) = M at *
    have hdiv : (M.tdiv h = (x : Int).tmod a) ↔ (x : Int).tmod a * h ≤ M ∧ M < (x : Int).tmod a * h + h := by
      have hm0 := Int.tmod_nonneg (a := M) h hgap.1
      have hm1 : M.tmod h < h := Int.tmod_lt_of_pos _ (by omega)
      have em : M.tdiv h * h + M.tmod h = M := by rw [Int.mul_comm]; exact Int.mul_tdiv_add_tmod _ _
      constructor
      · intro hz; rw [hz] at em; omega
      · rintro ⟨z1, z2⟩
        have : M.tdiv h * h + M.tmod h = (x : Int).tmod a * h + (M - (x : Int).tmod a * h) := by rw [em]; omega
        exact (div_uniqI this hm0 hm1 (by omega) (by omega)).1
    by_cases h1 : M.tdiv h = (x : Int).tmod a
    · have h1' := hdiv.1 h1
      rw [decide_eq_true h1, Bool.true_and]
      by_cases h2 : (a * h + 1 - 2 - M).tdiv h = (y : Int).tmod a
      · rw [if_pos ⟨hg, h1'.1, h1'.2, h2⟩, decide_eq_true h2]; rfl
      · rw [if_neg (fun hz => h2 hz.2.2.2), decide_eq_false h2]; rfl
    · rw [if_neg (fun hz => h1 (hdiv.2 ⟨hz.2.1, hz.2.2.1⟩)), decide_eq_false h1, Bool.false_and]; rfl
theorem near_lnk {s : Sh} (hok : s.ok) {n : Nat} (hn : s.sw = n) {x y : Nat} (hx : x < n) (hy : y < n) : (s.near x).count (y : Int) = if s.lnk x y then 1 else 0 := by
  cases s with
  | grid g => exact near_grid hok hn hx hy
  | fat k m => exact near_fat hok hn hx hy
  | fly a h => exact near_fly hok hn hx hy

/-! ### Across -/
theorem lnk_ne {s : Sh} {x y : Int} (h : s.lnk x y = true) : x ≠ y := fun e => by simp [Sh.lnk, e] at h
end Go.Af.Tryz
namespace Go.Af.Tryz
open Go Go.Proofs
attribute [local irreducible] awp ACall ACallX AYield AInvoke newSlice isCells rdCells wrCells aAppend

end Go.Af.Tryz
namespace Go.Af.Tryz
open Go Go.Proofs
attribute [local irreducible] awp ACall ACallX AYield AInvoke newSlice isCells rdCells wrCells aAppend rangeEnd roundBegin roundEnd

end Go.Af.Tryz
