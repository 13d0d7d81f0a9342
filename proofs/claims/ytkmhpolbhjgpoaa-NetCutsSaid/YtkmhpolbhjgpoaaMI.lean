/-
  How many sides there are. No program is in sight.
  Across a side there are as many channels as across its complement, if neighbours are symmetric. No program is in sight.
  Neighbours are symmetric if a table says so. No program is in sight.
  Neighbours in a grid are symmetric. No program is in sight.
  Neighbours are symmetric in fat trees and dragonflies with at most 64 switches: checked one by one. No program is in sight.
  How many links are across the standard sides. No program is in sight.
  The law NetCuts, as a call.
-/
import Derived.Test.YtkmhpolbhjgpoaaMH
import Derived.Test.YtkmhpolbhjgpoaaMZ
import Derived.Test.YtkmhpolbhjgpoaaMP
set_option linter.all false
namespace Go.Af.Try
open Go

theorem preFa_len {k : Int} (hk : 1 ≤ k) (N : Nat) : ∀ j : Nat, ((preFa k N j).length : Int) = sumP k j
  | 0 => rfl
  | j + 1 => by
    have h := preFa_len hk N j
    have hp := powpos (k := k) hk (j + 1)
    simp only [preFa, sumP, List.length_append, lvlFa, List.length_map, List.length_range]
    omega
theorem sides_len {s : Sh} (hok : s.ok) : (s.sides.length : Int) = s.nsd := by
  cases s with
  | grid g => simp [Sh.sides, sidesG, Sh.nsd]
  | fat k n => exact preFa_len (by have := hok.1; omega) _ _
  | fly a h =>
    have := Int.mul_nonneg (a := a) (b := h) (by have := hok.1; omega) (by have := hok.2.1; omega)
    simp only [Sh.sides, sidesFl, Sh.nsd, List.length_map, List.length_range]
    omega
theorem nsd_le {s : Sh} (hok : s.ok) : s.nsd ≤ 1000000 := by
  cases s with
  | grid g => have := hok.2.1; simp only [Sh.nsd]; omega
  | fat k n =>
    have h := (sumP_bd hok.1 (j := (n - 1).toNat) (by have := hok.2.1; omega)).2
    have := hok.2.1
    simp only [Sh.nsd]; omega
  | fly a h =>
    have := mulb (a := a) (b := h) (A := 16) (B := 4) (by have := hok.1; omega) (by have := hok.1; omega) (by have := hok.2.1; omega) (by have := hok.2.1; omega)
    simp only [Sh.nsd]; omega
end Go.Af.Try
namespace Go.Af.Try
open Go

def sumN : Nat → (Nat → Nat) → Nat
  | 0, _ => 0
  | n + 1, f => sumN n f + f n
theorem sumN_congr {f g : Nat → Nat} : ∀ {n : Nat}, (∀ x, x < n → f x = g x) → sumN n f = sumN n g
  | 0, _ => rfl
  | n + 1, h => by rw [sumN, sumN, sumN_congr (fun x hx => h x (by omega)), h n (by omega)]
theorem sumN_add (f g : Nat → Nat) : ∀ n : Nat, sumN n (fun x => f x + g x) = sumN n f + sumN n g
  | 0 => rfl
  | n + 1 => by simp only [sumN, sumN_add f g n]; omega
theorem sumN_zero : ∀ n : Nat, sumN n (fun _ => 0) = 0
  | 0 => rfl
  | n + 1 => by simp only [sumN, sumN_zero n]
theorem sumN_comm (f : Nat → Nat → Nat) (m : Nat) : ∀ n : Nat, sumN n (fun x => sumN m (f x)) = sumN m (fun z => sumN n (fun x => f x z))
  | 0 => by simp only [sumN, sumN_zero]
  | n + 1 => by simp only [sumN]; rw [sumN_comm f m n, ← sumN_add]
theorem sumN_one (c : Nat) (y : Nat) : ∀ n : Nat, sumN n (fun z => if z = y then c else 0) = if y < n then c else 0
  | 0 => by simp [sumN]
  | n + 1 => by
    rw [sumN, sumN_one c y n]
    by_cases h : n = y
    · subst h; simp
    · rw [if_neg h]
      by_cases h2 : y < n
      · rw [if_pos h2, if_pos (by omega)]; rfl
      · rw [if_neg h2, if_neg (by omega)]
theorem overF_sum {side : List Bool} {n : Nat} : ∀ {ys : List Int}, (∀ y ∈ ys, 0 ≤ y ∧ y < (n : Int)) → overF side ys = sumN n (fun z => if side[z]! then 0 else ys.count (z : Int))
  | [], _ => (sumN_zero n).symm.trans (sumN_congr fun z _ => by simp)
  | y :: r, h => by
    obtain ⟨h0, h1⟩ := h y (by simp)
    obtain ⟨k, rfl⟩ : ∃ k : Nat, y = k := ⟨y.toNat, by omega⟩
    have e : sumN n (fun z => if side[z]! then 0 else ((k : Int) :: r).count (z : Int)) = sumN n (fun z => (if z = k then (if side[k]! then 0 else 1) else 0) + (if side[z]! then 0 else r.count (z : Int))) := sumN_congr fun z _ => by
      rw [List.count_cons]
      by_cases hz : z = k
      · subst hz; simp; split <;> omega
      · have : ((k : Int) == (z : Int)) = false := by simp; omega
        rw [this, if_neg hz]; simp
    rw [e, sumN_add, sumN_one, if_pos (by omega), ← overF_sum (fun y hy => h y (by simp [hy]))]
    simp [overF]
theorem crossF_sum {s : Sh} (hok : s.ok) {side : List Bool} {n : Nat} (hn : s.sw = n) : ∀ m : Nat, m ≤ n → crossF s side m = sumN m (fun x => sumN n (fun z => if side[x]! && !side[z]! then (s.near x).count (z : Int) else 0))
  | 0, _ => rfl
  | m + 1, hm => by
    rw [crossF, sumN, crossF_sum hok hn m (by omega)]
    congr 1
    by_cases h : side[m]! = true
    · rw [if_pos h, overF_sum (n := n) (fun y hy => by have := (near_in hok (x := m) (by omega)).1 y hy; omega)]
      exact sumN_congr fun z _ => by rw [h]; cases side[z]! <;> simp
    · rw [if_neg h]
      have h : side[m]! = false := by simpa using h
      exact (sumN_zero n).symm.trans (sumN_congr fun z _ => by rw [h]; simp)

/-- Neighbours are symmetric. -/
def Symm (s : Sh) (n : Nat) : Prop := ∀ x y : Nat, x < n → y < n → (s.near x).count (y : Int) = (s.near y).count (x : Int)
theorem cross_not {s : Sh} (hok : s.ok) {n : Nat} (hn : s.sw = n) (hs : Symm s n) {side no : List Bool} (hno : ∀ i, i < n → no[i]! = !side[i]!) : crossF s side n = crossF s no n := by
  rw [crossF_sum hok hn n (Nat.le_refl _), crossF_sum hok hn n (Nat.le_refl _), sumN_comm]
  refine sumN_congr fun x hx => sumN_congr fun z hz => ?_
  rw [hno x hx, hno z hz, hs z x hz hx]
  cases side[x]! <;> cases side[z]! <;> rfl
end Go.Af.Try
namespace Go.Af.Try
open Go

def nearT (s : Sh) (n : Nat) : List (List Int) := (List.range n).map fun x : Nat => s.near x
def symT (t : List (List Int)) : Bool := (List.range t.length).all fun x => t[x]!.all fun y => t[x]!.count y == t[y.toNat]!.count (x : Int)
theorem nearT_get (s : Sh) {n x : Nat} (h : x < n) : (nearT s n)[x]! = s.near x := by
  rw [getElem!_pos _ x (by simp [nearT, h])]; simp [nearT]
theorem symm_of {s : Sh} (hok : s.ok) {n : Nat} (hn : s.sw = n) (h : symT (nearT s n) = true) : Symm s n := by
  have key : ∀ x y : Nat, x < n → y < n → (y : Int) ∈ s.near x → (s.near x).count (y : Int) = (s.near y).count (x : Int) := by
    intro x y hx hy hm
    have h1 := List.all_eq_true.1 h x (by simp [nearT, hx])
    rw [nearT_get s hx] at h1
    have h2 := List.all_eq_true.1 h1 (y : Int) hm
    rw [Int.toNat_natCast, nearT_get s hy] at h2
    simpa using h2
  intro x y hx hy
  by_cases h1 : (y : Int) ∈ s.near x
  · exact key x y hx hy h1
  · by_cases h2 : (x : Int) ∈ s.near y
    · exact (key y x hy hx h2).symm
    · rw [List.count_eq_zero.2 h1, List.count_eq_zero.2 h2]
end Go.Af.Try
namespace Go.Af.Try
open Go

theorem step_undo {m a : Int} (hm : 2 ≤ m) (h0 : 0 ≤ a) (h1 : a < m) : stepF m (-1) (stepF m 1 a) = a ∧ stepF m 1 (stepF m (-1) a) = a := by
  constructor
  · rw [step_up hm h0 h1]
    split
    · rw [step_dn hm (by omega) (by omega), if_pos rfl]; omega
    · rw [step_dn hm (by omega) (by omega), if_neg (by omega)]; omega
  · rw [step_dn hm h0 h1]
    split
    · rw [step_up hm (by omega) (by omega), if_pos rfl]; omega
    · rw [step_up hm (by omega) (by omega), if_neg (by omega)]; omega
theorem set_get_self {c : List Int} {i : Nat} {z : Int} (h : i < c.length) : (c.set i z)[i]! = z := by rw [getElem!_pos _ i (by simpa using h), List.getElem_set_self]
theorem set_undo {g c d : List Int} (hc : InR g c) (hd : InR g d) {i : Nat} (hi : i < g.length) (hm : 2 ≤ g[i]!) :
    (c.set i (stepF g[i]! 1 c[i]!) = d → d.set i (stepF g[i]! (-1) d[i]!) = c) ∧ (c.set i (stepF g[i]! (-1) c[i]!) = d → d.set i (stepF g[i]! 1 d[i]!) = c) := by
  have hci := hc.2 i hi
  have hcl : i < c.length := by rw [hc.1]; exact hi
  have u := step_undo hm hci.1 hci.2
  have self : c.set i c[i]! = c := by rw [getElem!_pos c i hcl]; exact List.set_getElem_self _
  constructor
  · rintro rfl
    rw [set_get_self hcl, List.set_set, u.1, self]
  · rintro rfl
    rw [set_get_self hcl, List.set_set, u.2, self]
theorem nbK_symm {g c d : List Int} (hc : InR g c) (hd : InR g d) {i : Nat} (hi : i < g.length) (hm : 2 ≤ g[i]!) : (nbK g c i 2).count (numF g d) = (nbK g d i 2).count (numF g c) := by
  have hcs : ∀ s : Int, s = 1 ∨ s = -1 → InR g (c.set i (stepF g[i]! s c[i]!)) := fun s hs => by
    have h := step_in hm hs (hc.2 i hi).1
    exact hc.set hi h.1 h.2
  have hds : ∀ s : Int, s = 1 ∨ s = -1 → InR g (d.set i (stepF g[i]! s d[i]!)) := fun s hs => by
    have h := step_in hm hs (hd.2 i hi).1
    exact hd.set hi h.1 h.2
  have inj : ∀ {a b : List Int}, InR g a → InR g b → (numF g a = numF g b ↔ a = b) := fun {a b} ha hb => ⟨fun h => by rw [← coords_num ha, ← coords_num hb, h], fun h => by rw [h]⟩
  have p1 : (c.set i (stepF g[i]! 1 c[i]!) = d) ↔ (d.set i (stepF g[i]! (-1) d[i]!) = c) := ⟨(set_undo hc hd hi hm).1, (set_undo hd hc hi hm).2⟩
  have p2 : (c.set i (stepF g[i]! (-1) c[i]!) = d) ↔ (d.set i (stepF g[i]! 1 d[i]!) = c) := ⟨(set_undo hc hd hi hm).2, (set_undo hd hc hi hm).1⟩
  have e : ∀ a : List Int, nbK g a i 2 = numF g (a.set i (stepF g[i]! 1 a[i]!)) :: (if g[i]! = 2 then [] else [numF g (a.set i (stepF g[i]! (-1) a[i]!))]) := fun _ => rfl
  rw [e c, e d]
  by_cases h2 : g[i]! = 2
  · rw [if_pos h2, if_pos h2]
    have hst : ∀ a : Int, 0 ≤ a → a < g[i]! → stepF g[i]! 1 a = stepF g[i]! (-1) a := fun a a0 a1 => by
      rw [step_up hm a0 a1, step_dn hm a0 a1, h2]; split <;> split <;> omega
    have hd' := hst d[i]! (hd.2 i hi).1 (hd.2 i hi).2
    simp only [List.count_cons, List.count_nil, beq_iff_eq, inj (hcs 1 (.inl rfl)) hd, inj (hds 1 (.inl rfl)) hc]
    rw [hd']
    simp only [p1]
  · rw [if_neg h2, if_neg h2]
    simp only [List.count_cons, List.count_nil, beq_iff_eq, inj (hcs 1 (.inl rfl)) hd, inj (hds 1 (.inl rfl)) hc, inj (hcs (-1) (.inr rfl)) hd, inj (hds (-1) (.inr rfl)) hc, p1, p2]
    omega
theorem preG_symm {g c d : List Int} (hc : InR g c) (hd : InR g d) (hg : ∀ m ∈ g, 2 ≤ m) : ∀ m : Nat, m ≤ g.length → (preG g c m).count (numF g d) = (preG g d m).count (numF g c)
  | 0, _ => rfl
  | m + 1, h => by
    have hm : 2 ≤ g[m]! := by rw [getElem!_pos g m (by omega)]; exact hg _ (List.getElem_mem _)
    rw [preG, preG, List.count_append, List.count_append, preG_symm hc hd hg m (by omega), nbK_symm hc hd (by omega) hm]
theorem symm_grid {g : List Int} {n : Nat} (hok : (Sh.grid g).ok) (hn : prodF g = n) : Symm (.grid g) n := by
  intro x y hx hy
  have hg : ∀ m ∈ g, 2 ≤ m := fun m h => (hok.2.2.1 m h).1
  have h := preG_symm (coords_in (x := (x : Int)) (by omega) g hg) (coords_in (x := (y : Int)) (by omega) g hg) hg g.length (Nat.le_refl _)
  rw [num_coords ⟨by omega, by omega⟩ hg, num_coords ⟨by omega, by omega⟩ hg] at h
  exact h
end Go.Af.Try
namespace Go.Af.Try
open Go

def fatsB : Bool := (List.range 9).all fun k => (List.range 5).all fun n => decide (k < 2 ∨ n < 1 ∨ 64 < n * k ^ (n - 1)) || symT (nearT (.fat k n) (n * k ^ (n - 1)))
def fliesB : Bool := (List.range 17).all fun a => (List.range 5).all fun h => decide (a < 1 ∨ h < 1 ∨ 64 < a * (a * h + 1)) || symT (nearT (.fly a h) (a * (a * h + 1)))
set_option maxRecDepth 100000 in
theorem fats_ok : fatsB = true := by decide +kernel
set_option maxRecDepth 100000 in
theorem flies_ok : fliesB = true := by decide +kernel
theorem symm_all {s : Sh} (hok : s.ok) {n : Nat} (hn : s.sw = n) (hl : n ≤ 64) : Symm s n := by
  cases s with
  | grid g => exact symm_grid hok hn
  | fat k m =>
    have hok' := hok
    obtain ⟨hk, hm, _⟩ := hok'
    obtain ⟨k', rfl⟩ : ∃ k' : Nat, k = k' := ⟨k.toNat, by omega⟩
    obtain ⟨m', rfl⟩ : ∃ m' : Nat, m = m' := ⟨m.toNat, by omega⟩
    have e : ((m' : Int) - 1).toNat = m' - 1 := by omega
    have hn' : m' * k' ^ (m' - 1) = n := by
      simp only [Sh.sw] at hn; rw [e] at hn; exact_mod_cast hn
    have h1 := List.all_eq_true.1 (List.all_eq_true.1 fats_ok k' (List.mem_range.2 (by omega))) m' (List.mem_range.2 (by omega))
    rw [hn', decide_eq_false (by omega), Bool.false_or] at h1
    exact symm_of hok hn h1
  | fly a h =>
    have hok' := hok
    obtain ⟨ha, hh, _⟩ := hok'
    obtain ⟨a', rfl⟩ : ∃ a' : Nat, a = a' := ⟨a.toNat, by omega⟩
    obtain ⟨h', rfl⟩ : ∃ h' : Nat, h = h' := ⟨h.toNat, by omega⟩
    have hn' : a' * (a' * h' + 1) = n := by
      simp only [Sh.sw] at hn; exact_mod_cast hn
    have h1 := List.all_eq_true.1 (List.all_eq_true.1 flies_ok a' (List.mem_range.2 (by omega))) h' (List.mem_range.2 (by omega))
    rw [hn', decide_eq_false (by omega), Bool.false_or] at h1
    exact symm_of hok hn h1
end Go.Af.Try
namespace Go.Af.Try
open Go

theorem sumN_split (f : Nat → Nat) (a : Nat) : ∀ b : Nat, sumN (a + b) f = sumN a f + sumN b (fun r => f (a + r))
  | 0 => rfl
  | b + 1 => by rw [← Nat.add_assoc, sumN, sumN_split f a b, sumN]; omega
theorem sumN_mul (f : Nat → Nat) (B : Nat) : ∀ A : Nat, sumN (A * B) f = sumN A (fun q => sumN B (fun r => f (q * B + r)))
  | 0 => by rw [Nat.zero_mul]; rfl
  | A + 1 => by rw [Nat.succ_mul, sumN_split, sumN_mul f B A, sumN]
theorem sumN_const (c : Nat) : ∀ n : Nat, sumN n (fun _ => c) = n * c
  | 0 => by simp [sumN]
  | n + 1 => by rw [sumN, sumN_const c n, Nat.succ_mul]
theorem count_dim {A m B v : Nat} (hB : 0 < B) (hv : v < m) : sumN (A * m * B) (fun x => if x / B % m = v then 1 else 0) = A * B := by
  rw [sumN_mul, sumN_mul]
  rw [sumN_congr (g := fun _ => B) (fun a ha => ?_), sumN_const]
  rw [sumN_congr (g := fun q => if q = v then B else 0) (fun q hq => ?_), sumN_one, if_pos hv]
  rw [sumN_congr (g := fun _ => if q = v then 1 else 0) (fun r hr => ?_), sumN_const]
  · split <;> simp
  · have e : ((a * m + q) * B + r) / B = a * m + q := by
      rw [Nat.add_comm, Nat.mul_comm, Nat.add_mul_div_left _ _ hB, Nat.div_eq_of_lt hr, Nat.zero_add]
    have e2 : (a * m + q) % m = q := by rw [Nat.add_comm, Nat.add_mul_mod_self_right, Nat.mod_eq_of_lt hq]
    rw [e, e2]
theorem prodF_app (a b : List Int) : prodF (a ++ b) = prodF a * prodF b := by
  unfold prodF
  rw [List.foldl_append]
  exact foldl_mul b _
theorem coords_get : ∀ (g : List Int) (x : Int) (j : Nat), j < g.length → (coords g x)[j]! = (quoF (g.drop (j + 1)) x).tmod g[j]!
  | [], _, j, h => by simp at h
  | m :: r, x, 0, _ => by simp [coords]
  | m :: r, x, j + 1, h => by
    have := coords_get r x j (by simpa using h)
    simpa [coords] using this
theorem quo_div (x : Nat) : ∀ (g : List Int) (_ : ∀ m ∈ g, 2 ≤ m), ∃ P : Nat, prodF g = P ∧ 0 < P ∧ quoF g x = ((x / P : Nat) : Int)
  | [], _ => ⟨1, rfl, by decide, by simp [quoF]⟩
  | m :: r, hg => by
    obtain ⟨P, h1, h2, h3⟩ := quo_div x r (fun m hm => hg m (by simp [hm]))
    have hm := hg m (by simp)
    obtain ⟨k, rfl⟩ : ∃ k : Nat, m = k := ⟨m.toNat, by omega⟩
    refine ⟨k * P, by rw [prodF_cons, h1]; simp, Nat.mul_pos (by omega) h2, ?_⟩
    show (quoF r x).tdiv k = _
    rw [h3, ← Int.ofNat_tdiv, Nat.div_div_eq_div_mul, Nat.mul_comm]
theorem coord_count {g : List Int} {n i : Nat} {v : Nat} (hg : ∀ m ∈ g, 2 ≤ m) (hn : prodF g = n) (hi : i < g.length) (hv : (v : Int) < g[i]!) :
    (sumN n (fun x => if (coords g x)[i]! = (v : Int) then 1 else 0) : Int) * g[i]! = n := by
  have hd : ∀ m ∈ g.drop (i + 1), 2 ≤ m := fun m hm => hg m (List.mem_of_mem_drop hm)
  have ht : ∀ m ∈ g.take i, 2 ≤ m := fun m hm => hg m (List.mem_of_mem_take hm)
  obtain ⟨B, b1, b2, _⟩ := quo_div 0 _ hd
  obtain ⟨A, a1, a2, _⟩ := quo_div 0 _ ht
  have hm : 2 ≤ g[i]! := by rw [getElem!_pos g i hi]; exact hg _ (List.getElem_mem _)
  obtain ⟨m, hgm⟩ : ∃ m : Nat, g[i]! = m := ⟨g[i]!.toNat, by omega⟩
  have hsp : prodF g = ((A * m * B : Nat) : Int) := by
    have e : g = g.take (i + 1) ++ g.drop (i + 1) := (List.take_append_drop _ _).symm
    rw [e, prodF_app, prodF_snoc g i hi, a1, b1, hgm]; simp
  have hnn : n = A * m * B := by rw [hsp] at hn; exact_mod_cast hn.symm
  have hc : ∀ x : Nat, (coords g x)[i]! = ((x / B % m : Nat) : Int) := fun x => by
    obtain ⟨B', b1', _, b3⟩ := quo_div x _ hd
    have : B' = B := by rw [b1] at b1'; exact_mod_cast b1'.symm
    subst this
    rw [coords_get g x i hi, b3, hgm, Int.ofNat_tmod]
  rw [hgm] at hv ⊢
  rw [sumN_congr (g := fun x => if x / B % m = v then 1 else 0) (fun x _ => by rw [hc]; simp only [Int.ofNat_inj]), hnn, count_dim b2 (by omega)]
  simp only [Int.natCast_mul, Nat.mul_assoc]
  rw [Int.mul_assoc, Int.mul_comm (B : Int) m]

theorem overF_app (side : List Bool) (p : List Int) : ∀ q : List Int, overF side (q ++ p) = overF side q + overF side p
  | [] => by simp [overF]
  | y :: r => by simp only [List.cons_append, overF, overF_app side p r]; omega
theorem crossF_eq (s : Sh) (side : List Bool) : ∀ n : Nat, crossF s side n = sumN n (fun x => if side[x]! then overF side (s.near x) else 0)
  | 0 => rfl
  | n + 1 => by rw [crossF, sumN, crossF_eq s side n]
theorem tabF_get {f : Int → Bool} {n x : Nat} (h : x < n) : (tabF f n)[x]! = f x := by
  rw [getElem!_pos _ x (by simp [tabF, h])]; simp [tabF]
theorem set_get_ne {c : List Int} {i j : Nat} {z : Int} (h : i ≠ j) : (c.set j z)[i]! = c[i]! := by
  rw [List.getElem!_eq_getElem?_getD, List.getElem!_eq_getElem?_getD, List.getElem?_set_ne (by omega)]
section
variable {g : List Int} {n : Nat}
theorem sid_num {e : List Int} {i : Nat} (hn : prodF g = n) (he : InR g e) : (tabF (sidG g i) n)[(numF g e).toNat]! = decide (e[i]! < g[i]!.tdiv 2) := by
  have h := num_lt he g.length (Nat.le_refl _)
  rw [List.take_length, List.take_of_length_le (by rw [he.1]; exact Nat.le_refl _)] at h
  rw [tabF_get (by omega)]
  rw [show (((numF g e).toNat : Nat) : Int) = numF g e by omega]
  unfold sidG
  rw [coords_num he]
theorem over_pre {e : List Int} {i : Nat} (hn : prodF g = n) (he : InR g e) (hg : ∀ m ∈ g, 2 ≤ m) (hi : i < g.length) (hc : e[i]! < g[i]!.tdiv 2) : ∀ K : Nat, K ≤ g.length →
    overF (tabF (sidG g i) n) (preG g e K) = if i < K then (if e[i]! = g[i]!.tdiv 2 - 1 then 1 else 0) + (if g[i]! = 2 then 0 else if e[i]! = 0 then 1 else 0) else 0
  | 0, _ => by simp [preG, overF]
  | K + 1, hK => by
    have ih := over_pre hn he hg hi hc K (by omega)
    have hmK : 2 ≤ g[K]! := by rw [getElem!_pos g K (by omega)]; exact hg _ (List.getElem_mem _)
    have hin : ∀ s : Int, s = 1 ∨ s = -1 → InR g (e.set K (stepF g[K]! s e[K]!)) := fun s hs => by
      have h := step_in hmK hs (he.2 K (by omega)).1
      exact he.set (by omega) h.1 h.2
    have e2 : nbK g e K 2 = numF g (e.set K (stepF g[K]! 1 e[K]!)) :: (if g[K]! = 2 then [] else [numF g (e.set K (stepF g[K]! (-1) e[K]!))]) := rfl
    rw [preG, overF_app, e2]
    simp only [overF]
    rw [sid_num hn (hin 1 (.inl rfl))]
    by_cases hik : i = K
    · subst hik
      rw [if_neg (Nat.lt_irrefl i)] at ih
      rw [ih]
      have hel : i < e.length := by rw [he.1]; exact hi
      have hb := he.2 i hi
      rw [set_get_self hel, step_up hmK hb.1 hb.2, if_pos (Nat.lt_succ_self i)]
      have hq : g[i]!.tdiv 2 = g[i]! / 2 := Int.tdiv_eq_ediv_of_nonneg (by omega)
      rw [hq] at hc ⊢
      by_cases h2 : g[i]! = 2
      · rw [if_pos h2, if_pos h2, if_neg (show ¬ e[i]! = g[i]! - 1 by omega)]
        simp only [overF, decide_eq_true_eq]
        split <;> split <;> omega
      · rw [if_neg h2, if_neg h2, if_neg (show ¬ e[i]! = g[i]! - 1 by omega)]
        simp only [overF]
        rw [sid_num hn (hin (-1) (.inr rfl)), set_get_self hel, step_dn hmK hb.1 hb.2, hq]
        simp only [decide_eq_true_eq]
        repeat' split
        all_goals omega
    · have hlt : (if i < K + 1 then (if e[i]! = g[i]!.tdiv 2 - 1 then 1 else 0) + (if g[i]! = 2 then 0 else if e[i]! = 0 then 1 else 0) else 0 : Nat) = (if i < K then (if e[i]! = g[i]!.tdiv 2 - 1 then 1 else 0) + (if g[i]! = 2 then 0 else if e[i]! = 0 then 1 else 0) else 0) := by
        by_cases h : i < K
        · rw [if_pos h, if_pos (by omega)]
        · rw [if_neg h, if_neg (by omega)]
      rw [ih, hlt, set_get_ne hik, decide_eq_true hc, if_pos rfl]
      have : overF (tabF (sidG g i) n) (if g[K]! = 2 then [] else [numF g (e.set K (stepF g[K]! (-1) e[K]!))]) = 0 := by
        split
        · rfl
        · simp only [overF]
          rw [sid_num hn (hin (-1) (.inr rfl)), set_get_ne hik, decide_eq_true hc, if_pos rfl]
      rw [this]
      omega
theorem cross_grid (hok : (Sh.grid g).ok) (hn : prodF g = n) {i : Nat} (hi : i < g.length) : (crossF (.grid g) (tabF (sidG g i) n) n : Int) = expF (.grid g) n i := by
  have hg : ∀ m ∈ g, 2 ≤ m := fun m h => (hok.2.2.1 m h).1
  have hm : 2 ≤ g[i]! := by rw [getElem!_pos g i hi]; exact hg _ (List.getElem_mem _)
  have hq : g[i]!.tdiv 2 = g[i]! / 2 := Int.tdiv_eq_ediv_of_nonneg (by omega)
  rw [crossF_eq]
  rw [sumN_congr (g := fun x => (if (coords g x)[i]! = ((g[i]! / 2 - 1).toNat : Int) then 1 else 0) + (if g[i]! = 2 then 0 else if (coords g x)[i]! = ((0 : Nat) : Int) then 1 else 0)) (fun x hx => ?_), sumN_add]
  · have h1 := coord_count (v := (g[i]! / 2 - 1).toNat) hg hn hi (by omega)
    have h0 := coord_count (v := 0) hg hn hi (by omega)
    simp only [expF, Int.toNat_natCast]
    generalize hs1 : sumN n (fun x => if (coords g x)[i]! = ((g[i]! / 2 - 1).toNat : Int) then 1 else 0) = s1 at h1 ⊢
    generalize hs0 : sumN n (fun x => if (coords g x)[i]! = ((0 : Nat) : Int) then 1 else 0) = s0 at h0 ⊢
    by_cases h2 : g[i]! = 2
    · simp only [if_pos h2, sumN_zero]
      rw [h2] at h1
      rw [Int.tdiv_eq_ediv_of_nonneg (by omega)]
      omega
    · simp only [if_neg h2]
      rw [hs0]
      have hs : s1 = s0 := by
        have := h1.trans h0.symm
        have := Int.eq_of_mul_eq_mul_right (by omega) this
        exact_mod_cast this
      subst hs
      rw [← h1, Int.tdiv_eq_ediv_of_nonneg (by rw [h1]; omega), ← Int.mul_assoc, Int.mul_ediv_cancel _ (by omega)]
      omega
  · rw [tabF_get hx]
    have hci := coords_in (x := (x : Int)) (by omega) g hg
    have hb := hci.2 i hi
    have e1 : (((g[i]! / 2 - 1).toNat : Nat) : Int) = g[i]!.tdiv 2 - 1 := by omega
    by_cases hc : (coords g x)[i]! < g[i]!.tdiv 2
    · rw [if_pos (by unfold sidG; exact decide_eq_true hc)]
      show overF _ (preG g (coords g x) g.length) = _
      rw [over_pre hn hci hg hi hc g.length (Nat.le_refl _), if_pos hi, e1]; rfl
    · rw [if_neg (by unfold sidG; rw [decide_eq_false hc]; decide), e1, if_neg (by omega)]
      split
      · rfl
      · rw [if_neg (by simp only [Int.natCast_zero]; omega)]
end

/-! ### Fat trees and dragonflies, checked -/
def cutB (s : Sh) (n : Nat) : Bool := (List.range s.sides.length).all fun i => decide ((crossF s (tabF (s.sides.getD i (fun _ => false)) n) n : Int) = expF s n i)
def fatsC : Bool := (List.range 9).all fun k => (List.range 5).all fun n => decide (k < 2 ∨ n < 1 ∨ 64 < n * k ^ (n - 1)) || cutB (.fat k n) (n * k ^ (n - 1))
def fliesC : Bool := (List.range 17).all fun a => (List.range 5).all fun h => decide (a < 1 ∨ h < 1 ∨ 64 < a * (a * h + 1)) || cutB (.fly a h) (a * (a * h + 1))
set_option maxRecDepth 100000 in
theorem fatsC_ok : fatsC = true := by decide +kernel
set_option maxRecDepth 100000 in
theorem fliesC_ok : fliesC = true := by decide +kernel
theorem cutB_at {s : Sh} {n : Nat} (h : cutB s n = true) {i : Nat} (hi : i < s.sides.length) : (crossF s (tabF s.sides[i] n) n : Int) = expF s n i := by
  have := of_decide_eq_true (List.all_eq_true.1 h i (List.mem_range.2 hi))
  have e : s.sides.getD i (fun _ => false) = s.sides[i] := by simp [hi]
  rw [e] at this
  exact this
theorem cross_std {s : Sh} (hok : s.ok) {n : Nat} (hn : s.sw = n) (hl : n ≤ 64) {i : Nat} (hi : i < s.sides.length) : (crossF s (tabF s.sides[i] n) n : Int) = expF s n i := by
  cases s with
  | grid g =>
    have hi' : i < g.length := by simpa [Sh.sides, sidesG] using hi
    have e : (Sh.grid g).sides[i] = sidG g i := by simp [Sh.sides, sidesG]
    rw [e]
    exact cross_grid hok hn hi'
  | fat k m =>
    have hok' := hok
    obtain ⟨hk, hm, _⟩ := hok'
    obtain ⟨k', rfl⟩ : ∃ k' : Nat, k = k' := ⟨k.toNat, by omega⟩
    obtain ⟨m', rfl⟩ : ∃ m' : Nat, m = m' := ⟨m.toNat, by omega⟩
    have e : ((m' : Int) - 1).toNat = m' - 1 := by omega
    have hn' : m' * k' ^ (m' - 1) = n := by
      simp only [Sh.sw] at hn; rw [e] at hn; exact_mod_cast hn
    have h1 := List.all_eq_true.1 (List.all_eq_true.1 fatsC_ok k' (List.mem_range.2 (by omega))) m' (List.mem_range.2 (by omega))
    rw [hn', decide_eq_false (by omega), Bool.false_or] at h1
    exact cutB_at h1 hi
  | fly a h =>
    have hok' := hok
    obtain ⟨ha, hh, _⟩ := hok'
    obtain ⟨a', rfl⟩ : ∃ a' : Nat, a = a' := ⟨a.toNat, by omega⟩
    obtain ⟨h', rfl⟩ : ∃ h' : Nat, h = h' := ⟨h.toNat, by omega⟩
    have hn' : a' * (a' * h' + 1) = n := by
      simp only [Sh.sw] at hn; exact_mod_cast hn
    have h1 := List.all_eq_true.1 (List.all_eq_true.1 fliesC_ok a' (List.mem_range.2 (by omega))) h' (List.mem_range.2 (by omega))
    rw [hn', decide_eq_false (by omega), Bool.false_or] at h1
    exact cutB_at h1 hi
end Go.Af.Try
namespace Go.Af.Try
open Go Go.Proofs
attribute [local irreducible] awp ACall ACallX AYield AInvoke newSlice isCells rdCells wrCells aAppend rangeEnd roundBegin roundEnd

theorem szF_or' (o : Option Sh) (M : Int) : szF o M = (0, 0) ∨ ∃ s, o = some s ∧ s.sw ≤ M ∧ szF o M = (s.sw, s.hm) := by
  cases o with
  | none => exact .inl rfl
  | some s =>
    by_cases h : s.sw ≤ M
    · exact .inr ⟨s, rfl, h, if_pos h⟩
    · exact .inl (if_neg h)

theorem c30' {H : List Blk} {R : Value → List Blk → Prop} {b c j n : Nat} {wr w2 : Bool} {kind hosts : Int} {sides : List Int} {side : List Bool} {s : Sh} (hs : shapeF kind sides hosts = some s) (hn : s.sw = n) (hL : side.length = n) (hb : bget H b = some (.cells wr 1 (ints sides))) (hl : sides.length ≤ c) (hj : bget H j = some (.cells w2 1 (bls side)))
    (h : R (.tuple ⟨[.int .i64 (crossF s side n), .int .i64 0]⟩) H) : ACallX Try.prog 30 [spV kind (.slice (some ⟨b, 0, none⟩) sides.length c) hosts, sv j n] H R := by
  subst hL
  have e : acrF (shapeF kind sides hosts) side = (((crossF s side side.length : Nat) : Int), (0 : Int)) := by rw [hs]; simp only [acrF]; rw [if_pos hn.symm]
  exact c30 hb hl hj (by rw [e]; exact h)
theorem c32 {H : List Blk} {R : Value → List Blk → Prop} {b c : Nat} {wr : Bool} {kind hosts n i : Int} {sides : List Int} {s : Sh} (hok : s.ok) (hof : s.of kind sides) (hn : 0 ≤ n ∧ n ≤ 64) (hi : 0 ≤ i ∧ i < s.nsd) (hb : bget H b = some (.cells wr 1 (ints sides))) (hl : sides.length ≤ c)
    (h : R (.int .i64 (expF s n i)) H) : ACallX Try.prog 32 [spV kind (.slice (some ⟨b, 0, none⟩) sides.length c) hosts, .int .i64 n, .int .i64 i] H R :=
  acallx_s (l32 kind hosts n i sides s hok hof hn hi) [(b, 0)] rfl (.cons (.agg (.cons (.int _ _) (.cons (VRen.slice rfl rfl hl) (.cons (.int _ _) .nil)))) (.cons (.int _ _) (.cons (.int _ _) .nil)))
    ⟨⟨_, hb, BRen.seg fun i x hx => by rw [Nat.zero_add, ints_get, hx]; rfl⟩, trivial⟩ rfl h

set_option maxHeartbeats 4000000 in
theorem k6 (kind hosts : Int) (sides : List Int) (side : List Bool) {m : LM} {argsR : Array Value} {w : World} (ha : LRel m [spV kind (sv 0 sides.length) hosts, sv 1 side.length] argsR.toList) (hr : HRel m [ro sides, .cells false 1 (bls side)] w) :
    Calls Try.prog 6 argsR w fun e w' => ∃ vR, e = .returned vR ∧ AppOut m [ro sides, .cells false 1 (bls side)] w (fun v _ => v = .bool true) vR w' := by
  refine calls_vcg tok Try.func6 rfl Try.ntmps6 rfl (by simp) ?_ ha hr
  refine rdCells_of rfl ?_
  refine ⟨_, rfl, _, rfl, _, rfl, ?_⟩
  (first | refine c19 rfl (Nat.le_refl _) ?_ | refine (c19 rfl (Nat.le_refl _) ?_).call)
  rcases szF_or' (shapeF kind sides hosts) 64 with hz | ⟨s, hs, hsw, hz⟩
  · rw [hz]
    (repeat (first | refine And.intro (fun _ => ?_) (fun h => absurd h (by decide)) | refine And.intro (fun h => absurd h (by decide)) (fun _ => ?_) | refine Exists.intro _ (And.intro rfl ?_) | refine And.intro (by decide) ?_ | refine And.intro (by omega) ?_ | refine Or.inl (Exists.intro _ (And.intro rfl (And.intro (by unfold I64; omega) ?_)))))
    (first | refine c12 ?_ | refine (c12 ?_).call)
    exact rfl
  rw [hz]
  have hok := shapeF_ok hs
  have hof := shapeF_of hs
  have hbd := sw_bd hok
  obtain ⟨n, hn⟩ : ∃ n : Nat, s.sw = n := ⟨s.sw.toNat, by omega⟩
  rw [hn]
  refine ⟨_, rfl, _, rfl, ?_⟩
  refine vops_gen (fun K0 hK0 => hK0 _ _ ?_)
  refine vops_gen (fun K0 hK0 => ?_)
  refine And.intro (fun _ => ?_) (fun h => by simp at h; omega)
  refine And.intro (fun _ => ?_) (fun h => absurd h (by decide))
  refine And.intro (fun _ => ?_) (fun h => absurd h (by decide))
  refine And.intro (fun _ => ?_) (fun h => absurd h (by decide))
  refine hK0 _ _ ?_
  clear hK0 K0
  refine And.intro (fun hne => ?_) (fun hne => ?_)
  · (first | refine c12 ?_ | refine (c12 ?_).call)
    exact rfl
  have hsl : side.length = n := by
    have : (side.length : Int) = n := by simpa using hne
    omega
  refine ⟨by decide, n, n, ⟨rfl, rfl⟩, ⟨Nat.le_refl _, by simp only; omega⟩, bls (List.replicate n false), by simp [zeroRep, bls, cellsL], ?_⟩
  refine vcg_loopR (α := List Bool × Nat) tok (fun x => x.1.length = n ∧ (∀ y, y < x.2 → x.1[y]! = !side[y]!) ∧ x.2 ≤ n)
    (fun | (_, i) => [(1, sv 1 side.length), (2, pV 2), (5, .int .i64 (n : Int)), (7, sv 3 n), (8, .int .i64 (i : Int))]) (fun | (gs, _) => [ro sides, .cells false 1 (bls side), .cells true 1 [.int .i64 kind, sv 0 sides.length, .int .i64 hosts], .cells true 1 (bls gs)]) (fun x => n - x.2)
    (List.replicate n false, 0) ⟨by simp, fun y hy => absurd hy (Nat.not_lt_zero y), Nat.zero_le _⟩ (Or.inl ⟨⟨rfl, rfl, rfl, rfl, rfl, trivial⟩, rfl⟩) ?_
  rintro ⟨gs, i⟩ ⟨hg, hgs, hi⟩
  simp only at hg hgs hi
  refine And.intro (fun hc => ?_) (fun hc => ?_)
  · have hlt : i < n := by simpa using hc
    refine isCells_of rfl ⟨i, rfl, by omega, ?_⟩
    refine rdCells_of rfl ?_
    refine ⟨_, bls_get (by omega), ?_⟩
    refine isCells_of rfl ⟨i, rfl, hlt, ?_⟩
    refine wrCells_of rfl ⟨⟨rfl, rfl, by simp; omega⟩, _, bls_set, ?_⟩
    refine Or.inl ⟨((i + 1 : Nat) : Int), by simp, by unfold I64; omega, ?_⟩
    refine ⟨(gs.set i (!side[i]!), i + 1), ⟨by simp [hg], fun y hy => ?_, hlt⟩, by simp only; omega, Or.inl ⟨⟨rfl, rfl, rfl, rfl, rfl, trivial⟩, rfl⟩⟩
    simp only
    by_cases e : y = i
    · subst e; rw [getElem!_pos _ y (by simp; omega)]; simp
    · rw [getElem!_pos _ y (by simp; omega), List.getElem_set_ne (by omega), ← getElem!_pos gs y (by omega)]
      exact hgs y (by omega)
  · have : i = n := by simp at hc; omega
    subst this
    have hcr : crossF s side i = crossF s gs i := cross_not hok hn (symm_all hok hn (by omega)) hgs
    have hcl := crossF_le hok side i (by omega)
    refine rdCells_of rfl ?_
    refine ⟨_, rfl, _, rfl, _, rfl, ?_⟩
    rw [hsl]
    (first | refine c30' hs hn hsl rfl (Nat.le_refl _) rfl ?_ | refine (c30' hs hn hsl rfl (Nat.le_refl _) rfl ?_).call)
    refine ⟨_, rfl, _, rfl, ?_⟩
    refine vops_gen (fun K0 hK0 => hK0 _ _ ?_)
    refine rdCells_of rfl ?_
    refine ⟨_, rfl, _, rfl, _, rfl, ?_⟩
    (first | refine c30' hs hn hg rfl (Nat.le_refl _) rfl ?_ | refine (c30' hs hn hg rfl (Nat.le_refl _) rfl ?_).call)
    rw [← hcr]
    refine ⟨_, rfl, _, rfl, ?_⟩
    refine vops_gen (fun K0 hK0 => hK0 _ _ ?_)
    refine rdCells_of rfl ?_
    refine ⟨_, rfl, _, rfl, _, rfl, ?_⟩
    have hsn := sides_len hok
    have hsm := nsd_le hok
    refine g31 hs hn (by omega) rfl ?_
    intro H' tb kf hle hold htb hrow
    have e0 : bget H' 0 = some (ro sides) := hold 0 (show 0 < 4 from by decide)
    have e2 : bget H' 2 = some (.cells true 1 [.int .i64 kind, sv 0 sides.length, .int .i64 hosts]) := hold 2 (show 2 < 4 from by decide)
    clear hold hle
    generalize hk : s.sides.length = K at htb hsn
    refine ⟨_, rfl, _, rfl, ?_⟩
    refine vops_gen (fun K0 hK0 => hK0 _ _ ?_)
    refine vops_gen (fun K0 hK0 => ?_)
    repeat (refine And.intro (fun _ => ?_) (fun h => absurd h (by decide)))
    refine hK0 _ _ ?_
    clear hK0 K0
    refine And.intro (fun h => by simp at h) (fun _ => ?_)
    refine vcg_loopR (α := Nat) tok (fun j => j ≤ K) (fun j => [(2, pV 2), (5, .int .i64 (i : Int)), (13, slV tb K), (15, .int .i64 (j : Int))]) (fun _ => H') (fun j => K - j)
      0 (Nat.zero_le _) (Or.inl ⟨⟨rfl, rfl, rfl, rfl, trivial⟩, rfl⟩) ?_
    intro j hj
    refine And.intro (fun hc => ?_) (fun hc => ?_)
    · have hlt : j < K := by simpa using hc
      have hjs : j < s.sides.length := by omega
      refine vcg_draw tok mx [0, 0, 0, 6, 14, 31, 63, 127, 127, 255, 1023] [false, true, true, true, true, false, false, false, false, false, false] [0, 1, 2, 3, 4, 5, 6, 7, 8, 9, 10] (by kernel_rfl) ?_
      refine vopsO_gen (fun K0 hK0 => ?_)
      refine rdCells_of e2 ?_
      refine ⟨_, rfl, _, rfl, _, rfl, ?_⟩
      rw [slV_pos (by omega)]
      refine isCells_of (htb (by omega)) ⟨j, rfl, hlt, ?_⟩
      refine rdCells_of (htb (by omega)) ?_
      refine ⟨sv (kf j) i, by simp [rowsB, hlt], ?_⟩
      (first | refine c30' hs hn (by simp [tabF]) e0 (Nat.le_refl _) (hrow j hjs) ?_ | refine (c30' hs hn (by simp [tabF]) e0 (Nat.le_refl _) (hrow j hjs) ?_).call)
      refine ⟨_, rfl, _, rfl, ?_⟩
      refine hK0 _ _ ?_
      clear hK0 K0
      refine vops_gen (fun K0 hK0 => ?_)
      repeat (refine And.intro (fun _ => ?_) (fun h => absurd h (by decide)))
      refine rdCells_of e2 ?_
      refine ⟨_, rfl, _, rfl, _, rfl, ?_⟩
      repeat (refine And.intro (fun _ => ?_) (fun h => absurd h (by decide)))
      (first | refine c32 hok hof ⟨by omega, by omega⟩ ⟨by omega, by omega⟩ e0 (Nat.le_refl _) ?_ | refine (c32 hok hof ⟨by omega, by omega⟩ ⟨by omega, by omega⟩ e0 (Nat.le_refl _) ?_).call)
      repeat (refine And.intro (fun _ => ?_) (fun h => absurd h (by decide)))
      refine hK0 _ _ ?_
      clear hK0 K0
      have hcs := cross_std hok hn (by omega) hjs
      refine And.intro (fun h => by rw [hcs] at h; simp at h) (fun _ => ?_)
      refine Or.inl ⟨((j + 1 : Nat) : Int), by simp, by unfold I64; omega, ?_⟩
      exact ⟨j + 1, hlt, by omega, Or.inl ⟨⟨rfl, rfl, congrArg some (slV_pos (by omega)).symm, rfl, trivial⟩, rfl⟩⟩
    · (first | refine c12 ?_ | refine (c12 ?_).call)
      exact rfl
end Go.Af.Try
