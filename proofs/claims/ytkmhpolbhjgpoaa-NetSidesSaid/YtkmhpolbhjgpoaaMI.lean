/-
  How many sides there are. No program is in sight.
  Across a side there are as many channels as across its complement, if neighbours are symmetric. No program is in sight.
  Neighbours are symmetric if a table says so. No program is in sight.
  Neighbours in a grid are symmetric. No program is in sight.
  Neighbours are symmetric in fat trees and dragonflies with at most 64 switches: checked one by one. No program is in sight.
  How many links are across the standard sides. No program is in sight.
  The law NetCuts, as a call.
-/
import Derived.Test.YtkmhpolbhjgpoaaMH
import Derived.Test.YtkmhpolbhjgpoaaMZ
import Derived.Test.YtkmhpolbhjgpoaaMP
set_option linter.all false
namespace Go.Af.Try
open Go

theorem preFa_len {k : Int} (hk : 1 ≤ k) (N : Nat) : ∀ j : Nat, ((preFa k N j).length : Int) = sumP k j
  | 0 => rfl
  | j + 1 => by
    have h := preFa_len hk N j
    have hp := powpos (k := k) hk (j + 1)
    simp only [preFa, sumP, List.length_append, lvlFa, List.length_map, List.length_range]
    omega
theorem sides_len {s : Sh} (hok : s.ok) : (s.sides.length : Int) = s.nsd := by
  cases s with
  | grid g => simp [Sh.sides, sidesG, Sh.nsd]
  | fat k n => exact preFa_len (by have := hok.1; omega) _ _
  | fly a h =>
    have := Int.mul_nonneg (a := a) (b := h) (by have := hok.1; omega) (by have := hok.2.1; omega)
    simp only [Sh.sides, sidesFl, Sh.nsd, List.length_map, List.length_range]
    omega
theorem nsd_le {s : Sh} (hok : s.ok) : s.nsd ≤ 1000000 := by
  cases s with
  | grid g => have := hok.2.1; simp only [Sh.nsd]; omega
  | fat k n =>
    have h := (sumP_bd hok.1 (j := (n - 1).toNat) (by have := hok.2.1; omega)).2
    have := hok.2.1
    simp only [Sh.nsd]; omega
  | fly a h =>
    have := mulb (a := a) (b := h) (A := 16) (B := 4) (by have := hok.1; omega) (by have := hok.1; omega) (by have := hok.2.1; omega) (by have := hok.2.1; omega)
    simp only [Sh.nsd]; omega
end Go.Af.Try
namespace Go.Af.Try
open Go

def sumN : Nat → (Nat → Nat) → Nat
  | 0, _ => 0
  | n + 1, f => sumN n f + f n
theorem sumN_congr {f g : Nat → Nat} : ∀ {n : Nat}, (∀ x, x < n → f x = g x) → sumN n f = sumN n g
  | 0, _ => rfl
  | n + 1, h => by rw [sumN, sumN, sumN_congr (fun x hx => h x (by omega)), h n (by omega)]
theorem sumN_add (f g : Nat → Nat) : ∀ n : Nat, sumN n (fun x => f x + g x) = sumN n f + sumN n g
  | 0 => rfl
  | n + 1 => by simp only [sumN, sumN_add f g n]; omega
theorem sumN_zero : ∀ n : Nat, sumN n (fun _ => 0) = 0
  | 0 => rfl
  | n + 1 => by simp only [sumN, sumN_zero n]
theorem sumN_comm (f : Nat → Nat → Nat) (m : Nat) : ∀ n : Nat, sumN n (fun x => sumN m (f x)) = sumN m (fun z => sumN n (fun x => f x z))
  | 0 => by simp only [sumN, sumN_zero]
  | n + 1 => by simp only [sumN]; rw [sumN_comm f m n, ← sumN_add]
theorem sumN_one (c : Nat) (y : Nat) : ∀ n : Nat, sumN n (fun z => if z = y then c else 0) = if y < n then c else 0
  | 0 => by simp [sumN]
  | n + 1 => by
    rw [sumN, sumN_one c y n]
    by_cases h : n = y
    · subst h; simp
    · rw [if_neg h]
      by_cases h2 : y < n
      · rw [if_pos h2, if_pos (by omega)]; rfl
      · rw [if_neg h2, if_neg (by omega)]
theorem overF_sum {side : List Bool} {n : Nat} : ∀ {ys : List Int}, (∀ y ∈ ys, 0 ≤ y ∧ y < (n : Int)) → overF side ys = sumN n (fun z => if side[z]! then 0 else ys.count (z : Int))
  | [], _ => (sumN_zero n).symm.trans (sumN_congr fun z _ => by simp)
  | y :: r, h => by
    obtain ⟨h0, h1⟩ := h y (by simp)
    obtain ⟨k, rfl⟩ : ∃ k : Nat, y = k := ⟨y.toNat, by omega⟩
    have e : sumN n (fun z => if side[z]! then 0 else ((k : Int) :: r).count (z : Int)) = sumN n (fun z => (if z = k then (if side[k]! then 0 else 1) else 0) + (if side[z]! then 0 else r.count (z : Int))) := sumN_congr fun z _ => by
      rw [List.count_cons]
      by_cases hz : z = k
      · subst hz; simp; split <;> omega
      · have : ((k : Int) == (z : Int)) = false := by simp; omega
        rw [this, if_neg hz]; simp
    rw [e, sumN_add, sumN_one, if_pos (by omega), ← overF_sum (fun y hy => h y (by simp [hy]))]
    simp [overF]
theorem crossF_sum {s : Sh} (hok : s.ok) {side : List Bool} {n : Nat} (hn : s.sw = n) : ∀ m : Nat, m ≤ n → crossF s side m = sumN m (fun x => sumN n (fun z => if side[x]! && !side[z]! then (s.near x).count (z : Int) else 0))
  | 0, _ => rfl
  | m + 1, hm => by
    rw [crossF, sumN, crossF_sum hok hn m (by omega)]
    congr 1
    by_cases h : side[m]! = true
    · rw [if_pos h, overF_sum (n := n) (fun y hy => by have := (near_in hok (x := m) (by omega)).1 y hy; omega)]
      exact sumN_congr fun z _ => by rw [h]; cases side[z]! <;> simp
    · rw [if_neg h]
      have h : side[m]! = false := by simpa using h
      exact (sumN_zero n).symm.trans (sumN_congr fun z _ => by rw [h]; simp)

/-- Neighbours are symmetric. -/
def Symm (s : Sh) (n : Nat) : Prop := ∀ x y : Nat, x < n → y < n → (s.near x).count (y : Int) = (s.near y).count (x : Int)
end Go.Af.Try
namespace Go.Af.Try
open Go

def nearT (s : Sh) (n : Nat) : List (List Int) := (List.range n).map fun x : Nat => s.near x
def symT (t : List (List Int)) : Bool := (List.range t.length).all fun x => t[x]!.all fun y => t[x]!.count y == t[y.toNat]!.count (x : Int)
theorem nearT_get (s : Sh) {n x : Nat} (h : x < n) : (nearT s n)[x]! = s.near x := by
  rw [getElem!_pos _ x (by simp [nearT, h])]; simp [nearT]
theorem symm_of {s : Sh} (hok : s.ok) {n : Nat} (hn : s.sw = n) (h : symT (nearT s n) = true) : Symm s n := by
  have key : ∀ x y : Nat, x < n → y < n → (y : Int) ∈ s.near x → (s.near x).count (y : Int) = (s.near y).count (x : Int) := by
    intro x y hx hy hm
    have h1 := List.all_eq_true.1 h x (by simp [nearT, hx])
    rw [nearT_get s hx] at h1
    have h2 := List.all_eq_true.1 h1 (y : Int) hm
    rw [Int.toNat_natCast, nearT_get s hy] at h2
    simpa using h2
  intro x y hx hy
  by_cases h1 : (y : Int) ∈ s.near x
  · exact key x y hx hy h1
  · by_cases h2 : (x : Int) ∈ s.near y
    · exact (key y x hy hx h2).symm
    · rw [List.count_eq_zero.2 h1, List.count_eq_zero.2 h2]
end Go.Af.Try
namespace Go.Af.Try
open Go

theorem step_undo {m a : Int} (hm : 2 ≤ m) (h0 : 0 ≤ a) (h1 : a < m) : stepF m (-1) (stepF m 1 a) = a ∧ stepF m 1 (stepF m (-1) a) = a := by
  constructor
  · rw [step_up hm h0 h1]
    split
    · rw [step_dn hm (by omega) (by omega), if_pos rfl]; omega
    · rw [step_dn hm (by omega) (by omega), if_neg (by omega)]; omega
  · rw [step_dn hm h0 h1]
    split
    · rw [step_up hm (by omega) (by omega), if_pos rfl]; omega
    · rw [step_up hm (by omega) (by omega), if_neg (by omega)]; omega
theorem set_get_self {c : List Int} {i : Nat} {z : Int} (h : i < c.length) : (c.set i z)[i]! = z := by rw [getElem!_pos _ i (by simpa using h), List.getElem_set_self]
theorem set_undo {g c d : List Int} (hc : InR g c) (hd : InR g d) {i : Nat} (hi : i < g.length) (hm : 2 ≤ g[i]!) :
    (c.set i (stepF g[i]! 1 c[i]!) = d → d.set i (stepF g[i]! (-1) d[i]!) = c) ∧ (c.set i (stepF g[i]! (-1) c[i]!) = d → d.set i (stepF g[i]! 1 d[i]!) = c) := by
  have hci := hc.2 i hi
  have hcl : i < c.length := by rw [hc.1]; exact hi
  have u := step_undo hm hci.1 hci.2
  have self : c.set i c[i]! = c := by rw [getElem!_pos c i hcl]; exact List.set_getElem_self _
  constructor
  · rintro rfl
    rw [set_get_self hcl, List.set_set, u.1, self]
  · rintro rfl
    rw [set_get_self hcl, List.set_set, u.2, self]
theorem nbK_symm {g c d : List Int} (hc : InR g c) (hd : InR g d) {i : Nat} (hi : i < g.length) (hm : 2 ≤ g[i]!) : (nbK g c i 2).count (numF g d) = (nbK g d i 2).count (numF g c) := by
  have hcs : ∀ s : Int, s = 1 ∨ s = -1 → InR g (c.set i (stepF g[i]! s c[i]!)) := fun s hs => by
    have h := step_in hm hs (hc.2 i hi).1
    exact hc.set hi h.1 h.2
  have hds : ∀ s : Int, s = 1 ∨ s = -1 → InR g (d.set i (stepF g[i]! s d[i]!)) := fun s hs => by
    have h := step_in hm hs (hd.2 i hi).1
    exact hd.set hi h.1 h.2
  have inj : ∀ {a b : List Int}, InR g a → InR g b → (numF g a = numF g b ↔ a = b) := fun {a b} ha hb => ⟨fun h => by rw [← coords_num ha, ← coords_num hb, h], fun h => by rw [h]⟩
  have p1 : (c.set i (stepF g[i]! 1 c[i]!) = d) ↔ (d.set i (stepF g[i]! (-1) d[i]!) = c) := ⟨(set_undo hc hd hi hm).1, (set_undo hd hc hi hm).2⟩
  have p2 : (c.set i (stepF g[i]! (-1) c[i]!) = d) ↔ (d.set i (stepF g[i]! 1 d[i]!) = c) := ⟨(set_undo hc hd hi hm).2, (set_undo hd hc hi hm).1⟩
  have e : ∀ a : List Int, nbK g a i 2 = numF g (a.set i (stepF g[i]! 1 a[i]!)) :: (if g[i]! = 2 then [] else [numF g (a.set i (stepF g[i]! (-1) a[i]!))]) := fun _ => rfl
  rw [e c, e d]
  by_cases h2 : g[i]! = 2
  · rw [if_pos h2, if_pos h2]
    have hst : ∀ a : Int, 0 ≤ a → a < g[i]! → stepF g[i]! 1 a = stepF g[i]! (-1) a := fun a a0 a1 => by
      rw [step_up hm a0 a1, step_dn hm a0 a1, h2]; split <;> split <;> omega
    have hd' := hst d[i]! (hd.2 i hi).1 (hd.2 i hi).2
    simp only [List.count_cons, List.count_nil, beq_iff_eq, inj (hcs 1 (.inl rfl)) hd, inj (hds 1 (.inl rfl)) hc]
    rw [hd']
    simp only [p1]
  · rw [if_neg h2, if_neg h2]
    simp only [List.count_cons, List.count_nil, beq_iff_eq, inj (hcs 1 (.inl rfl)) hd, inj (hds 1 (.inl rfl)) hc, inj (hcs (-1) (.inr rfl)) hd, inj (hds (-1) (.inr rfl)) hc, p1, p2]
    omega
theorem preG_symm {g c d : List Int} (hc : InR g c) (hd : InR g d) (hg : ∀ m ∈ g, 2 ≤ m) : ∀ m : Nat, m ≤ g.length → (preG g c m).count (numF g d) = (preG g d m).count (numF g c)
  | 0, _ => rfl
  | m + 1, h => by
    have hm : 2 ≤ g[m]! := by rw [getElem!_pos g m (by omega)]; exact hg _ (List.getElem_mem _)
    rw [preG, preG, List.count_append, List.count_append, preG_symm hc hd hg m (by omega), nbK_symm hc hd (by omega) hm]
theorem symm_grid {g : List Int} {n : Nat} (hok : (Sh.grid g).ok) (hn : prodF g = n) : Symm (.grid g) n := by
  intro x y hx hy
  have hg : ∀ m ∈ g, 2 ≤ m := fun m h => (hok.2.2.1 m h).1
  have h := preG_symm (coords_in (x := (x : Int)) (by omega) g hg) (coords_in (x := (y : Int)) (by omega) g hg) hg g.length (Nat.le_refl _)
  rw [num_coords ⟨by omega, by omega⟩ hg, num_coords ⟨by omega, by omega⟩ hg] at h
  exact h
end Go.Af.Try
namespace Go.Af.Try
open Go

def fatsB : Bool := (List.range 9).all fun k => (List.range 5).all fun n => decide (k < 2 ∨ n < 1 ∨ 64 < n * k ^ (n - 1)) || symT (nearT (.fat k n) (n * k ^ (n - 1)))
def fliesB : Bool := (List.range 17).all fun a => (List.range 5).all fun h => decide (a < 1 ∨ h < 1 ∨ 64 < a * (a * h + 1)) || symT (nearT (.fly a h) (a * (a * h + 1)))
set_option maxRecDepth 100000 in
theorem fats_ok : fatsB = true := by decide +kernel
set_option maxRecDepth 100000 in
theorem flies_ok : fliesB = true := by decide +kernel
theorem symm_all {s : Sh} (hok : s.ok) {n : Nat} (hn : s.sw = n) (hl : n ≤ 64) : Symm s n := by
  cases s with
  | grid g => exact symm_grid hok hn
  | fat k m =>
    have hok' := hok
    obtain ⟨hk, hm, _⟩ := hok'
    obtain ⟨k', rfl⟩ : ∃ k' : Nat, k = k' := ⟨k.toNat, by omega⟩
    obtain ⟨m', rfl⟩ : ∃ m' : Nat, m = m' := ⟨m.toNat, by omega⟩
    have e : ((m' : Int) - 1).toNat = m' - 1 := by omega
    have hn' : m' * k' ^ (m' - 1) = n := by
      simp only [Sh.sw] at hn; rw [e] at hn; exact_mod_cast hn
    have h1 := List.all_eq_true.1 (List.all_eq_true.1 fats_ok k' (List.mem_range.2 (by omega))) m' (List.mem_range.2 (by omega))
    rw [hn', decide_eq_false (by omega), Bool.false_or] at h1
    exact symm_of hok hn h1
  | fly a h =>
    have hok' := hok
    obtain ⟨ha, hh, _⟩ := hok'
    obtain ⟨a', rfl⟩ : ∃ a' : Nat, a = a' := ⟨a.toNat, by omega⟩
    obtain ⟨h', rfl⟩ : ∃ h' : Nat, h = h' := ⟨h.toNat, by omega⟩
    have hn' : a' * (a' * h' + 1) = n := by
      simp only [Sh.sw] at hn; exact_mod_cast hn
    have h1 := List.all_eq_true.1 (List.all_eq_true.1 flies_ok a' (List.mem_range.2 (by omega))) h' (List.mem_range.2 (by omega))
    rw [hn', decide_eq_false (by omega), Bool.false_or] at h1
    exact symm_of hok hn h1
end Go.Af.Try
namespace Go.Af.Try
open Go

theorem set_get_ne {c : List Int} {i j : Nat} {z : Int} (h : i ≠ j) : (c.set j z)[i]! = c[i]! := by
  rw [List.getElem!_eq_getElem?_getD, List.getElem!_eq_getElem?_getD, List.getElem?_set_ne (by omega)]
section
variable {g : List Int} {n : Nat}
end

/-! ### Fat trees and dragonflies, checked -/
end Go.Af.Try
namespace Go.Af.Try
open Go Go.Proofs
attribute [local irreducible] awp ACall ACallX AYield AInvoke newSlice isCells rdCells wrCells aAppend rangeEnd roundBegin roundEnd

end Go.Af.Try
