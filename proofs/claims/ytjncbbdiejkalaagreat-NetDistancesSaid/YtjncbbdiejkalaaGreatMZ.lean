/-
  Routes never go back to a channel of a lower rank. No program is in sight.
  Routes never go back to a channel of a lower rank: trees and dragonflies. No program is in sight.
  Waiting channels: a struct with a row of triples and a row of rows, in a heap whose blocks have no literal numbers.
  A path is noted: the channels that wait have lower ranks than those that they wait for.
-/
import Derived.Test.YtjncbbdiejkalaaGreatMX
import Derived.Test.YtjncbbdiejkalaaGreatMT
import Derived.Test.YtjncbbdiejkalaaGreatMC
import Derived.Laws.StructEq
set_option linter.all false
namespace Go.Af.Tryz
open Go

/-! ### A torus -/

def numA (a : Int) (g e : List Int) : Int := (g.zip e).foldl (fun x p => x * p.1 + p.2) a
theorem inr_cons {m a : Int} {g e : List Int} (h : InR (m :: g) (a :: e)) : (0 ≤ a ∧ a < m) ∧ InR g e := by
  have h0 := h.2 0 (by simp)
  refine ⟨by simpa using h0, by have := h.1; simpa using this, fun i hi => ?_⟩
  have := h.2 (i + 1) (by simp; omega)
  simpa using this
theorem numA_back : ∀ (g e : List Int) (a : Int), 0 ≤ a → InR g e → quoF g (numA a g e) = a ∧ coords g (numA a g e) = e
  | [], [], a, _, _ => ⟨rfl, rfl⟩
  | [], _ :: _, _, _, h => by have := h.1; simp at this
  | _ :: _, [], _, _, h => by have := h.1; simp at this
  | m :: g, b :: e, a, ha, h => by
    obtain ⟨hb, h⟩ := inr_cons h
    have hm := Int.mul_nonneg ha (show 0 ≤ m by omega)
    obtain ⟨i1, i2⟩ := numA_back g e (a * m + b) (by omega) h
    have e1 : numA a (m :: g) (b :: e) = numA (a * m + b) g e := rfl
    have e2 : quoF (m :: g) (numA (a * m + b) g e) = (quoF g (numA (a * m + b) g e)).tdiv m := rfl
    have e3 : coords (m :: g) (numA (a * m + b) g e) = (quoF g (numA (a * m + b) g e)).tmod m :: coords g (numA (a * m + b) g e) := rfl
    rw [e1, e2, e3, i1, i2]
    have k1 : (a * m + b).tdiv m = a := by
      rw [Int.tdiv_eq_ediv_of_nonneg (by omega), Int.add_comm, Int.add_mul_ediv_right _ _ (by omega), Int.ediv_eq_zero_of_lt hb.1 hb.2, Int.zero_add]
    have k2 : (a * m + b).tmod m = b := by
      rw [Int.tmod_eq_emod_of_nonneg (by omega), Int.add_comm, Int.add_mul_emod_self_right, Int.emod_eq_of_lt hb.1 hb.2]
    rw [k1, k2]; exact ⟨rfl, rfl⟩
theorem coords_num {g e : List Int} (h : InR g e) : coords g (numF g e) = e := (numA_back g e 0 (by omega) h).2
theorem numA_coords : ∀ (g : List Int) (x : Int), 0 ≤ x → (∀ m ∈ g, 2 ≤ m) → numA (quoF g x) g (coords g x) = x
  | [], x, _, _ => rfl
  | m :: g, x, hx, hg => by
    have hq := quo_nn hx g (fun m hm => hg m (by simp [hm]))
    have e1 : numA (quoF (m :: g) x) (m :: g) (coords (m :: g) x) = numA ((quoF g x).tdiv m * m + (quoF g x).tmod m) g (coords g x) := rfl
    rw [e1, Int.mul_comm, Int.mul_tdiv_add_tmod]
    exact numA_coords g x hx (fun m hm => hg m (by simp [hm]))
theorem foldl_mul (g : List Int) : ∀ a : Int, g.foldl (fun n m => n * m) a = a * prodF g := by
  unfold prodF
  induction g with
  | nil => intro a; simp
  | cons m g ih => intro a; simp only [List.foldl_cons]; rw [ih (a * m), ih (1 * m), Int.one_mul, Int.mul_assoc]
theorem prodF_cons (m : Int) (g : List Int) : prodF (m :: g) = m * prodF g := by
  show g.foldl (fun n m => n * m) (1 * m) = _
  rw [foldl_mul, Int.one_mul]
theorem quo_mul : ∀ (g : List Int) (x : Int), 0 ≤ x → (∀ m ∈ g, 2 ≤ m) → 1 ≤ prodF g ∧ quoF g x * prodF g ≤ x
  | [], x, _, _ => by simp [quoF, prodF]
  | m :: g, x, hx, hg => by
    have hm := hg m (by simp)
    have hg' : ∀ m ∈ g, 2 ≤ m := fun m hm => hg m (by simp [hm])
    have hq := quo_nn hx g hg'
    obtain ⟨i1, i2⟩ := quo_mul g x hx hg'
    rw [prodF_cons]
    have h1 := Int.mul_le_mul_of_nonneg_right hm (show 0 ≤ prodF g by omega)
    refine ⟨by omega, ?_⟩
    have e1 : quoF (m :: g) x = (quoF g x).tdiv m := rfl
    rw [e1, ← Int.mul_assoc]
    have h2 : (quoF g x).tdiv m * m ≤ quoF g x := by
      rw [Int.tdiv_eq_ediv_of_nonneg hq]; exact Int.ediv_mul_le _ (by omega)
    exact Int.le_trans (Int.mul_le_mul_of_nonneg_right h2 (by omega)) i2
theorem num_coords {g : List Int} {x : Int} (hx : 0 ≤ x ∧ x < prodF g) (hg : ∀ m ∈ g, 2 ≤ m) : numF g (coords g x) = x := by
  have h1 := numA_coords g x hx.1 hg
  have h2 := quo_mul g x hx.1 hg
  have h3 := quo_nn hx.1 g hg
  have : quoF g x = 0 := by
    by_cases h : quoF g x = 0
    · exact h
    · have := Int.mul_le_mul_of_nonneg_right (show 1 ≤ quoF g x by omega) (show 0 ≤ prodF g by omega)
      omega
  rw [this] at h1
  exact h1

end Go.Af.Tryz
namespace Go.Af.Tryz
open Go

end Go.Af.Tryz
namespace Go.Af.Tryz
open Go Go.Proofs
attribute [local irreducible] awp ACall ACallX AYield AInvoke newSlice isCells rdCells wrCells aAppend

end Go.Af.Tryz
namespace Go.Af.Tryz
open Go Go.Proofs
attribute [local irreducible] awp ACall ACallX AYield AInvoke

section
attribute [local irreducible] newSlice isCells rdCells wrCells aAppend
end
end Go.Af.Tryz
