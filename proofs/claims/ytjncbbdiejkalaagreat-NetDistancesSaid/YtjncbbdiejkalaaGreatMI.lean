/-
  How many sides there are. No program is in sight.
  Across a side there are as many channels as across its complement, if neighbours are symmetric. No program is in sight.
  Neighbours are symmetric if a table says so. No program is in sight.
  Neighbours in a grid are symmetric. No program is in sight.
  Neighbours are symmetric in fat trees and dragonflies with at most 64 switches: checked one by one. No program is in sight.
  How many links are across the standard sides. No program is in sight.
  The law NetCuts, as a call.
-/
import Derived.Test.YtjncbbdiejkalaaGreatMH
import Derived.Test.YtjncbbdiejkalaaGreatMZ
import Derived.Test.YtjncbbdiejkalaaGreatMP
set_option linter.all false
namespace Go.Af.Tryz
open Go

end Go.Af.Tryz
namespace Go.Af.Tryz
open Go

def sumN : Nat → (Nat → Nat) → Nat
  | 0, _ => 0
  | n + 1, f => sumN n f + f n
theorem sumN_congr {f g : Nat → Nat} : ∀ {n : Nat}, (∀ x, x < n → f x = g x) → sumN n f = sumN n g
  | 0, _ => rfl
  | n + 1, h => by rw [sumN, sumN, sumN_congr (fun x hx => h x (by omega)), h n (by omega)]
end Go.Af.Tryz
namespace Go.Af.Tryz
open Go

end Go.Af.Tryz
namespace Go.Af.Tryz
open Go

theorem set_get_self {c : List Int} {i : Nat} {z : Int} (h : i < c.length) : (c.set i z)[i]! = z := by rw [getElem!_pos _ i (by simpa using h), List.getElem_set_self]
end Go.Af.Tryz
namespace Go.Af.Tryz
open Go

end Go.Af.Tryz
namespace Go.Af.Tryz
open Go

theorem sumN_split (f : Nat → Nat) (a : Nat) : ∀ b : Nat, sumN (a + b) f = sumN a f + sumN b (fun r => f (a + r))
  | 0 => rfl
  | b + 1 => by rw [← Nat.add_assoc, sumN, sumN_split f a b, sumN]; omega
theorem set_get_ne {c : List Int} {i j : Nat} {z : Int} (h : i ≠ j) : (c.set j z)[i]! = c[i]! := by
  rw [List.getElem!_eq_getElem?_getD, List.getElem!_eq_getElem?_getD, List.getElem?_set_ne (by omega)]
section
variable {g : List Int} {n : Nat}
end

/-! ### Fat trees and dragonflies, checked -/
end Go.Af.Tryz
namespace Go.Af.Tryz
open Go Go.Proofs
attribute [local irreducible] awp ACall ACallX AYield AInvoke newSlice isCells rdCells wrCells aAppend rangeEnd roundBegin roundEnd

end Go.Af.Tryz
