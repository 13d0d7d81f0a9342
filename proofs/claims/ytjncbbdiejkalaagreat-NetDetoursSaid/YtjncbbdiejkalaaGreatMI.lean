/-
  How many sides there are. No program is in sight.
  Across a side there are as many channels as across its complement, if neighbours are symmetric. No program is in sight.
  Neighbours are symmetric if a table says so. No program is in sight.
  Neighbours in a grid are symmetric. No program is in sight.
  Neighbours are symmetric in fat trees and dragonflies with at most 64 switches: checked one by one. No program is in sight.
  How many links are across the standard sides. No program is in sight.
  The law NetCuts, as a call.
-/
import Derived.Test.YtjncbbdiejkalaaGreatMH
import Derived.Test.YtjncbbdiejkalaaGreatMZ
import Derived.Test.YtjncbbdiejkalaaGreatMP
set_option linter.all false
namespace Go.Af.Tryz
open Go

end Go.Af.Tryz
namespace Go.Af.Tryz
open Go

end Go.Af.Tryz
namespace Go.Af.Tryz
open Go

end Go.Af.Tryz
namespace Go.Af.Tryz
open Go

theorem set_get_self {c : List Int} {i : Nat} {z : Int} (h : i < c.length) : (c.set i z)[i]! = z := by rw [getElem!_pos _ i (by simpa using h), List.getElem_set_self]
end Go.Af.Tryz
namespace Go.Af.Tryz
open Go

end Go.Af.Tryz
namespace Go.Af.Tryz
open Go

theorem set_get_ne {c : List Int} {i j : Nat} {z : Int} (h : i ≠ j) : (c.set j z)[i]! = c[i]! := by
  rw [List.getElem!_eq_getElem?_getD, List.getElem!_eq_getElem?_getD, List.getElem?_set_ne (by omega)]
section
variable {g : List Int} {n : Nat}
end

/-! ### Fat trees and dragonflies, checked -/
end Go.Af.Tryz
namespace Go.Af.Tryz
open Go Go.Proofs
attribute [local irreducible] awp ACall ACallX AYield AInvoke newSlice isCells rdCells wrCells aAppend rangeEnd roundBegin roundEnd

theorem szF_or' (o : Option Sh) (M : Int) : szF o M = (0, 0) ∨ ∃ s, o = some s ∧ s.sw ≤ M ∧ szF o M = (s.sw, s.hm) := by
  cases o with
  | none => exact .inl rfl
  | some s =>
    by_cases h : s.sw ≤ M
    · exact .inr ⟨s, rfl, h, if_pos h⟩
    · exact .inl (if_neg h)

end Go.Af.Tryz
