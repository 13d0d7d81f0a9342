/-
  When the reference calls two switches linked.
  The neighbours, and the links, as the reference lists them.
  The links as the reference lists them, and how many are across a side.
  Whether a switch lies in a subtree, as the reference says it.
  The standard sides as rows, as the reference makes them.
-/
import Derived.Test.YtjncbbdiejkalaaGreatMI
import Derived.Test.YtjncbbdiejkalaaGreatMX
import Derived.Test.YtjncbbdiejkalaaGreatMC
import Derived.Test.YtjncbbdiejkalaaGreatMT
import Derived.Test.YtjncbbdiejkalaaGreatMG
set_option linter.all false
namespace Go.Af.Tryz
open Go Go.Proofs
attribute [local irreducible] awp ACall ACallX AYield AInvoke

/-- In a grid: in how many of the first dimensions two places differ, and whether they are near in the last one of these. -/
def lnS (g a b : List Int) : Nat → Int × Bool
  | 0 => (0, true)
  | i + 1 => if a[i]! = b[i]! then lnS g a b i else ((lnS g a b i).1 + 1, decide (max (a[i]! - b[i]!) (b[i]! - a[i]!) = 1) || decide (max (a[i]! - b[i]!) (b[i]! - a[i]!) = g[i]! - 1))
theorem lnS_bd (g a b : List Int) : ∀ i : Nat, 0 ≤ (lnS g a b i).1 ∧ (lnS g a b i).1 ≤ i
  | 0 => by simp [lnS]
  | i + 1 => by
    have := lnS_bd g a b i
    simp only [lnS]
    split
    · omega
    · dsimp only; omega
def lnG (g : List Int) (x y : Int) : Bool := decide ((lnS g (coords g x) (coords g y) g.length).1 = 1) && (lnS g (coords g x) (coords g y) g.length).2
def lnFa (k : Int) (N : Nat) (x y : Int) : Bool :=
  decide ((max x y).tdiv (k ^ N) = (min x y).tdiv (k ^ N) + 1) && decide (likF k ((min x y).tmod (k ^ N)) ((min x y).tdiv (k ^ N)).toNat 0 = likF k ((max x y).tmod (k ^ N)) ((min x y).tdiv (k ^ N)).toNat 0)
def lnFl (a h x y : Int) : Bool :=
  decide (x.tdiv a = y.tdiv a) || (decide (porF a h (x.tdiv a) (gapF a h (x.tdiv a) (y.tdiv a)) = x) && decide (porF a h (y.tdiv a) (a * h + 1 - 2 - gapF a h (x.tdiv a) (y.tdiv a)) = y))
def Sh.lnk (s : Sh) (x y : Int) : Bool :=
  if x = y then false else match s with
    | .grid g => lnG g x y
    | .fat k n => lnFa k (n - 1).toNat x y
    | .fly a h => lnFl a h x y

end Go.Af.Tryz
namespace Go.Af.Tryz
open Go Go.Proofs
attribute [local irreducible] awp ACall ACallX AYield AInvoke newSlice isCells rdCells wrCells aAppend

abbrev none' : Nat → Prop := fun _ => False
def lnkL (s : Sh) (x : Int) (m : Nat) : List Int := ((List.range m).map fun y : Nat => (y : Int)).filter (s.lnk x)
theorem lnkL_len (s : Sh) (x : Int) (m : Nat) : (lnkL s x m).length ≤ m := by
  have := List.length_filter_le (s.lnk x) ((List.range m).map fun y : Nat => (y : Int))
  simpa [lnkL] using this
theorem lnkL_mem {s : Sh} {x y : Int} {m : Nat} : y ∈ lnkL s x m ↔ (0 ≤ y ∧ y < m) ∧ s.lnk x y = true := by
  simp only [lnkL, List.mem_filter, List.mem_map, List.mem_range]
  constructor
  · rintro ⟨⟨k, hk, rfl⟩, h⟩; exact ⟨⟨by omega, by omega⟩, h⟩
  · rintro ⟨⟨h0, h1⟩, h⟩; exact ⟨⟨y.toNat, by omega, by omega⟩, h⟩

end Go.Af.Tryz
namespace Go.Af.Tryz
open Go Go.Proofs
attribute [local irreducible] awp ACall ACallX AYield AInvoke newSlice isCells rdCells wrCells aAppend

def pairC (p : Int × Int) : List Value := [.int .i64 p.1, .int .i64 p.2]
/-! ### Across -/
end Go.Af.Tryz
namespace Go.Af.Tryz
open Go Go.Proofs
attribute [local irreducible] awp ACall ACallX AYield AInvoke

end Go.Af.Tryz
namespace Go.Af.Tryz
open Go Go.Proofs
attribute [local irreducible] awp ACall ACallX AYield AInvoke newSlice isCells rdCells wrCells aAppend

end Go.Af.Tryz
