/-
  No cell of these rows narrows 'for every input' (looked for: loops, veiled, ifaces, maps, wideKeys, modest, calm, conditions, laid).
  DERIVED. THE GIVEN ROWS OF THIS SEAT. 9 by the template 'for every input the law returns true; each argument reads behind the call as it read before'; 0 by the template 'total and deterministic' (their statements: YtkmhpolbhjgpoaaTotals.lean).
  GIVEN WITH THE SEED: the statements are not yours to turn. If you find one false, say at which input.
  Laid BY PROGRAM, IN A SANDBOX (cutbox-rows.mjs): the forced cells as the released guide's own fill.sh prints them over the translation efaf44fd53114544… (all of the seat's roots in one cut). By AI agents, Wed Nov 11 2026. No macro, syntax, notation, axiom, sorry.
-/
import Derived.Test.YtkmhpolbhjgpoaaChecked
import GoSem.Claim
import GoSem.ClaimJoined
import GoSem.ClaimMapViews
import Derived.JoinedTies
import Derived.KernelRfl
namespace Go.Proofs.Ytkmhpolbhjgpoaa
/- THE CELL 'sum', in the pinned program and in every row, IS THE sha256 OF THE DUMP (.gsa) THAT YtkmhpolbhjgpoaaProg.lean LOADS. Nothing in Lean hashes anything: it is a label: what it is worth is what the hold of that sum in a sandbox is worth. -/
noncomputable def Try.pinned : Pinned := { name := "ytkmhpolbhjgpoaa", sum := "efaf44fd53114544b7e80325de59e94d9c752ea93068fc74826ad213be67bf86", checked := Try.checked }
namespace Rows
def none {H : Type} : Left H := { results := [], args := [] }

/-- 'armadalaw04.NetRoutes': WHATEVER THE INPUT: true; the input reads as it did. -/
def netRoutesSpec : ChangeSpec := { name := "netRoutes", fn := fun _ => fun
  | [d1, d2, d3] => { results := [.lit (.bool true)], args := [d1, d2, d3] }
  | _ => none }
def netRoutesRow : OpenClaim := { program := "ytkmhpolbhjgpoaa", sum := "efaf44fd53114544b7e80325de59e94d9c752ea93068fc74826ad213be67bf86", func := "armada/armadalaw04.NetRoutes", spec := "netRoutes", unfollowed := true, recurses := true, apart := false }
def NetRoutesSaid : Prop := netRoutesRow.holds Try.pinned (OpenSpec.ofChange netRoutesSpec)

/-- ITS FALSE NEIGHBOUR: 'it returns false'. Refute it at one input. -/
def netRoutesWrong : ChangeSpec := { name := "netRoutes", fn := fun _ => fun
  | [d1, d2, d3] => { results := [.lit (.bool false)], args := [d1, d2, d3] }
  | _ => none }
def NetRoutesWrongFalsely : Prop := netRoutesRow.holds Try.pinned (OpenSpec.ofChange netRoutesWrong)

/-- 'armadalaw04.NetCycles': WHATEVER THE INPUT: true; the input reads as it did. -/
def netCyclesSpec : ChangeSpec := { name := "netCycles", fn := fun _ => fun
  | [d] => { results := [.lit (.bool true)], args := [d] }
  | _ => none }
def netCyclesRow : OpenClaim := { program := "ytkmhpolbhjgpoaa", sum := "efaf44fd53114544b7e80325de59e94d9c752ea93068fc74826ad213be67bf86", func := "armada/armadalaw04.NetCycles", spec := "netCycles", unfollowed := true, recurses := true, apart := false }
def NetCyclesSaid : Prop := netCyclesRow.holds Try.pinned (OpenSpec.ofChange netCyclesSpec)

/-- ITS FALSE NEIGHBOUR: 'it returns false'. Refute it at one input. -/
def netCyclesWrong : ChangeSpec := { name := "netCycles", fn := fun _ => fun
  | [d] => { results := [.lit (.bool false)], args := [d] }
  | _ => none }
def NetCyclesWrongFalsely : Prop := netCyclesRow.holds Try.pinned (OpenSpec.ofChange netCyclesWrong)

/-- 'armadalaw04.NetSizes': WHATEVER THE INPUT: true; the input reads as it did. -/
def netSizesSpec : ChangeSpec := { name := "netSizes", fn := fun _ => fun
  | [d1, d2, d3] => { results := [.lit (.bool true)], args := [d1, d2, d3] }
  | _ => none }
def netSizesRow : OpenClaim := { program := "ytkmhpolbhjgpoaa", sum := "efaf44fd53114544b7e80325de59e94d9c752ea93068fc74826ad213be67bf86", func := "armada/armadalaw04.NetSizes", spec := "netSizes", unfollowed := true, recurses := true, apart := false }
def NetSizesSaid : Prop := netSizesRow.holds Try.pinned (OpenSpec.ofChange netSizesSpec)

/-- ITS FALSE NEIGHBOUR: 'it returns false'. Refute it at one input. -/
def netSizesWrong : ChangeSpec := { name := "netSizes", fn := fun _ => fun
  | [d1, d2, d3] => { results := [.lit (.bool false)], args := [d1, d2, d3] }
  | _ => none }
def NetSizesWrongFalsely : Prop := netSizesRow.holds Try.pinned (OpenSpec.ofChange netSizesWrong)

/-- 'armadalaw04.NetCuts': WHATEVER THE INPUT: true; the input reads as it did. -/
def netCutsSpec : ChangeSpec := { name := "netCuts", fn := fun _ => fun
  | [d1, d2] => { results := [.lit (.bool true)], args := [d1, d2] }
  | _ => none }
def netCutsRow : OpenClaim := { program := "ytkmhpolbhjgpoaa", sum := "efaf44fd53114544b7e80325de59e94d9c752ea93068fc74826ad213be67bf86", func := "armada/armadalaw04.NetCuts", spec := "netCuts", unfollowed := true, recurses := true, apart := false }
def NetCutsSaid : Prop := netCutsRow.holds Try.pinned (OpenSpec.ofChange netCutsSpec)

/-- ITS FALSE NEIGHBOUR: 'it returns false'. Refute it at one input. -/
def netCutsWrong : ChangeSpec := { name := "netCuts", fn := fun _ => fun
  | [d1, d2] => { results := [.lit (.bool false)], args := [d1, d2] }
  | _ => none }
def NetCutsWrongFalsely : Prop := netCutsRow.holds Try.pinned (OpenSpec.ofChange netCutsWrong)

/-- 'armadalaw04.NetSides': WHATEVER THE INPUT: true; the input reads as it did. -/
def netSidesSpec : ChangeSpec := { name := "netSides", fn := fun _ => fun
  | [d1, d2] => { results := [.lit (.bool true)], args := [d1, d2] }
  | _ => none }
def netSidesRow : OpenClaim := { program := "ytkmhpolbhjgpoaa", sum := "efaf44fd53114544b7e80325de59e94d9c752ea93068fc74826ad213be67bf86", func := "armada/armadalaw04.NetSides", spec := "netSides", unfollowed := true, recurses := true, apart := false }
def NetSidesSaid : Prop := netSidesRow.holds Try.pinned (OpenSpec.ofChange netSidesSpec)

/-- ITS FALSE NEIGHBOUR: 'it returns false'. Refute it at one input. -/
def netSidesWrong : ChangeSpec := { name := "netSides", fn := fun _ => fun
  | [d1, d2] => { results := [.lit (.bool false)], args := [d1, d2] }
  | _ => none }
def NetSidesWrongFalsely : Prop := netSidesRow.holds Try.pinned (OpenSpec.ofChange netSidesWrong)

/-- 'armadalaw04.NetLinks': WHATEVER THE INPUT: true; the input reads as it did. -/
def netLinksSpec : ChangeSpec := { name := "netLinks", fn := fun _ => fun
  | [d1, d2] => { results := [.lit (.bool true)], args := [d1, d2] }
  | _ => none }
def netLinksRow : OpenClaim := { program := "ytkmhpolbhjgpoaa", sum := "efaf44fd53114544b7e80325de59e94d9c752ea93068fc74826ad213be67bf86", func := "armada/armadalaw04.NetLinks", spec := "netLinks", unfollowed := true, recurses := true, apart := false }
def NetLinksSaid : Prop := netLinksRow.holds Try.pinned (OpenSpec.ofChange netLinksSpec)

/-- ITS FALSE NEIGHBOUR: 'it returns false'. Refute it at one input. -/
def netLinksWrong : ChangeSpec := { name := "netLinks", fn := fun _ => fun
  | [d1, d2] => { results := [.lit (.bool false)], args := [d1, d2] }
  | _ => none }
def NetLinksWrongFalsely : Prop := netLinksRow.holds Try.pinned (OpenSpec.ofChange netLinksWrong)

/-- 'armadalaw04.NetSnake': WHATEVER THE INPUT: true; the input reads as it did. -/
def netSnakeSpec : ChangeSpec := { name := "netSnake", fn := fun _ => fun
  | [d] => { results := [.lit (.bool true)], args := [d] }
  | _ => none }
def netSnakeRow : OpenClaim := { program := "ytkmhpolbhjgpoaa", sum := "efaf44fd53114544b7e80325de59e94d9c752ea93068fc74826ad213be67bf86", func := "armada/armadalaw04.NetSnake", spec := "netSnake", unfollowed := true, recurses := true, apart := false }
def NetSnakeSaid : Prop := netSnakeRow.holds Try.pinned (OpenSpec.ofChange netSnakeSpec)

/-- ITS FALSE NEIGHBOUR: 'it returns false'. Refute it at one input. -/
def netSnakeWrong : ChangeSpec := { name := "netSnake", fn := fun _ => fun
  | [d] => { results := [.lit (.bool false)], args := [d] }
  | _ => none }
def NetSnakeWrongFalsely : Prop := netSnakeRow.holds Try.pinned (OpenSpec.ofChange netSnakeWrong)

/-- 'armadalaw04.NetPaths': WHATEVER THE INPUT: true; the input reads as it did. -/
def netPathsSpec : ChangeSpec := { name := "netPaths", fn := fun _ => fun
  | [d1, d2, d3] => { results := [.lit (.bool true)], args := [d1, d2, d3] }
  | _ => none }
def netPathsRow : OpenClaim := { program := "ytkmhpolbhjgpoaa", sum := "efaf44fd53114544b7e80325de59e94d9c752ea93068fc74826ad213be67bf86", func := "armada/armadalaw04.NetPaths", spec := "netPaths", unfollowed := true, recurses := true, apart := false }
def NetPathsSaid : Prop := netPathsRow.holds Try.pinned (OpenSpec.ofChange netPathsSpec)

/-- ITS FALSE NEIGHBOUR: 'it returns false'. Refute it at one input. -/
def netPathsWrong : ChangeSpec := { name := "netPaths", fn := fun _ => fun
  | [d1, d2, d3] => { results := [.lit (.bool false)], args := [d1, d2, d3] }
  | _ => none }
def NetPathsWrongFalsely : Prop := netPathsRow.holds Try.pinned (OpenSpec.ofChange netPathsWrong)

/-- 'armadalaw04.NetMetric': WHATEVER THE INPUT: true; the input reads as it did. -/
def netMetricSpec : ChangeSpec := { name := "netMetric", fn := fun _ => fun
  | [d1, d2, d3] => { results := [.lit (.bool true)], args := [d1, d2, d3] }
  | _ => none }
def netMetricRow : OpenClaim := { program := "ytkmhpolbhjgpoaa", sum := "efaf44fd53114544b7e80325de59e94d9c752ea93068fc74826ad213be67bf86", func := "armada/armadalaw04.NetMetric", spec := "netMetric", unfollowed := true, recurses := true, apart := false }
def NetMetricSaid : Prop := netMetricRow.holds Try.pinned (OpenSpec.ofChange netMetricSpec)

/-- ITS FALSE NEIGHBOUR: 'it returns false'. Refute it at one input. -/
def netMetricWrong : ChangeSpec := { name := "netMetric", fn := fun _ => fun
  | [d1, d2, d3] => { results := [.lit (.bool false)], args := [d1, d2, d3] }
  | _ => none }
def NetMetricWrongFalsely : Prop := netMetricRow.holds Try.pinned (OpenSpec.ofChange netMetricWrong)

/- THE SECOND FORM. 'bulk': how many values and letters a reading holds, each counted each time it is reached (what is shared counts as often as it is met; a slice's spare places count too). A statement '..UptoSaid' is the law's where the arguments, and the package variables that the reading takes, are together of bulk at most 1048576: NARROWER than '..Said'. Prove '..Said' where nothing that the law and all that it calls make is longer than what came in: it says more and counts as full. Else prove '..UptoSaid'. A law counts once. -/
mutual
def uptoBulk {H : Type} : DataW H → Nat
  | .lit (.string bytes) => bytes.length + 1
  | .lit _ => 1
  | .nil => 1
  | .ptr d => uptoBulk d + 1
  | .slice elems spare => uptoBulkAll elems + uptoBulkAll spare + 1
  | .agg parts => uptoBulkAll parts + 1
  | .iface _ d => uptoBulk d + 1
  | .map entries => uptoBulkEntries entries + 1
  | .held _ => 1
def uptoBulkAll {H : Type} : List (DataW H) → Nat
  | [] => 0
  | d :: r => uptoBulk d + uptoBulkAll r
def uptoBulkEntries {H : Type} : List (Lit × DataW H) → Nat
  | [] => 0
  | x :: r => uptoBulkEntry x + uptoBulkEntries r
def uptoBulkEntry {H : Type} : Lit × DataW H → Nat
  | (.string bytes, d) => bytes.length + uptoBulk d + 1
  | (_, d) => uptoBulk d + 1
 end
def uptoSmall : (H : Type) → List (DataW H) → Bool := fun _ ds => decide (uptoBulkAll ds ≤ 1048576)
def OpenSpec.upto (s : _root_.Go.ChangeSpec) : _root_.Go.OpenSpec := { _root_.Go.OpenSpec.ofChange s with cond := some uptoSmall }

/-- 'armadalaw04.NetRoutes', WHERE WHAT IT READS IS OF BULK AT MOST 1048576: true; the input reads as it did. -/
def netRoutesUptoRow : OpenClaim := { program := "ytkmhpolbhjgpoaa", sum := "efaf44fd53114544b7e80325de59e94d9c752ea93068fc74826ad213be67bf86", func := "armada/armadalaw04.NetRoutes", spec := "netRoutes", unfollowed := true, recurses := true, apart := false, narrowed := true }
def NetRoutesUptoSaid : Prop := netRoutesUptoRow.holds Try.pinned (OpenSpec.upto netRoutesSpec)

/-- 'armadalaw04.NetCycles', WHERE WHAT IT READS IS OF BULK AT MOST 1048576: true; the input reads as it did. -/
def netCyclesUptoRow : OpenClaim := { program := "ytkmhpolbhjgpoaa", sum := "efaf44fd53114544b7e80325de59e94d9c752ea93068fc74826ad213be67bf86", func := "armada/armadalaw04.NetCycles", spec := "netCycles", unfollowed := true, recurses := true, apart := false, narrowed := true }
def NetCyclesUptoSaid : Prop := netCyclesUptoRow.holds Try.pinned (OpenSpec.upto netCyclesSpec)

/-- 'armadalaw04.NetSizes', WHERE WHAT IT READS IS OF BULK AT MOST 1048576: true; the input reads as it did. -/
def netSizesUptoRow : OpenClaim := { program := "ytkmhpolbhjgpoaa", sum := "efaf44fd53114544b7e80325de59e94d9c752ea93068fc74826ad213be67bf86", func := "armada/armadalaw04.NetSizes", spec := "netSizes", unfollowed := true, recurses := true, apart := false, narrowed := true }
def NetSizesUptoSaid : Prop := netSizesUptoRow.holds Try.pinned (OpenSpec.upto netSizesSpec)

/-- 'armadalaw04.NetCuts', WHERE WHAT IT READS IS OF BULK AT MOST 1048576: true; the input reads as it did. -/
def netCutsUptoRow : OpenClaim := { program := "ytkmhpolbhjgpoaa", sum := "efaf44fd53114544b7e80325de59e94d9c752ea93068fc74826ad213be67bf86", func := "armada/armadalaw04.NetCuts", spec := "netCuts", unfollowed := true, recurses := true, apart := false, narrowed := true }
def NetCutsUptoSaid : Prop := netCutsUptoRow.holds Try.pinned (OpenSpec.upto netCutsSpec)

/-- 'armadalaw04.NetSides', WHERE WHAT IT READS IS OF BULK AT MOST 1048576: true; the input reads as it did. -/
def netSidesUptoRow : OpenClaim := { program := "ytkmhpolbhjgpoaa", sum := "efaf44fd53114544b7e80325de59e94d9c752ea93068fc74826ad213be67bf86", func := "armada/armadalaw04.NetSides", spec := "netSides", unfollowed := true, recurses := true, apart := false, narrowed := true }
def NetSidesUptoSaid : Prop := netSidesUptoRow.holds Try.pinned (OpenSpec.upto netSidesSpec)

/-- 'armadalaw04.NetLinks', WHERE WHAT IT READS IS OF BULK AT MOST 1048576: true; the input reads as it did. -/
def netLinksUptoRow : OpenClaim := { program := "ytkmhpolbhjgpoaa", sum := "efaf44fd53114544b7e80325de59e94d9c752ea93068fc74826ad213be67bf86", func := "armada/armadalaw04.NetLinks", spec := "netLinks", unfollowed := true, recurses := true, apart := false, narrowed := true }
def NetLinksUptoSaid : Prop := netLinksUptoRow.holds Try.pinned (OpenSpec.upto netLinksSpec)

/-- 'armadalaw04.NetSnake', WHERE WHAT IT READS IS OF BULK AT MOST 1048576: true; the input reads as it did. -/
def netSnakeUptoRow : OpenClaim := { program := "ytkmhpolbhjgpoaa", sum := "efaf44fd53114544b7e80325de59e94d9c752ea93068fc74826ad213be67bf86", func := "armada/armadalaw04.NetSnake", spec := "netSnake", unfollowed := true, recurses := true, apart := false, narrowed := true }
def NetSnakeUptoSaid : Prop := netSnakeUptoRow.holds Try.pinned (OpenSpec.upto netSnakeSpec)

/-- 'armadalaw04.NetPaths', WHERE WHAT IT READS IS OF BULK AT MOST 1048576: true; the input reads as it did. -/
def netPathsUptoRow : OpenClaim := { program := "ytkmhpolbhjgpoaa", sum := "efaf44fd53114544b7e80325de59e94d9c752ea93068fc74826ad213be67bf86", func := "armada/armadalaw04.NetPaths", spec := "netPaths", unfollowed := true, recurses := true, apart := false, narrowed := true }
def NetPathsUptoSaid : Prop := netPathsUptoRow.holds Try.pinned (OpenSpec.upto netPathsSpec)

/-- 'armadalaw04.NetMetric', WHERE WHAT IT READS IS OF BULK AT MOST 1048576: true; the input reads as it did. -/
def netMetricUptoRow : OpenClaim := { program := "ytkmhpolbhjgpoaa", sum := "efaf44fd53114544b7e80325de59e94d9c752ea93068fc74826ad213be67bf86", func := "armada/armadalaw04.NetMetric", spec := "netMetric", unfollowed := true, recurses := true, apart := false, narrowed := true }
def NetMetricUptoSaid : Prop := netMetricUptoRow.holds Try.pinned (OpenSpec.upto netMetricSpec)

end Rows
end Go.Proofs.Ytkmhpolbhjgpoaa
