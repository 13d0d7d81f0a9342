/-
  No cell of these rows narrows 'for every input' (looked for: loops, veiled, ifaces, maps, wideKeys, modest, calm, conditions, laid).
  DERIVED. THE GIVEN ROWS OF THIS SEAT. 9 by the template 'for every input the law returns true; each argument reads behind the call as it read before'; 0 by the template 'total and deterministic' (their statements: YtgdbclgcbbbenaaGreatTotals.lean).
  GIVEN WITH THE SEED: the statements are not yours to turn. If you find one false, say at which input.
  Laid BY PROGRAM, IN A SANDBOX (cutbox-rows.mjs): the forced cells as the released guide's own fill.sh prints them over the translation 03345f45c44e8608… (all of the seat's roots in one cut). By AI agents, Wed Nov 11 2026. No macro, syntax, notation, axiom, sorry.
-/
import Derived.Test.YtgdbclgcbbbenaaGreatChecked
import GoSem.Claim
import GoSem.ClaimJoined
import GoSem.ClaimMapViews
import Derived.JoinedTies
import Derived.KernelRfl
namespace Go.Proofs.YtgdbclgcbbbenaaGreat
/- THE CELL 'sum', in the pinned program and in every row, IS THE sha256 OF THE DUMP (.gsa) THAT YtgdbclgcbbbenaaGreatProg.lean LOADS. Nothing in Lean hashes anything: it is a label: what it is worth is what the hold of that sum in a sandbox is worth. -/
noncomputable def Tryz.pinned : Pinned := { name := "ytgdbclgcbbbenaagreat", sum := "03345f45c44e8608380d497325c32f245b6530ac442f8d108d7bef973d6ab2e5", checked := Tryz.checked }
namespace Rows
def none {H : Type} : Left H := { results := [], args := [] }

/-- 'armadalaw10.PlanMeasures': WHATEVER THE INPUT: true; the input reads as it did. -/
def planMeasuresSpec : ChangeSpec := { name := "planMeasures", fn := fun _ => fun
  | [d1, d2] => { results := [.lit (.bool true)], args := [d1, d2] }
  | _ => none }
def planMeasuresRow : OpenClaim := { program := "ytgdbclgcbbbenaagreat", sum := "03345f45c44e8608380d497325c32f245b6530ac442f8d108d7bef973d6ab2e5", func := "armada/armadalaw10.PlanMeasures", spec := "planMeasures", unfollowed := true, recurses := true, plainKeys := false, apart := false }
def PlanMeasuresSaid : Prop := planMeasuresRow.holds Tryz.pinned (OpenSpec.ofChange planMeasuresSpec)

/-- ITS FALSE NEIGHBOUR: 'it returns false'. Refute it at one input. -/
def planMeasuresWrong : ChangeSpec := { name := "planMeasures", fn := fun _ => fun
  | [d1, d2] => { results := [.lit (.bool false)], args := [d1, d2] }
  | _ => none }
def PlanMeasuresWrongFalsely : Prop := planMeasuresRow.holds Tryz.pinned (OpenSpec.ofChange planMeasuresWrong)

/-- 'armadalaw10.PlanSums': WHATEVER THE INPUT: true; the input reads as it did. -/
def planSumsSpec : ChangeSpec := { name := "planSums", fn := fun _ => fun
  | [d1, d2] => { results := [.lit (.bool true)], args := [d1, d2] }
  | _ => none }
def planSumsRow : OpenClaim := { program := "ytgdbclgcbbbenaagreat", sum := "03345f45c44e8608380d497325c32f245b6530ac442f8d108d7bef973d6ab2e5", func := "armada/armadalaw10.PlanSums", spec := "planSums", unfollowed := true, recurses := true, plainKeys := false, apart := false }
def PlanSumsSaid : Prop := planSumsRow.holds Tryz.pinned (OpenSpec.ofChange planSumsSpec)

/-- ITS FALSE NEIGHBOUR: 'it returns false'. Refute it at one input. -/
def planSumsWrong : ChangeSpec := { name := "planSums", fn := fun _ => fun
  | [d1, d2] => { results := [.lit (.bool false)], args := [d1, d2] }
  | _ => none }
def PlanSumsWrongFalsely : Prop := planSumsRow.holds Tryz.pinned (OpenSpec.ofChange planSumsWrong)

/-- 'armadalaw10.PlanNeeds': WHATEVER THE INPUT: true; the input reads as it did. -/
def planNeedsSpec : ChangeSpec := { name := "planNeeds", fn := fun _ => fun
  | [d1, d2, d3, d4, d5] => { results := [.lit (.bool true)], args := [d1, d2, d3, d4, d5] }
  | _ => none }
def planNeedsRow : OpenClaim := { program := "ytgdbclgcbbbenaagreat", sum := "03345f45c44e8608380d497325c32f245b6530ac442f8d108d7bef973d6ab2e5", func := "armada/armadalaw10.PlanNeeds", spec := "planNeeds", unfollowed := true, recurses := true, plainKeys := false, apart := false }
def PlanNeedsSaid : Prop := planNeedsRow.holds Tryz.pinned (OpenSpec.ofChange planNeedsSpec)

/-- ITS FALSE NEIGHBOUR: 'it returns false'. Refute it at one input. -/
def planNeedsWrong : ChangeSpec := { name := "planNeeds", fn := fun _ => fun
  | [d1, d2, d3, d4, d5] => { results := [.lit (.bool false)], args := [d1, d2, d3, d4, d5] }
  | _ => none }
def PlanNeedsWrongFalsely : Prop := planNeedsRow.holds Tryz.pinned (OpenSpec.ofChange planNeedsWrong)

/-- 'armadalaw10.PlanBounds': WHATEVER THE INPUT: true; the input reads as it did. -/
def planBoundsSpec : ChangeSpec := { name := "planBounds", fn := fun _ => fun
  | [d1, d2] => { results := [.lit (.bool true)], args := [d1, d2] }
  | _ => none }
def planBoundsRow : OpenClaim := { program := "ytgdbclgcbbbenaagreat", sum := "03345f45c44e8608380d497325c32f245b6530ac442f8d108d7bef973d6ab2e5", func := "armada/armadalaw10.PlanBounds", spec := "planBounds", unfollowed := true, recurses := true, plainKeys := false, apart := false }
def PlanBoundsSaid : Prop := planBoundsRow.holds Tryz.pinned (OpenSpec.ofChange planBoundsSpec)

/-- ITS FALSE NEIGHBOUR: 'it returns false'. Refute it at one input. -/
def planBoundsWrong : ChangeSpec := { name := "planBounds", fn := fun _ => fun
  | [d1, d2] => { results := [.lit (.bool false)], args := [d1, d2] }
  | _ => none }
def PlanBoundsWrongFalsely : Prop := planBoundsRow.holds Tryz.pinned (OpenSpec.ofChange planBoundsWrong)

/-- 'armadalaw10.PlanPrices': WHATEVER THE INPUT: true; the input reads as it did. -/
def planPricesSpec : ChangeSpec := { name := "planPrices", fn := fun _ => fun
  | [d1, d2, d3] => { results := [.lit (.bool true)], args := [d1, d2, d3] }
  | _ => none }
def planPricesRow : OpenClaim := { program := "ytgdbclgcbbbenaagreat", sum := "03345f45c44e8608380d497325c32f245b6530ac442f8d108d7bef973d6ab2e5", func := "armada/armadalaw10.PlanPrices", spec := "planPrices", unfollowed := true, recurses := true, plainKeys := false, apart := false }
def PlanPricesSaid : Prop := planPricesRow.holds Tryz.pinned (OpenSpec.ofChange planPricesSpec)

/-- ITS FALSE NEIGHBOUR: 'it returns false'. Refute it at one input. -/
def planPricesWrong : ChangeSpec := { name := "planPrices", fn := fun _ => fun
  | [d1, d2, d3] => { results := [.lit (.bool false)], args := [d1, d2, d3] }
  | _ => none }
def PlanPricesWrongFalsely : Prop := planPricesRow.holds Tryz.pinned (OpenSpec.ofChange planPricesWrong)

/-- 'armadalaw10.PlanChecks': WHATEVER THE INPUT: true; the input reads as it did. -/
def planChecksSpec : ChangeSpec := { name := "planChecks", fn := fun _ => fun
  | [d1, d2] => { results := [.lit (.bool true)], args := [d1, d2] }
  | _ => none }
def planChecksRow : OpenClaim := { program := "ytgdbclgcbbbenaagreat", sum := "03345f45c44e8608380d497325c32f245b6530ac442f8d108d7bef973d6ab2e5", func := "armada/armadalaw10.PlanChecks", spec := "planChecks", unfollowed := true, recurses := true, plainKeys := false, apart := false }
def PlanChecksSaid : Prop := planChecksRow.holds Tryz.pinned (OpenSpec.ofChange planChecksSpec)

/-- ITS FALSE NEIGHBOUR: 'it returns false'. Refute it at one input. -/
def planChecksWrong : ChangeSpec := { name := "planChecks", fn := fun _ => fun
  | [d1, d2] => { results := [.lit (.bool false)], args := [d1, d2] }
  | _ => none }
def PlanChecksWrongFalsely : Prop := planChecksRow.holds Tryz.pinned (OpenSpec.ofChange planChecksWrong)

/-- 'armadalaw10.PlanVerifies': WHATEVER THE INPUT: true; the input reads as it did. -/
def planVerifiesSpec : ChangeSpec := { name := "planVerifies", fn := fun _ => fun
  | [d1, d2] => { results := [.lit (.bool true)], args := [d1, d2] }
  | _ => none }
def planVerifiesRow : OpenClaim := { program := "ytgdbclgcbbbenaagreat", sum := "03345f45c44e8608380d497325c32f245b6530ac442f8d108d7bef973d6ab2e5", func := "armada/armadalaw10.PlanVerifies", spec := "planVerifies", unfollowed := true, recurses := true, plainKeys := false, apart := false }
def PlanVerifiesSaid : Prop := planVerifiesRow.holds Tryz.pinned (OpenSpec.ofChange planVerifiesSpec)

/-- ITS FALSE NEIGHBOUR: 'it returns false'. Refute it at one input. -/
def planVerifiesWrong : ChangeSpec := { name := "planVerifies", fn := fun _ => fun
  | [d1, d2] => { results := [.lit (.bool false)], args := [d1, d2] }
  | _ => none }
def PlanVerifiesWrongFalsely : Prop := planVerifiesRow.holds Tryz.pinned (OpenSpec.ofChange planVerifiesWrong)

/-- 'armadalaw10.PlanChoice': WHATEVER THE INPUT: true; the input reads as it did. -/
def planChoiceSpec : ChangeSpec := { name := "planChoice", fn := fun _ => fun
  | [d1, d2, d3] => { results := [.lit (.bool true)], args := [d1, d2, d3] }
  | _ => none }
def planChoiceRow : OpenClaim := { program := "ytgdbclgcbbbenaagreat", sum := "03345f45c44e8608380d497325c32f245b6530ac442f8d108d7bef973d6ab2e5", func := "armada/armadalaw10.PlanChoice", spec := "planChoice", unfollowed := true, recurses := true, plainKeys := false, apart := false }
def PlanChoiceSaid : Prop := planChoiceRow.holds Tryz.pinned (OpenSpec.ofChange planChoiceSpec)

/-- ITS FALSE NEIGHBOUR: 'it returns false'. Refute it at one input. -/
def planChoiceWrong : ChangeSpec := { name := "planChoice", fn := fun _ => fun
  | [d1, d2, d3] => { results := [.lit (.bool false)], args := [d1, d2, d3] }
  | _ => none }
def PlanChoiceWrongFalsely : Prop := planChoiceRow.holds Tryz.pinned (OpenSpec.ofChange planChoiceWrong)

/-- 'armadalaw10.PlanKnown': WHATEVER THE INPUT: true; the input reads as it did. -/
def planKnownSpec : ChangeSpec := { name := "planKnown", fn := fun _ => fun
  | [] => { results := [.lit (.bool true)], args := [] }
  | _ => none }
def planKnownRow : OpenClaim := { program := "ytgdbclgcbbbenaagreat", sum := "03345f45c44e8608380d497325c32f245b6530ac442f8d108d7bef973d6ab2e5", func := "armada/armadalaw10.PlanKnown", spec := "planKnown", unfollowed := true, recurses := true, plainKeys := false, apart := false }
def PlanKnownSaid : Prop := planKnownRow.holds Tryz.pinned (OpenSpec.ofChange planKnownSpec)

/-- ITS FALSE NEIGHBOUR: 'it returns false'. Refute it at one input. -/
def planKnownWrong : ChangeSpec := { name := "planKnown", fn := fun _ => fun
  | [] => { results := [.lit (.bool false)], args := [] }
  | _ => none }
def PlanKnownWrongFalsely : Prop := planKnownRow.holds Tryz.pinned (OpenSpec.ofChange planKnownWrong)

/- THE SECOND FORM. 'bulk': how many values and letters a reading holds, each counted each time it is reached (what is shared counts as often as it is met; a slice's spare places count too). A statement '..UptoSaid' is the law's where the arguments, and the package variables that the reading takes, are together of bulk at most 1048576: NARROWER than '..Said'. Prove '..Said' where nothing that the law and all that it calls make is longer than what came in: it says more and counts as full. Else prove '..UptoSaid'. A law counts once. -/
mutual
def uptoBulk {H : Type} : DataW H → Nat
  | .lit (.string bytes) => bytes.length + 1
  | .lit _ => 1
  | .nil => 1
  | .ptr d => uptoBulk d + 1
  | .slice elems spare => uptoBulkAll elems + uptoBulkAll spare + 1
  | .agg parts => uptoBulkAll parts + 1
  | .iface _ d => uptoBulk d + 1
  | .map entries => uptoBulkEntries entries + 1
  | .held _ => 1
def uptoBulkAll {H : Type} : List (DataW H) → Nat
  | [] => 0
  | d :: r => uptoBulk d + uptoBulkAll r
def uptoBulkEntries {H : Type} : List (Lit × DataW H) → Nat
  | [] => 0
  | x :: r => uptoBulkEntry x + uptoBulkEntries r
def uptoBulkEntry {H : Type} : Lit × DataW H → Nat
  | (.string bytes, d) => bytes.length + uptoBulk d + 1
  | (_, d) => uptoBulk d + 1
 end
def uptoSmall : (H : Type) → List (DataW H) → Bool := fun _ ds => decide (uptoBulkAll ds ≤ 1048576)
def OpenSpec.upto (s : _root_.Go.ChangeSpec) : _root_.Go.OpenSpec := { _root_.Go.OpenSpec.ofChange s with cond := some uptoSmall }

/-- 'armadalaw10.PlanMeasures', WHERE WHAT IT READS IS OF BULK AT MOST 1048576: true; the input reads as it did. -/
def planMeasuresUptoRow : OpenClaim := { program := "ytgdbclgcbbbenaagreat", sum := "03345f45c44e8608380d497325c32f245b6530ac442f8d108d7bef973d6ab2e5", func := "armada/armadalaw10.PlanMeasures", spec := "planMeasures", unfollowed := true, recurses := true, plainKeys := false, apart := false, narrowed := true }
def PlanMeasuresUptoSaid : Prop := planMeasuresUptoRow.holds Tryz.pinned (OpenSpec.upto planMeasuresSpec)

/-- 'armadalaw10.PlanSums', WHERE WHAT IT READS IS OF BULK AT MOST 1048576: true; the input reads as it did. -/
def planSumsUptoRow : OpenClaim := { program := "ytgdbclgcbbbenaagreat", sum := "03345f45c44e8608380d497325c32f245b6530ac442f8d108d7bef973d6ab2e5", func := "armada/armadalaw10.PlanSums", spec := "planSums", unfollowed := true, recurses := true, plainKeys := false, apart := false, narrowed := true }
def PlanSumsUptoSaid : Prop := planSumsUptoRow.holds Tryz.pinned (OpenSpec.upto planSumsSpec)

/-- 'armadalaw10.PlanNeeds', WHERE WHAT IT READS IS OF BULK AT MOST 1048576: true; the input reads as it did. -/
def planNeedsUptoRow : OpenClaim := { program := "ytgdbclgcbbbenaagreat", sum := "03345f45c44e8608380d497325c32f245b6530ac442f8d108d7bef973d6ab2e5", func := "armada/armadalaw10.PlanNeeds", spec := "planNeeds", unfollowed := true, recurses := true, plainKeys := false, apart := false, narrowed := true }
def PlanNeedsUptoSaid : Prop := planNeedsUptoRow.holds Tryz.pinned (OpenSpec.upto planNeedsSpec)

/-- 'armadalaw10.PlanBounds', WHERE WHAT IT READS IS OF BULK AT MOST 1048576: true; the input reads as it did. -/
def planBoundsUptoRow : OpenClaim := { program := "ytgdbclgcbbbenaagreat", sum := "03345f45c44e8608380d497325c32f245b6530ac442f8d108d7bef973d6ab2e5", func := "armada/armadalaw10.PlanBounds", spec := "planBounds", unfollowed := true, recurses := true, plainKeys := false, apart := false, narrowed := true }
def PlanBoundsUptoSaid : Prop := planBoundsUptoRow.holds Tryz.pinned (OpenSpec.upto planBoundsSpec)

/-- 'armadalaw10.PlanPrices', WHERE WHAT IT READS IS OF BULK AT MOST 1048576: true; the input reads as it did. -/
def planPricesUptoRow : OpenClaim := { program := "ytgdbclgcbbbenaagreat", sum := "03345f45c44e8608380d497325c32f245b6530ac442f8d108d7bef973d6ab2e5", func := "armada/armadalaw10.PlanPrices", spec := "planPrices", unfollowed := true, recurses := true, plainKeys := false, apart := false, narrowed := true }
def PlanPricesUptoSaid : Prop := planPricesUptoRow.holds Tryz.pinned (OpenSpec.upto planPricesSpec)

/-- 'armadalaw10.PlanChecks', WHERE WHAT IT READS IS OF BULK AT MOST 1048576: true; the input reads as it did. -/
def planChecksUptoRow : OpenClaim := { program := "ytgdbclgcbbbenaagreat", sum := "03345f45c44e8608380d497325c32f245b6530ac442f8d108d7bef973d6ab2e5", func := "armada/armadalaw10.PlanChecks", spec := "planChecks", unfollowed := true, recurses := true, plainKeys := false, apart := false, narrowed := true }
def PlanChecksUptoSaid : Prop := planChecksUptoRow.holds Tryz.pinned (OpenSpec.upto planChecksSpec)

/-- 'armadalaw10.PlanVerifies', WHERE WHAT IT READS IS OF BULK AT MOST 1048576: true; the input reads as it did. -/
def planVerifiesUptoRow : OpenClaim := { program := "ytgdbclgcbbbenaagreat", sum := "03345f45c44e8608380d497325c32f245b6530ac442f8d108d7bef973d6ab2e5", func := "armada/armadalaw10.PlanVerifies", spec := "planVerifies", unfollowed := true, recurses := true, plainKeys := false, apart := false, narrowed := true }
def PlanVerifiesUptoSaid : Prop := planVerifiesUptoRow.holds Tryz.pinned (OpenSpec.upto planVerifiesSpec)

/-- 'armadalaw10.PlanChoice', WHERE WHAT IT READS IS OF BULK AT MOST 1048576: true; the input reads as it did. -/
def planChoiceUptoRow : OpenClaim := { program := "ytgdbclgcbbbenaagreat", sum := "03345f45c44e8608380d497325c32f245b6530ac442f8d108d7bef973d6ab2e5", func := "armada/armadalaw10.PlanChoice", spec := "planChoice", unfollowed := true, recurses := true, plainKeys := false, apart := false, narrowed := true }
def PlanChoiceUptoSaid : Prop := planChoiceUptoRow.holds Tryz.pinned (OpenSpec.upto planChoiceSpec)

/-- 'armadalaw10.PlanKnown', WHERE WHAT IT READS IS OF BULK AT MOST 1048576: true; the input reads as it did. -/
def planKnownUptoRow : OpenClaim := { program := "ytgdbclgcbbbenaagreat", sum := "03345f45c44e8608380d497325c32f245b6530ac442f8d108d7bef973d6ab2e5", func := "armada/armadalaw10.PlanKnown", spec := "planKnown", unfollowed := true, recurses := true, plainKeys := false, apart := false, narrowed := true }
def PlanKnownUptoSaid : Prop := planKnownUptoRow.holds Tryz.pinned (OpenSpec.upto planKnownSpec)

end Rows
end Go.Proofs.YtgdbclgcbbbenaaGreat
