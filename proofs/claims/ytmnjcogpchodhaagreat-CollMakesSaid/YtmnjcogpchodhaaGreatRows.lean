/-
  No cell of these rows narrows 'for every input' (looked for: loops, veiled, ifaces, maps, wideKeys, modest, calm, conditions, laid).
  DERIVED. THE GIVEN ROWS OF THIS SEAT. 11 by the template 'for every input the law returns true; each argument reads behind the call as it read before'; 0 by the template 'total and deterministic' (their statements: YtmnjcogpchodhaaGreatTotals.lean).
  GIVEN WITH THE SEED: the statements are not yours to turn. If you find one false, say at which input.
  Laid BY PROGRAM, IN A SANDBOX (cutbox-rows.mjs): the forced cells as the released guide's own fill.sh prints them over the translation 24d11e0c446e87eb… (all of the seat's roots in one cut). By AI agents, Wed Nov 11 2026. No macro, syntax, notation, axiom, sorry.
-/
import Derived.Test.YtmnjcogpchodhaaGreatChecked
import GoSem.Claim
import GoSem.ClaimJoined
import GoSem.ClaimMapViews
import Derived.JoinedTies
import Derived.KernelRfl
namespace Go.Proofs.YtmnjcogpchodhaaGreat
/- THE CELL 'sum', in the pinned program and in every row, IS THE sha256 OF THE DUMP (.gsa) THAT YtmnjcogpchodhaaGreatProg.lean LOADS. Nothing in Lean hashes anything: it is a label: what it is worth is what the hold of that sum in a sandbox is worth. -/
noncomputable def Tryz.pinned : Pinned := { name := "ytmnjcogpchodhaagreat", sum := "24d11e0c446e87ebc4338e532fdcb966c5d35ce1a9f24a04273a08797d5e7bff", checked := Tryz.checked }
namespace Rows
def none {H : Type} : Left H := { results := [], args := [] }

/-- 'armadalaw09.CollMakes': WHATEVER THE INPUT: true; the input reads as it did. -/
def collMakesSpec : ChangeSpec := { name := "collMakes", fn := fun _ => fun
  | [d1, d2] => { results := [.lit (.bool true)], args := [d1, d2] }
  | _ => none }
def collMakesRow : OpenClaim := { program := "ytmnjcogpchodhaagreat", sum := "24d11e0c446e87ebc4338e532fdcb966c5d35ce1a9f24a04273a08797d5e7bff", func := "armada/armadalaw09.CollMakes", spec := "collMakes", inPlace := ["math/bits.Add64"], unfollowed := true, recurses := true, plainKeys := false, apart := false }
def CollMakesSaid : Prop := collMakesRow.holds Tryz.pinned (OpenSpec.ofChange collMakesSpec)

/-- ITS FALSE NEIGHBOUR: 'it returns false'. Refute it at one input. -/
def collMakesWrong : ChangeSpec := { name := "collMakes", fn := fun _ => fun
  | [d1, d2] => { results := [.lit (.bool false)], args := [d1, d2] }
  | _ => none }
def CollMakesWrongFalsely : Prop := collMakesRow.holds Tryz.pinned (OpenSpec.ofChange collMakesWrong)

/-- 'armadalaw09.CollRuns': WHATEVER THE INPUT: true; the input reads as it did. -/
def collRunsSpec : ChangeSpec := { name := "collRuns", fn := fun _ => fun
  | [d1, d2, d3, d4] => { results := [.lit (.bool true)], args := [d1, d2, d3, d4] }
  | _ => none }
def collRunsRow : OpenClaim := { program := "ytmnjcogpchodhaagreat", sum := "24d11e0c446e87ebc4338e532fdcb966c5d35ce1a9f24a04273a08797d5e7bff", func := "armada/armadalaw09.CollRuns", spec := "collRuns", inPlace := ["math/bits.Add64"], unfollowed := true, recurses := true, plainKeys := false, apart := false }
def CollRunsSaid : Prop := collRunsRow.holds Tryz.pinned (OpenSpec.ofChange collRunsSpec)

/-- ITS FALSE NEIGHBOUR: 'it returns false'. Refute it at one input. -/
def collRunsWrong : ChangeSpec := { name := "collRuns", fn := fun _ => fun
  | [d1, d2, d3, d4] => { results := [.lit (.bool false)], args := [d1, d2, d3, d4] }
  | _ => none }
def CollRunsWrongFalsely : Prop := collRunsRow.holds Tryz.pinned (OpenSpec.ofChange collRunsWrong)

/-- 'armadalaw09.CollNeeds': WHATEVER THE INPUT: true; the input reads as it did. -/
def collNeedsSpec : ChangeSpec := { name := "collNeeds", fn := fun _ => fun
  | [d1, d2, d3] => { results := [.lit (.bool true)], args := [d1, d2, d3] }
  | _ => none }
def collNeedsRow : OpenClaim := { program := "ytmnjcogpchodhaagreat", sum := "24d11e0c446e87ebc4338e532fdcb966c5d35ce1a9f24a04273a08797d5e7bff", func := "armada/armadalaw09.CollNeeds", spec := "collNeeds", inPlace := ["math/bits.Add64"], unfollowed := true, recurses := true, plainKeys := false, apart := false }
def CollNeedsSaid : Prop := collNeedsRow.holds Tryz.pinned (OpenSpec.ofChange collNeedsSpec)

/-- ITS FALSE NEIGHBOUR: 'it returns false'. Refute it at one input. -/
def collNeedsWrong : ChangeSpec := { name := "collNeeds", fn := fun _ => fun
  | [d1, d2, d3] => { results := [.lit (.bool false)], args := [d1, d2, d3] }
  | _ => none }
def CollNeedsWrongFalsely : Prop := collNeedsRow.holds Tryz.pinned (OpenSpec.ofChange collNeedsWrong)

/-- 'armadalaw09.CollSounds': WHATEVER THE INPUT: true; the input reads as it did. -/
def collSoundsSpec : ChangeSpec := { name := "collSounds", fn := fun _ => fun
  | [d] => { results := [.lit (.bool true)], args := [d] }
  | _ => none }
def collSoundsRow : OpenClaim := { program := "ytmnjcogpchodhaagreat", sum := "24d11e0c446e87ebc4338e532fdcb966c5d35ce1a9f24a04273a08797d5e7bff", func := "armada/armadalaw09.CollSounds", spec := "collSounds", inPlace := ["math/bits.Add64"], unfollowed := true, recurses := true, plainKeys := false, apart := false }
def CollSoundsSaid : Prop := collSoundsRow.holds Tryz.pinned (OpenSpec.ofChange collSoundsSpec)

/-- ITS FALSE NEIGHBOUR: 'it returns false'. Refute it at one input. -/
def collSoundsWrong : ChangeSpec := { name := "collSounds", fn := fun _ => fun
  | [d] => { results := [.lit (.bool false)], args := [d] }
  | _ => none }
def CollSoundsWrongFalsely : Prop := collSoundsRow.holds Tryz.pinned (OpenSpec.ofChange collSoundsWrong)

/-- 'armadalaw09.CollRight': WHATEVER THE INPUT: true; the input reads as it did. -/
def collRightSpec : ChangeSpec := { name := "collRight", fn := fun _ => fun
  | [d] => { results := [.lit (.bool true)], args := [d] }
  | _ => none }
def collRightRow : OpenClaim := { program := "ytmnjcogpchodhaagreat", sum := "24d11e0c446e87ebc4338e532fdcb966c5d35ce1a9f24a04273a08797d5e7bff", func := "armada/armadalaw09.CollRight", spec := "collRight", inPlace := ["math/bits.Add64"], unfollowed := true, recurses := true, plainKeys := false, apart := false }
def CollRightSaid : Prop := collRightRow.holds Tryz.pinned (OpenSpec.ofChange collRightSpec)

/-- ITS FALSE NEIGHBOUR: 'it returns false'. Refute it at one input. -/
def collRightWrong : ChangeSpec := { name := "collRight", fn := fun _ => fun
  | [d] => { results := [.lit (.bool false)], args := [d] }
  | _ => none }
def CollRightWrongFalsely : Prop := collRightRow.holds Tryz.pinned (OpenSpec.ofChange collRightWrong)

/-- 'armadalaw09.CollRounds': WHATEVER THE INPUT: true; the input reads as it did. -/
def collRoundsSpec : ChangeSpec := { name := "collRounds", fn := fun _ => fun
  | [d] => { results := [.lit (.bool true)], args := [d] }
  | _ => none }
def collRoundsRow : OpenClaim := { program := "ytmnjcogpchodhaagreat", sum := "24d11e0c446e87ebc4338e532fdcb966c5d35ce1a9f24a04273a08797d5e7bff", func := "armada/armadalaw09.CollRounds", spec := "collRounds", inPlace := ["math/bits.Add64"], unfollowed := true, recurses := true, plainKeys := false, apart := false }
def CollRoundsSaid : Prop := collRoundsRow.holds Tryz.pinned (OpenSpec.ofChange collRoundsSpec)

/-- ITS FALSE NEIGHBOUR: 'it returns false'. Refute it at one input. -/
def collRoundsWrong : ChangeSpec := { name := "collRounds", fn := fun _ => fun
  | [d] => { results := [.lit (.bool false)], args := [d] }
  | _ => none }
def CollRoundsWrongFalsely : Prop := collRoundsRow.holds Tryz.pinned (OpenSpec.ofChange collRoundsWrong)

/-- 'armadalaw09.CollTasks': WHATEVER THE INPUT: true; the input reads as it did. -/
def collTasksSpec : ChangeSpec := { name := "collTasks", fn := fun _ => fun
  | [d1, d2] => { results := [.lit (.bool true)], args := [d1, d2] }
  | _ => none }
def collTasksRow : OpenClaim := { program := "ytmnjcogpchodhaagreat", sum := "24d11e0c446e87ebc4338e532fdcb966c5d35ce1a9f24a04273a08797d5e7bff", func := "armada/armadalaw09.CollTasks", spec := "collTasks", inPlace := ["math/bits.Add64"], unfollowed := true, recurses := true, plainKeys := false, apart := false }
def CollTasksSaid : Prop := collTasksRow.holds Tryz.pinned (OpenSpec.ofChange collTasksSpec)

/-- ITS FALSE NEIGHBOUR: 'it returns false'. Refute it at one input. -/
def collTasksWrong : ChangeSpec := { name := "collTasks", fn := fun _ => fun
  | [d1, d2] => { results := [.lit (.bool false)], args := [d1, d2] }
  | _ => none }
def CollTasksWrongFalsely : Prop := collTasksRow.holds Tryz.pinned (OpenSpec.ofChange collTasksWrong)

/-- 'armadalaw09.CollResults': WHATEVER THE INPUT: true; the input reads as it did. -/
def collResultsSpec : ChangeSpec := { name := "collResults", fn := fun _ => fun
  | [d1, d2, d3, d4] => { results := [.lit (.bool true)], args := [d1, d2, d3, d4] }
  | _ => none }
def collResultsRow : OpenClaim := { program := "ytmnjcogpchodhaagreat", sum := "24d11e0c446e87ebc4338e532fdcb966c5d35ce1a9f24a04273a08797d5e7bff", func := "armada/armadalaw09.CollResults", spec := "collResults", inPlace := ["math/bits.Add64"], unfollowed := true, recurses := true, plainKeys := false, apart := false }
def CollResultsSaid : Prop := collResultsRow.holds Tryz.pinned (OpenSpec.ofChange collResultsSpec)

/-- ITS FALSE NEIGHBOUR: 'it returns false'. Refute it at one input. -/
def collResultsWrong : ChangeSpec := { name := "collResults", fn := fun _ => fun
  | [d1, d2, d3, d4] => { results := [.lit (.bool false)], args := [d1, d2, d3, d4] }
  | _ => none }
def CollResultsWrongFalsely : Prop := collResultsRow.holds Tryz.pinned (OpenSpec.ofChange collResultsWrong)

/-- 'armadalaw09.CollAny': WHATEVER THE INPUT: true; the input reads as it did. -/
def collAnySpec : ChangeSpec := { name := "collAny", fn := fun _ => fun
  | [d1, d2] => { results := [.lit (.bool true)], args := [d1, d2] }
  | _ => none }
def collAnyRow : OpenClaim := { program := "ytmnjcogpchodhaagreat", sum := "24d11e0c446e87ebc4338e532fdcb966c5d35ce1a9f24a04273a08797d5e7bff", func := "armada/armadalaw09.CollAny", spec := "collAny", inPlace := ["math/bits.Add64"], unfollowed := true, recurses := true, plainKeys := false, apart := false }
def CollAnySaid : Prop := collAnyRow.holds Tryz.pinned (OpenSpec.ofChange collAnySpec)

/-- ITS FALSE NEIGHBOUR: 'it returns false'. Refute it at one input. -/
def collAnyWrong : ChangeSpec := { name := "collAny", fn := fun _ => fun
  | [d1, d2] => { results := [.lit (.bool false)], args := [d1, d2] }
  | _ => none }
def CollAnyWrongFalsely : Prop := collAnyRow.holds Tryz.pinned (OpenSpec.ofChange collAnyWrong)

/-- 'armadalaw09.CollTraces': WHATEVER THE INPUT: true; the input reads as it did. -/
def collTracesSpec : ChangeSpec := { name := "collTraces", fn := fun _ => fun
  | [d] => { results := [.lit (.bool true)], args := [d] }
  | _ => none }
def collTracesRow : OpenClaim := { program := "ytmnjcogpchodhaagreat", sum := "24d11e0c446e87ebc4338e532fdcb966c5d35ce1a9f24a04273a08797d5e7bff", func := "armada/armadalaw09.CollTraces", spec := "collTraces", inPlace := ["math/bits.Add64"], unfollowed := true, recurses := true, plainKeys := false, apart := false }
def CollTracesSaid : Prop := collTracesRow.holds Tryz.pinned (OpenSpec.ofChange collTracesSpec)

/-- ITS FALSE NEIGHBOUR: 'it returns false'. Refute it at one input. -/
def collTracesWrong : ChangeSpec := { name := "collTraces", fn := fun _ => fun
  | [d] => { results := [.lit (.bool false)], args := [d] }
  | _ => none }
def CollTracesWrongFalsely : Prop := collTracesRow.holds Tryz.pinned (OpenSpec.ofChange collTracesWrong)

/-- 'armadalaw09.CollKnown': WHATEVER THE INPUT: true; the input reads as it did. -/
def collKnownSpec : ChangeSpec := { name := "collKnown", fn := fun _ => fun
  | [] => { results := [.lit (.bool true)], args := [] }
  | _ => none }
def collKnownRow : OpenClaim := { program := "ytmnjcogpchodhaagreat", sum := "24d11e0c446e87ebc4338e532fdcb966c5d35ce1a9f24a04273a08797d5e7bff", func := "armada/armadalaw09.CollKnown", spec := "collKnown", inPlace := ["math/bits.Add64"], unfollowed := true, recurses := true, plainKeys := false, apart := false }
def CollKnownSaid : Prop := collKnownRow.holds Tryz.pinned (OpenSpec.ofChange collKnownSpec)

/-- ITS FALSE NEIGHBOUR: 'it returns false'. Refute it at one input. -/
def collKnownWrong : ChangeSpec := { name := "collKnown", fn := fun _ => fun
  | [] => { results := [.lit (.bool false)], args := [] }
  | _ => none }
def CollKnownWrongFalsely : Prop := collKnownRow.holds Tryz.pinned (OpenSpec.ofChange collKnownWrong)

/- THE SECOND FORM. 'bulk': how many values and letters a reading holds, each counted each time it is reached (what is shared counts as often as it is met; a slice's spare places count too). A statement '..UptoSaid' is the law's where the arguments, and the package variables that the reading takes, are together of bulk at most 1048576: NARROWER than '..Said'. Prove '..Said' where nothing that the law and all that it calls make is longer than what came in: it says more and counts as full. Else prove '..UptoSaid'. A law counts once. -/
mutual
def uptoBulk {H : Type} : DataW H → Nat
  | .lit (.string bytes) => bytes.length + 1
  | .lit _ => 1
  | .nil => 1
  | .ptr d => uptoBulk d + 1
  | .slice elems spare => uptoBulkAll elems + uptoBulkAll spare + 1
  | .agg parts => uptoBulkAll parts + 1
  | .iface _ d => uptoBulk d + 1
  | .map entries => uptoBulkEntries entries + 1
  | .held _ => 1
def uptoBulkAll {H : Type} : List (DataW H) → Nat
  | [] => 0
  | d :: r => uptoBulk d + uptoBulkAll r
def uptoBulkEntries {H : Type} : List (Lit × DataW H) → Nat
  | [] => 0
  | x :: r => uptoBulkEntry x + uptoBulkEntries r
def uptoBulkEntry {H : Type} : Lit × DataW H → Nat
  | (.string bytes, d) => bytes.length + uptoBulk d + 1
  | (_, d) => uptoBulk d + 1
 end
def uptoSmall : (H : Type) → List (DataW H) → Bool := fun _ ds => decide (uptoBulkAll ds ≤ 1048576)
def OpenSpec.upto (s : _root_.Go.ChangeSpec) : _root_.Go.OpenSpec := { _root_.Go.OpenSpec.ofChange s with cond := some uptoSmall }

/-- 'armadalaw09.CollMakes', WHERE WHAT IT READS IS OF BULK AT MOST 1048576: true; the input reads as it did. -/
def collMakesUptoRow : OpenClaim := { program := "ytmnjcogpchodhaagreat", sum := "24d11e0c446e87ebc4338e532fdcb966c5d35ce1a9f24a04273a08797d5e7bff", func := "armada/armadalaw09.CollMakes", spec := "collMakes", inPlace := ["math/bits.Add64"], unfollowed := true, recurses := true, plainKeys := false, apart := false, narrowed := true }
def CollMakesUptoSaid : Prop := collMakesUptoRow.holds Tryz.pinned (OpenSpec.upto collMakesSpec)

/-- 'armadalaw09.CollRuns', WHERE WHAT IT READS IS OF BULK AT MOST 1048576: true; the input reads as it did. -/
def collRunsUptoRow : OpenClaim := { program := "ytmnjcogpchodhaagreat", sum := "24d11e0c446e87ebc4338e532fdcb966c5d35ce1a9f24a04273a08797d5e7bff", func := "armada/armadalaw09.CollRuns", spec := "collRuns", inPlace := ["math/bits.Add64"], unfollowed := true, recurses := true, plainKeys := false, apart := false, narrowed := true }
def CollRunsUptoSaid : Prop := collRunsUptoRow.holds Tryz.pinned (OpenSpec.upto collRunsSpec)

/-- 'armadalaw09.CollNeeds', WHERE WHAT IT READS IS OF BULK AT MOST 1048576: true; the input reads as it did. -/
def collNeedsUptoRow : OpenClaim := { program := "ytmnjcogpchodhaagreat", sum := "24d11e0c446e87ebc4338e532fdcb966c5d35ce1a9f24a04273a08797d5e7bff", func := "armada/armadalaw09.CollNeeds", spec := "collNeeds", inPlace := ["math/bits.Add64"], unfollowed := true, recurses := true, plainKeys := false, apart := false, narrowed := true }
def CollNeedsUptoSaid : Prop := collNeedsUptoRow.holds Tryz.pinned (OpenSpec.upto collNeedsSpec)

/-- 'armadalaw09.CollSounds', WHERE WHAT IT READS IS OF BULK AT MOST 1048576: true; the input reads as it did. -/
def collSoundsUptoRow : OpenClaim := { program := "ytmnjcogpchodhaagreat", sum := "24d11e0c446e87ebc4338e532fdcb966c5d35ce1a9f24a04273a08797d5e7bff", func := "armada/armadalaw09.CollSounds", spec := "collSounds", inPlace := ["math/bits.Add64"], unfollowed := true, recurses := true, plainKeys := false, apart := false, narrowed := true }
def CollSoundsUptoSaid : Prop := collSoundsUptoRow.holds Tryz.pinned (OpenSpec.upto collSoundsSpec)

/-- 'armadalaw09.CollRight', WHERE WHAT IT READS IS OF BULK AT MOST 1048576: true; the input reads as it did. -/
def collRightUptoRow : OpenClaim := { program := "ytmnjcogpchodhaagreat", sum := "24d11e0c446e87ebc4338e532fdcb966c5d35ce1a9f24a04273a08797d5e7bff", func := "armada/armadalaw09.CollRight", spec := "collRight", inPlace := ["math/bits.Add64"], unfollowed := true, recurses := true, plainKeys := false, apart := false, narrowed := true }
def CollRightUptoSaid : Prop := collRightUptoRow.holds Tryz.pinned (OpenSpec.upto collRightSpec)

/-- 'armadalaw09.CollRounds', WHERE WHAT IT READS IS OF BULK AT MOST 1048576: true; the input reads as it did. -/
def collRoundsUptoRow : OpenClaim := { program := "ytmnjcogpchodhaagreat", sum := "24d11e0c446e87ebc4338e532fdcb966c5d35ce1a9f24a04273a08797d5e7bff", func := "armada/armadalaw09.CollRounds", spec := "collRounds", inPlace := ["math/bits.Add64"], unfollowed := true, recurses := true, plainKeys := false, apart := false, narrowed := true }
def CollRoundsUptoSaid : Prop := collRoundsUptoRow.holds Tryz.pinned (OpenSpec.upto collRoundsSpec)

/-- 'armadalaw09.CollTasks', WHERE WHAT IT READS IS OF BULK AT MOST 1048576: true; the input reads as it did. -/
def collTasksUptoRow : OpenClaim := { program := "ytmnjcogpchodhaagreat", sum := "24d11e0c446e87ebc4338e532fdcb966c5d35ce1a9f24a04273a08797d5e7bff", func := "armada/armadalaw09.CollTasks", spec := "collTasks", inPlace := ["math/bits.Add64"], unfollowed := true, recurses := true, plainKeys := false, apart := false, narrowed := true }
def CollTasksUptoSaid : Prop := collTasksUptoRow.holds Tryz.pinned (OpenSpec.upto collTasksSpec)

/-- 'armadalaw09.CollResults', WHERE WHAT IT READS IS OF BULK AT MOST 1048576: true; the input reads as it did. -/
def collResultsUptoRow : OpenClaim := { program := "ytmnjcogpchodhaagreat", sum := "24d11e0c446e87ebc4338e532fdcb966c5d35ce1a9f24a04273a08797d5e7bff", func := "armada/armadalaw09.CollResults", spec := "collResults", inPlace := ["math/bits.Add64"], unfollowed := true, recurses := true, plainKeys := false, apart := false, narrowed := true }
def CollResultsUptoSaid : Prop := collResultsUptoRow.holds Tryz.pinned (OpenSpec.upto collResultsSpec)

/-- 'armadalaw09.CollAny', WHERE WHAT IT READS IS OF BULK AT MOST 1048576: true; the input reads as it did. -/
def collAnyUptoRow : OpenClaim := { program := "ytmnjcogpchodhaagreat", sum := "24d11e0c446e87ebc4338e532fdcb966c5d35ce1a9f24a04273a08797d5e7bff", func := "armada/armadalaw09.CollAny", spec := "collAny", inPlace := ["math/bits.Add64"], unfollowed := true, recurses := true, plainKeys := false, apart := false, narrowed := true }
def CollAnyUptoSaid : Prop := collAnyUptoRow.holds Tryz.pinned (OpenSpec.upto collAnySpec)

/-- 'armadalaw09.CollTraces', WHERE WHAT IT READS IS OF BULK AT MOST 1048576: true; the input reads as it did. -/
def collTracesUptoRow : OpenClaim := { program := "ytmnjcogpchodhaagreat", sum := "24d11e0c446e87ebc4338e532fdcb966c5d35ce1a9f24a04273a08797d5e7bff", func := "armada/armadalaw09.CollTraces", spec := "collTraces", inPlace := ["math/bits.Add64"], unfollowed := true, recurses := true, plainKeys := false, apart := false, narrowed := true }
def CollTracesUptoSaid : Prop := collTracesUptoRow.holds Tryz.pinned (OpenSpec.upto collTracesSpec)

/-- 'armadalaw09.CollKnown', WHERE WHAT IT READS IS OF BULK AT MOST 1048576: true; the input reads as it did. -/
def collKnownUptoRow : OpenClaim := { program := "ytmnjcogpchodhaagreat", sum := "24d11e0c446e87ebc4338e532fdcb966c5d35ce1a9f24a04273a08797d5e7bff", func := "armada/armadalaw09.CollKnown", spec := "collKnown", inPlace := ["math/bits.Add64"], unfollowed := true, recurses := true, plainKeys := false, apart := false, narrowed := true }
def CollKnownUptoSaid : Prop := collKnownUptoRow.holds Tryz.pinned (OpenSpec.upto collKnownSpec)

end Rows
end Go.Proofs.YtmnjcogpchodhaaGreat
