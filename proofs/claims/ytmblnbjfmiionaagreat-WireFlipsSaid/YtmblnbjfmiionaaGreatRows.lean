/-
  No cell of these rows narrows 'for every input' (looked for: loops, veiled, ifaces, maps, wideKeys, modest, calm, conditions, laid).
  DERIVED. THE GIVEN ROWS OF THIS SEAT. 8 by the template 'for every input the law returns true; each argument reads behind the call as it read before'; 0 by the template 'total and deterministic' (their statements: YtmblnbjfmiionaaGreatTotals.lean).
  GIVEN WITH THE SEED: the statements are not yours to turn. If you find one false, say at which input.
  Laid BY PROGRAM, IN A SANDBOX (cutbox-rows.mjs): the forced cells as the released guide's own fill.sh prints them over the translation 31c0137d9698a515… (all of the seat's roots in one cut). By AI agents, Wed Nov 11 2026. No macro, syntax, notation, axiom, sorry.
-/
import Derived.Test.YtmblnbjfmiionaaGreatChecked
import GoSem.Claim
import GoSem.ClaimJoined
import GoSem.ClaimMapViews
import Derived.JoinedTies
import Derived.KernelRfl
namespace Go.Proofs.YtmblnbjfmiionaaGreat
/- THE CELL 'sum', in the pinned program and in every row, IS THE sha256 OF THE DUMP (.gsa) THAT YtmblnbjfmiionaaGreatProg.lean LOADS. Nothing in Lean hashes anything: it is a label: what it is worth is what the hold of that sum in a sandbox is worth. -/
noncomputable def Tryz.pinned : Pinned := { name := "ytmblnbjfmiionaagreat", sum := "31c0137d9698a515b278871e87e134da882b3717eb3e9310981bf4389e8c87e9", checked := Tryz.checked }
namespace Rows
def none {H : Type} : Left H := { results := [], args := [] }

/-- 'armadalaw05.WireSums': WHATEVER THE INPUT: true; the input reads as it did. -/
def wireSumsSpec : ChangeSpec := { name := "wireSums", fn := fun _ => fun
  | [d] => { results := [.lit (.bool true)], args := [d] }
  | _ => none }
def wireSumsRow : OpenClaim := { program := "ytmblnbjfmiionaagreat", sum := "31c0137d9698a515b278871e87e134da882b3717eb3e9310981bf4389e8c87e9", func := "armada/armadalaw05.WireSums", spec := "wireSums", unfollowed := true, recurses := true, plainKeys := false, apart := false }
def WireSumsSaid : Prop := wireSumsRow.holds Tryz.pinned (OpenSpec.ofChange wireSumsSpec)

/-- ITS FALSE NEIGHBOUR: 'it returns false'. Refute it at one input. -/
def wireSumsWrong : ChangeSpec := { name := "wireSums", fn := fun _ => fun
  | [d] => { results := [.lit (.bool false)], args := [d] }
  | _ => none }
def WireSumsWrongFalsely : Prop := wireSumsRow.holds Tryz.pinned (OpenSpec.ofChange wireSumsWrong)

/-- 'armadalaw05.WireChecks': WHATEVER THE INPUT: true; the input reads as it did. -/
def wireChecksSpec : ChangeSpec := { name := "wireChecks", fn := fun _ => fun
  | [d] => { results := [.lit (.bool true)], args := [d] }
  | _ => none }
def wireChecksRow : OpenClaim := { program := "ytmblnbjfmiionaagreat", sum := "31c0137d9698a515b278871e87e134da882b3717eb3e9310981bf4389e8c87e9", func := "armada/armadalaw05.WireChecks", spec := "wireChecks", unfollowed := true, recurses := true, plainKeys := false, apart := false }
def WireChecksSaid : Prop := wireChecksRow.holds Tryz.pinned (OpenSpec.ofChange wireChecksSpec)

/-- ITS FALSE NEIGHBOUR: 'it returns false'. Refute it at one input. -/
def wireChecksWrong : ChangeSpec := { name := "wireChecks", fn := fun _ => fun
  | [d] => { results := [.lit (.bool false)], args := [d] }
  | _ => none }
def WireChecksWrongFalsely : Prop := wireChecksRow.holds Tryz.pinned (OpenSpec.ofChange wireChecksWrong)

/-- 'armadalaw05.WireKeeps': WHATEVER THE INPUT: true; the input reads as it did. -/
def wireKeepsSpec : ChangeSpec := { name := "wireKeeps", fn := fun _ => fun
  | [d1, d2, d3] => { results := [.lit (.bool true)], args := [d1, d2, d3] }
  | _ => none }
def wireKeepsRow : OpenClaim := { program := "ytmblnbjfmiionaagreat", sum := "31c0137d9698a515b278871e87e134da882b3717eb3e9310981bf4389e8c87e9", func := "armada/armadalaw05.WireKeeps", spec := "wireKeeps", unfollowed := true, recurses := true, plainKeys := false, apart := false }
def WireKeepsSaid : Prop := wireKeepsRow.holds Tryz.pinned (OpenSpec.ofChange wireKeepsSpec)

/-- ITS FALSE NEIGHBOUR: 'it returns false'. Refute it at one input. -/
def wireKeepsWrong : ChangeSpec := { name := "wireKeeps", fn := fun _ => fun
  | [d1, d2, d3] => { results := [.lit (.bool false)], args := [d1, d2, d3] }
  | _ => none }
def WireKeepsWrongFalsely : Prop := wireKeepsRow.holds Tryz.pinned (OpenSpec.ofChange wireKeepsWrong)

/-- 'armadalaw05.WireFlips': WHATEVER THE INPUT: true; the input reads as it did. -/
def wireFlipsSpec : ChangeSpec := { name := "wireFlips", fn := fun _ => fun
  | [d1, d2, d3] => { results := [.lit (.bool true)], args := [d1, d2, d3] }
  | _ => none }
def wireFlipsRow : OpenClaim := { program := "ytmblnbjfmiionaagreat", sum := "31c0137d9698a515b278871e87e134da882b3717eb3e9310981bf4389e8c87e9", func := "armada/armadalaw05.WireFlips", spec := "wireFlips", unfollowed := true, recurses := true, plainKeys := false, apart := false }
def WireFlipsSaid : Prop := wireFlipsRow.holds Tryz.pinned (OpenSpec.ofChange wireFlipsSpec)

/-- ITS FALSE NEIGHBOUR: 'it returns false'. Refute it at one input. -/
def wireFlipsWrong : ChangeSpec := { name := "wireFlips", fn := fun _ => fun
  | [d1, d2, d3] => { results := [.lit (.bool false)], args := [d1, d2, d3] }
  | _ => none }
def WireFlipsWrongFalsely : Prop := wireFlipsRow.holds Tryz.pinned (OpenSpec.ofChange wireFlipsWrong)

/-- 'armadalaw05.WireProgress': WHATEVER THE INPUT: true; the input reads as it did. -/
def wireProgressSpec : ChangeSpec := { name := "wireProgress", fn := fun _ => fun
  | [d1, d2] => { results := [.lit (.bool true)], args := [d1, d2] }
  | _ => none }
def wireProgressRow : OpenClaim := { program := "ytmblnbjfmiionaagreat", sum := "31c0137d9698a515b278871e87e134da882b3717eb3e9310981bf4389e8c87e9", func := "armada/armadalaw05.WireProgress", spec := "wireProgress", unfollowed := true, recurses := true, plainKeys := false, apart := false }
def WireProgressSaid : Prop := wireProgressRow.holds Tryz.pinned (OpenSpec.ofChange wireProgressSpec)

/-- ITS FALSE NEIGHBOUR: 'it returns false'. Refute it at one input. -/
def wireProgressWrong : ChangeSpec := { name := "wireProgress", fn := fun _ => fun
  | [d1, d2] => { results := [.lit (.bool false)], args := [d1, d2] }
  | _ => none }
def WireProgressWrongFalsely : Prop := wireProgressRow.holds Tryz.pinned (OpenSpec.ofChange wireProgressWrong)

/-- 'armadalaw05.WirePrefix': WHATEVER THE INPUT: true; the input reads as it did. -/
def wirePrefixSpec : ChangeSpec := { name := "wirePrefix", fn := fun _ => fun
  | [d1, d2, d3, d4] => { results := [.lit (.bool true)], args := [d1, d2, d3, d4] }
  | _ => none }
def wirePrefixRow : OpenClaim := { program := "ytmblnbjfmiionaagreat", sum := "31c0137d9698a515b278871e87e134da882b3717eb3e9310981bf4389e8c87e9", func := "armada/armadalaw05.WirePrefix", spec := "wirePrefix", unfollowed := true, recurses := true, plainKeys := false, apart := false }
def WirePrefixSaid : Prop := wirePrefixRow.holds Tryz.pinned (OpenSpec.ofChange wirePrefixSpec)

/-- ITS FALSE NEIGHBOUR: 'it returns false'. Refute it at one input. -/
def wirePrefixWrong : ChangeSpec := { name := "wirePrefix", fn := fun _ => fun
  | [d1, d2, d3, d4] => { results := [.lit (.bool false)], args := [d1, d2, d3, d4] }
  | _ => none }
def WirePrefixWrongFalsely : Prop := wirePrefixRow.holds Tryz.pinned (OpenSpec.ofChange wirePrefixWrong)

/-- 'armadalaw05.WireKnown': WHATEVER THE INPUT: true; the input reads as it did. -/
def wireKnownSpec : ChangeSpec := { name := "wireKnown", fn := fun _ => fun
  | [] => { results := [.lit (.bool true)], args := [] }
  | _ => none }
def wireKnownRow : OpenClaim := { program := "ytmblnbjfmiionaagreat", sum := "31c0137d9698a515b278871e87e134da882b3717eb3e9310981bf4389e8c87e9", func := "armada/armadalaw05.WireKnown", spec := "wireKnown", unfollowed := true, recurses := true, plainKeys := false, apart := false }
def WireKnownSaid : Prop := wireKnownRow.holds Tryz.pinned (OpenSpec.ofChange wireKnownSpec)

/-- ITS FALSE NEIGHBOUR: 'it returns false'. Refute it at one input. -/
def wireKnownWrong : ChangeSpec := { name := "wireKnown", fn := fun _ => fun
  | [] => { results := [.lit (.bool false)], args := [] }
  | _ => none }
def WireKnownWrongFalsely : Prop := wireKnownRow.holds Tryz.pinned (OpenSpec.ofChange wireKnownWrong)

/-- 'armadalaw05.WireArrives': WHATEVER THE INPUT: true; the input reads as it did. -/
def wireArrivesSpec : ChangeSpec := { name := "wireArrives", fn := fun _ => fun
  | [d1, d2, d3] => { results := [.lit (.bool true)], args := [d1, d2, d3] }
  | _ => none }
def wireArrivesRow : OpenClaim := { program := "ytmblnbjfmiionaagreat", sum := "31c0137d9698a515b278871e87e134da882b3717eb3e9310981bf4389e8c87e9", func := "armada/armadalaw05.WireArrives", spec := "wireArrives", unfollowed := true, recurses := true, plainKeys := false, apart := false }
def WireArrivesSaid : Prop := wireArrivesRow.holds Tryz.pinned (OpenSpec.ofChange wireArrivesSpec)

/-- ITS FALSE NEIGHBOUR: 'it returns false'. Refute it at one input. -/
def wireArrivesWrong : ChangeSpec := { name := "wireArrives", fn := fun _ => fun
  | [d1, d2, d3] => { results := [.lit (.bool false)], args := [d1, d2, d3] }
  | _ => none }
def WireArrivesWrongFalsely : Prop := wireArrivesRow.holds Tryz.pinned (OpenSpec.ofChange wireArrivesWrong)

/- THE SECOND FORM. 'bulk': how many values and letters a reading holds, each counted each time it is reached (what is shared counts as often as it is met; a slice's spare places count too). A statement '..UptoSaid' is the law's where the arguments, and the package variables that the reading takes, are together of bulk at most 1048576: NARROWER than '..Said'. Prove '..Said' where nothing that the law and all that it calls make is longer than what came in: it says more and counts as full. Else prove '..UptoSaid'. A law counts once. -/
mutual
def uptoBulk {H : Type} : DataW H → Nat
  | .lit (.string bytes) => bytes.length + 1
  | .lit _ => 1
  | .nil => 1
  | .ptr d => uptoBulk d + 1
  | .slice elems spare => uptoBulkAll elems + uptoBulkAll spare + 1
  | .agg parts => uptoBulkAll parts + 1
  | .iface _ d => uptoBulk d + 1
  | .map entries => uptoBulkEntries entries + 1
  | .held _ => 1
def uptoBulkAll {H : Type} : List (DataW H) → Nat
  | [] => 0
  | d :: r => uptoBulk d + uptoBulkAll r
def uptoBulkEntries {H : Type} : List (Lit × DataW H) → Nat
  | [] => 0
  | x :: r => uptoBulkEntry x + uptoBulkEntries r
def uptoBulkEntry {H : Type} : Lit × DataW H → Nat
  | (.string bytes, d) => bytes.length + uptoBulk d + 1
  | (_, d) => uptoBulk d + 1
 end
def uptoSmall : (H : Type) → List (DataW H) → Bool := fun _ ds => decide (uptoBulkAll ds ≤ 1048576)
def OpenSpec.upto (s : _root_.Go.ChangeSpec) : _root_.Go.OpenSpec := { _root_.Go.OpenSpec.ofChange s with cond := some uptoSmall }

/-- 'armadalaw05.WireSums', WHERE WHAT IT READS IS OF BULK AT MOST 1048576: true; the input reads as it did. -/
def wireSumsUptoRow : OpenClaim := { program := "ytmblnbjfmiionaagreat", sum := "31c0137d9698a515b278871e87e134da882b3717eb3e9310981bf4389e8c87e9", func := "armada/armadalaw05.WireSums", spec := "wireSums", unfollowed := true, recurses := true, plainKeys := false, apart := false, narrowed := true }
def WireSumsUptoSaid : Prop := wireSumsUptoRow.holds Tryz.pinned (OpenSpec.upto wireSumsSpec)

/-- 'armadalaw05.WireChecks', WHERE WHAT IT READS IS OF BULK AT MOST 1048576: true; the input reads as it did. -/
def wireChecksUptoRow : OpenClaim := { program := "ytmblnbjfmiionaagreat", sum := "31c0137d9698a515b278871e87e134da882b3717eb3e9310981bf4389e8c87e9", func := "armada/armadalaw05.WireChecks", spec := "wireChecks", unfollowed := true, recurses := true, plainKeys := false, apart := false, narrowed := true }
def WireChecksUptoSaid : Prop := wireChecksUptoRow.holds Tryz.pinned (OpenSpec.upto wireChecksSpec)

/-- 'armadalaw05.WireKeeps', WHERE WHAT IT READS IS OF BULK AT MOST 1048576: true; the input reads as it did. -/
def wireKeepsUptoRow : OpenClaim := { program := "ytmblnbjfmiionaagreat", sum := "31c0137d9698a515b278871e87e134da882b3717eb3e9310981bf4389e8c87e9", func := "armada/armadalaw05.WireKeeps", spec := "wireKeeps", unfollowed := true, recurses := true, plainKeys := false, apart := false, narrowed := true }
def WireKeepsUptoSaid : Prop := wireKeepsUptoRow.holds Tryz.pinned (OpenSpec.upto wireKeepsSpec)

/-- 'armadalaw05.WireFlips', WHERE WHAT IT READS IS OF BULK AT MOST 1048576: true; the input reads as it did. -/
def wireFlipsUptoRow : OpenClaim := { program := "ytmblnbjfmiionaagreat", sum := "31c0137d9698a515b278871e87e134da882b3717eb3e9310981bf4389e8c87e9", func := "armada/armadalaw05.WireFlips", spec := "wireFlips", unfollowed := true, recurses := true, plainKeys := false, apart := false, narrowed := true }
def WireFlipsUptoSaid : Prop := wireFlipsUptoRow.holds Tryz.pinned (OpenSpec.upto wireFlipsSpec)

/-- 'armadalaw05.WireProgress', WHERE WHAT IT READS IS OF BULK AT MOST 1048576: true; the input reads as it did. -/
def wireProgressUptoRow : OpenClaim := { program := "ytmblnbjfmiionaagreat", sum := "31c0137d9698a515b278871e87e134da882b3717eb3e9310981bf4389e8c87e9", func := "armada/armadalaw05.WireProgress", spec := "wireProgress", unfollowed := true, recurses := true, plainKeys := false, apart := false, narrowed := true }
def WireProgressUptoSaid : Prop := wireProgressUptoRow.holds Tryz.pinned (OpenSpec.upto wireProgressSpec)

/-- 'armadalaw05.WirePrefix', WHERE WHAT IT READS IS OF BULK AT MOST 1048576: true; the input reads as it did. -/
def wirePrefixUptoRow : OpenClaim := { program := "ytmblnbjfmiionaagreat", sum := "31c0137d9698a515b278871e87e134da882b3717eb3e9310981bf4389e8c87e9", func := "armada/armadalaw05.WirePrefix", spec := "wirePrefix", unfollowed := true, recurses := true, plainKeys := false, apart := false, narrowed := true }
def WirePrefixUptoSaid : Prop := wirePrefixUptoRow.holds Tryz.pinned (OpenSpec.upto wirePrefixSpec)

/-- 'armadalaw05.WireKnown', WHERE WHAT IT READS IS OF BULK AT MOST 1048576: true; the input reads as it did. -/
def wireKnownUptoRow : OpenClaim := { program := "ytmblnbjfmiionaagreat", sum := "31c0137d9698a515b278871e87e134da882b3717eb3e9310981bf4389e8c87e9", func := "armada/armadalaw05.WireKnown", spec := "wireKnown", unfollowed := true, recurses := true, plainKeys := false, apart := false, narrowed := true }
def WireKnownUptoSaid : Prop := wireKnownUptoRow.holds Tryz.pinned (OpenSpec.upto wireKnownSpec)

/-- 'armadalaw05.WireArrives', WHERE WHAT IT READS IS OF BULK AT MOST 1048576: true; the input reads as it did. -/
def wireArrivesUptoRow : OpenClaim := { program := "ytmblnbjfmiionaagreat", sum := "31c0137d9698a515b278871e87e134da882b3717eb3e9310981bf4389e8c87e9", func := "armada/armadalaw05.WireArrives", spec := "wireArrives", unfollowed := true, recurses := true, plainKeys := false, apart := false, narrowed := true }
def WireArrivesUptoSaid : Prop := wireArrivesUptoRow.holds Tryz.pinned (OpenSpec.upto wireArrivesSpec)

end Rows
end Go.Proofs.YtmblnbjfmiionaaGreat
