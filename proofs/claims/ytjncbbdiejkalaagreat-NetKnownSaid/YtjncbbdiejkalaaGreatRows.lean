/-
  No cell of these rows narrows 'for every input' (looked for: loops, veiled, ifaces, maps, wideKeys, modest, calm, conditions, laid).
  DERIVED. THE GIVEN ROWS OF THIS SEAT. 4 by the template 'for every input the law returns true; each argument reads behind the call as it read before'; 0 by the template 'total and deterministic' (their statements: YtjncbbdiejkalaaGreatTotals.lean).
  GIVEN WITH THE SEED: the statements are not yours to turn. If you find one false, say at which input.
  Laid BY PROGRAM, IN A SANDBOX (cutbox-rows.mjs): the forced cells as the released guide's own fill.sh prints them over the translation 154c2f6664ef5796… (all of the seat's roots in one cut). By AI agents, Wed Nov 11 2026. No macro, syntax, notation, axiom, sorry.
-/
import Derived.Test.YtjncbbdiejkalaaGreatChecked
import GoSem.Claim
import GoSem.ClaimJoined
import GoSem.ClaimMapViews
import Derived.JoinedTies
import Derived.KernelRfl
namespace Go.Proofs.YtjncbbdiejkalaaGreat
/- THE CELL 'sum', in the pinned program and in every row, IS THE sha256 OF THE DUMP (.gsa) THAT YtjncbbdiejkalaaGreatProg.lean LOADS. Nothing in Lean hashes anything: it is a label: what it is worth is what the hold of that sum in a sandbox is worth. -/
noncomputable def Tryz.pinned : Pinned := { name := "ytjncbbdiejkalaagreat", sum := "154c2f6664ef57966a5c7a4bb74647dcfc49051ce8e9d4869f23a1bc4b291dd9", checked := Tryz.checked }
namespace Rows
def none {H : Type} : Left H := { results := [], args := [] }

/-- 'armadalaw04.NetDistances': WHATEVER THE INPUT: true; the input reads as it did. -/
def netDistancesSpec : ChangeSpec := { name := "netDistances", fn := fun _ => fun
  | [d1, d2, d3] => { results := [.lit (.bool true)], args := [d1, d2, d3] }
  | _ => none }
def netDistancesRow : OpenClaim := { program := "ytjncbbdiejkalaagreat", sum := "154c2f6664ef57966a5c7a4bb74647dcfc49051ce8e9d4869f23a1bc4b291dd9", func := "armada/armadalaw04.NetDistances", spec := "netDistances", unfollowed := true, recurses := true, plainKeys := false, apart := false }
def NetDistancesSaid : Prop := netDistancesRow.holds Tryz.pinned (OpenSpec.ofChange netDistancesSpec)

/-- ITS FALSE NEIGHBOUR: 'it returns false'. Refute it at one input. -/
def netDistancesWrong : ChangeSpec := { name := "netDistances", fn := fun _ => fun
  | [d1, d2, d3] => { results := [.lit (.bool false)], args := [d1, d2, d3] }
  | _ => none }
def NetDistancesWrongFalsely : Prop := netDistancesRow.holds Tryz.pinned (OpenSpec.ofChange netDistancesWrong)

/-- 'armadalaw04.NetDetours': WHATEVER THE INPUT: true; the input reads as it did. -/
def netDetoursSpec : ChangeSpec := { name := "netDetours", fn := fun _ => fun
  | [d1, d2, d3] => { results := [.lit (.bool true)], args := [d1, d2, d3] }
  | _ => none }
def netDetoursRow : OpenClaim := { program := "ytjncbbdiejkalaagreat", sum := "154c2f6664ef57966a5c7a4bb74647dcfc49051ce8e9d4869f23a1bc4b291dd9", func := "armada/armadalaw04.NetDetours", spec := "netDetours", unfollowed := true, recurses := true, plainKeys := false, apart := false }
def NetDetoursSaid : Prop := netDetoursRow.holds Tryz.pinned (OpenSpec.ofChange netDetoursSpec)

/-- ITS FALSE NEIGHBOUR: 'it returns false'. Refute it at one input. -/
def netDetoursWrong : ChangeSpec := { name := "netDetours", fn := fun _ => fun
  | [d1, d2, d3] => { results := [.lit (.bool false)], args := [d1, d2, d3] }
  | _ => none }
def NetDetoursWrongFalsely : Prop := netDetoursRow.holds Tryz.pinned (OpenSpec.ofChange netDetoursWrong)

/-- 'armadalaw04.NetDamage': WHATEVER THE INPUT: true; the input reads as it did. -/
def netDamageSpec : ChangeSpec := { name := "netDamage", fn := fun _ => fun
  | [d1, d2] => { results := [.lit (.bool true)], args := [d1, d2] }
  | _ => none }
def netDamageRow : OpenClaim := { program := "ytjncbbdiejkalaagreat", sum := "154c2f6664ef57966a5c7a4bb74647dcfc49051ce8e9d4869f23a1bc4b291dd9", func := "armada/armadalaw04.NetDamage", spec := "netDamage", inPlace := ["maps.clone"], unfollowed := true, recurses := true, plainKeys := false, apart := false }
def NetDamageSaid : Prop := netDamageRow.holds Tryz.pinned (OpenSpec.ofChange netDamageSpec)

/-- ITS FALSE NEIGHBOUR: 'it returns false'. Refute it at one input. -/
def netDamageWrong : ChangeSpec := { name := "netDamage", fn := fun _ => fun
  | [d1, d2] => { results := [.lit (.bool false)], args := [d1, d2] }
  | _ => none }
def NetDamageWrongFalsely : Prop := netDamageRow.holds Tryz.pinned (OpenSpec.ofChange netDamageWrong)

/-- 'armadalaw04.NetKnown': WHATEVER THE INPUT: true; the input reads as it did. -/
def netKnownSpec : ChangeSpec := { name := "netKnown", fn := fun _ => fun
  | [] => { results := [.lit (.bool true)], args := [] }
  | _ => none }
def netKnownRow : OpenClaim := { program := "ytjncbbdiejkalaagreat", sum := "154c2f6664ef57966a5c7a4bb74647dcfc49051ce8e9d4869f23a1bc4b291dd9", func := "armada/armadalaw04.NetKnown", spec := "netKnown", inPlace := ["maps.clone"], unfollowed := true, recurses := true, plainKeys := false, apart := false }
def NetKnownSaid : Prop := netKnownRow.holds Tryz.pinned (OpenSpec.ofChange netKnownSpec)

/-- ITS FALSE NEIGHBOUR: 'it returns false'. Refute it at one input. -/
def netKnownWrong : ChangeSpec := { name := "netKnown", fn := fun _ => fun
  | [] => { results := [.lit (.bool false)], args := [] }
  | _ => none }
def NetKnownWrongFalsely : Prop := netKnownRow.holds Tryz.pinned (OpenSpec.ofChange netKnownWrong)

/- THE SECOND FORM. 'bulk': how many values and letters a reading holds, each counted each time it is reached (what is shared counts as often as it is met; a slice's spare places count too). A statement '..UptoSaid' is the law's where the arguments, and the package variables that the reading takes, are together of bulk at most 1048576: NARROWER than '..Said'. Prove '..Said' where nothing that the law and all that it calls make is longer than what came in: it says more and counts as full. Else prove '..UptoSaid'. A law counts once. -/
mutual
def uptoBulk {H : Type} : DataW H → Nat
  | .lit (.string bytes) => bytes.length + 1
  | .lit _ => 1
  | .nil => 1
  | .ptr d => uptoBulk d + 1
  | .slice elems spare => uptoBulkAll elems + uptoBulkAll spare + 1
  | .agg parts => uptoBulkAll parts + 1
  | .iface _ d => uptoBulk d + 1
  | .map entries => uptoBulkEntries entries + 1
  | .held _ => 1
def uptoBulkAll {H : Type} : List (DataW H) → Nat
  | [] => 0
  | d :: r => uptoBulk d + uptoBulkAll r
def uptoBulkEntries {H : Type} : List (Lit × DataW H) → Nat
  | [] => 0
  | x :: r => uptoBulkEntry x + uptoBulkEntries r
def uptoBulkEntry {H : Type} : Lit × DataW H → Nat
  | (.string bytes, d) => bytes.length + uptoBulk d + 1
  | (_, d) => uptoBulk d + 1
 end
def uptoSmall : (H : Type) → List (DataW H) → Bool := fun _ ds => decide (uptoBulkAll ds ≤ 1048576)
def OpenSpec.upto (s : _root_.Go.ChangeSpec) : _root_.Go.OpenSpec := { _root_.Go.OpenSpec.ofChange s with cond := some uptoSmall }

/-- 'armadalaw04.NetDistances', WHERE WHAT IT READS IS OF BULK AT MOST 1048576: true; the input reads as it did. -/
def netDistancesUptoRow : OpenClaim := { program := "ytjncbbdiejkalaagreat", sum := "154c2f6664ef57966a5c7a4bb74647dcfc49051ce8e9d4869f23a1bc4b291dd9", func := "armada/armadalaw04.NetDistances", spec := "netDistances", unfollowed := true, recurses := true, plainKeys := false, apart := false, narrowed := true }
def NetDistancesUptoSaid : Prop := netDistancesUptoRow.holds Tryz.pinned (OpenSpec.upto netDistancesSpec)

/-- 'armadalaw04.NetDetours', WHERE WHAT IT READS IS OF BULK AT MOST 1048576: true; the input reads as it did. -/
def netDetoursUptoRow : OpenClaim := { program := "ytjncbbdiejkalaagreat", sum := "154c2f6664ef57966a5c7a4bb74647dcfc49051ce8e9d4869f23a1bc4b291dd9", func := "armada/armadalaw04.NetDetours", spec := "netDetours", unfollowed := true, recurses := true, plainKeys := false, apart := false, narrowed := true }
def NetDetoursUptoSaid : Prop := netDetoursUptoRow.holds Tryz.pinned (OpenSpec.upto netDetoursSpec)

/-- 'armadalaw04.NetDamage', WHERE WHAT IT READS IS OF BULK AT MOST 1048576: true; the input reads as it did. -/
def netDamageUptoRow : OpenClaim := { program := "ytjncbbdiejkalaagreat", sum := "154c2f6664ef57966a5c7a4bb74647dcfc49051ce8e9d4869f23a1bc4b291dd9", func := "armada/armadalaw04.NetDamage", spec := "netDamage", inPlace := ["maps.clone"], unfollowed := true, recurses := true, plainKeys := false, apart := false, narrowed := true }
def NetDamageUptoSaid : Prop := netDamageUptoRow.holds Tryz.pinned (OpenSpec.upto netDamageSpec)

/-- 'armadalaw04.NetKnown', WHERE WHAT IT READS IS OF BULK AT MOST 1048576: true; the input reads as it did. -/
def netKnownUptoRow : OpenClaim := { program := "ytjncbbdiejkalaagreat", sum := "154c2f6664ef57966a5c7a4bb74647dcfc49051ce8e9d4869f23a1bc4b291dd9", func := "armada/armadalaw04.NetKnown", spec := "netKnown", inPlace := ["maps.clone"], unfollowed := true, recurses := true, plainKeys := false, apart := false, narrowed := true }
def NetKnownUptoSaid : Prop := netKnownUptoRow.holds Tryz.pinned (OpenSpec.upto netKnownSpec)

end Rows
end Go.Proofs.YtjncbbdiejkalaaGreat
