/- A part of the proof. -/
import Derived.Test.YtmnjcogpchodhaaGreatMHJ
import Derived.Test.YtmnjcogpchodhaaGreatMGF
import Derived.Test.YtmnjcogpchodhaaGreatMCA
set_option linter.all false
set_option maxHeartbeats 4000000
set_option maxRecDepth 100000
namespace Go.Af.Tryz
open Go Go.Proofs
open Go.Af.Coll (St befF)
attribute [local irreducible] awp qj qJ qL qC qo isCells qx qp qA qw qh roundEnd zI wY keyK vZ

theorem shl_1 {i:Nat} {K:Value->Prop} (hi:i<=7) (h:K (.int .i64 ((2:Int) ^ i))):numK .i64 (1*2 ^ (min (i:Int).toNat IntKind.i64.bits)) K:=by
 have e:min (i:Int).toNat IntKind.i64.bits=i:=by
  show min (i:Int).toNat 64=i;omega
 rw[e,Int.one_mul];refine .inl ⟨_,rfl, ?_,h⟩;have : ∀ j,j<8->1<=(2:Int) ^ j/\(2:Int) ^ j<=128:=by decide
 have:=this i (by omega);unfold I64;omega
end Go.Af.Tryz
