/-
  The reference: Joins, Last, counts.
  The reference's Source.
  Whether a slot has what it must have: the reference.
  The reference's Right.
-/
import Derived.Test.YtmnjcogpchodhaaGreatMGL
set_option linter.all false
namespace Go.Af.Tryz
open Go Go.Proofs
set_option maxRecDepth 100000
set_option maxHeartbeats 4000000
attribute [local irreducible] awp qB qM qO qK qx isCells qp qo qG qC qi roundEnd

def joiF (op:Int):Bool:=decide (op=2∨op=3∨op=4∨op=9∨op=10)
def lstF (t:Tk) (r:Int):Int:=if t.op=4 then r else t.pr-1
end Go.Af.Tryz
namespace Go.Af.Tryz
open Go Go.Proofs
set_option maxRecDepth 100000
set_option maxHeartbeats 4000000
attribute [local irreducible] awp qB qM qO qK qx isCells qp qo qG qC qi roundEnd

def srcF (t:Tk) (r s:Int):Og :=
 if t.op=1∨t.op=6 then (t.ro,s)
 else if t.op=5∨t.op=7 then (s.tdiv t.pa,s)
 else if t.op=8 then (s.tdiv t.pa-t.pr,r*t.pa+s.tmod t.pa)
 else (neF t r ((s.tdiv t.pa-1).tdiv 2).toNat (decide ((s.tdiv t.pa).tmod 2=1)),s.tmod t.pa)
theorem tdiv_rng {s a:Int} (h0:0≤s) (ha:1≤a):0≤s.tdiv a∧s.tdiv a≤s:=by
 rw[Int.tdiv_eq_ediv_of_nonneg h0]
 exact⟨Int.ediv_nonneg h0 (by omega),Int.ediv_le_self _ h0⟩
theorem tmod_rng0 {s a:Int} (h0:0≤s) (ha:1≤a):0≤s.tmod a∧s.tmod a<a:=by
 rw[Int.tmod_eq_emod_of_nonneg h0]
 exact⟨Int.emod_nonneg s (by omega),Int.emod_lt_of_pos s (by omega)⟩
theorem tdiv_lt {s a b:Int} (h0:0≤s) (ha:1≤a) (h:s<b*a):s.tdiv a<b:=by
 rw[Int.tdiv_eq_ediv_of_nonneg h0]
 exact Int.ediv_lt_of_lt_mul (by omega) h
end Go.Af.Tryz
namespace Go.Af.Tryz
open Go Go.Proofs
set_option maxRecDepth 100000
set_option maxHeartbeats 4000000
attribute [local irreducible] awp qB qM qO qK qx isCells qp qo qG qC qi roundEnd

def badH (t:Tk) (u r k:Int):Bool:=decide ((t.op=10∧k<1)∨(t.op≠10∧((r≤u∧k≠1)∨(u<r∧k≠0))))
def holF (t:Tk) (r s:Int) (l:List Og):Bool :=
 if joiF t.op=false then decide (l = [srcF t r s])
 else l.all (fun o=>decide (o.2=s))&&(List.range t.pr.toNat).all (fun q:Nat => !(badH t (lstF t r) q (cntL l q)))
end Go.Af.Tryz
namespace Go.Af.Tryz
open Go Go.Proofs
set_option maxRecDepth 100000
set_option maxHeartbeats 4000000
attribute [local irreducible] awp qB qM qO qK qx isCells qp qo qG qC qi roundEnd

end Go.Af.Tryz
