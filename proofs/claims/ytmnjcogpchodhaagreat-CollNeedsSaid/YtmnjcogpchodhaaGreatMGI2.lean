/- A part of the proof. -/
import Derived.Test.YtmnjcogpchodhaaGreatMGI
set_option linter.all false
set_option maxHeartbeats 4000000
set_option maxRecDepth 100000
namespace Go.Af.Tryz
open Go Go.Proofs
attribute [local irreducible] awp qj qJ qL qC qo isCells qx qp qA qw qh roundEnd
abbrev shB (t:Tk) (alg:Int) (b c d n:Nat):Blk := .cells true 1 (schC t alg b c d n)
theorem QF {rows:List (Nat × Rw)} {q:Nat × Rw} (h:q∈rows):(true,q.1,rowB q.2)∈rwL rows:=List.mem_map.2 ⟨q,h,rfl⟩
theorem drop_at {l:List Coll.St} {i:Nat} (h:i<l.length):l.drop i=l[i]! :: l.drop (i+1):=by
 rw[List.drop_eq_getElem_cons h,getElem!_pos l i h]
theorem at_row {A Y:List (Bool × Nat × Blk)} {rows:List (Nat × Rw)} {i:Nat} {q:Nat × Rw} (hq:rows[i]? = some q):(A++(rwL rows++Y))[A.length+i]? = some (true,q.1,rowB q.2):=by
 have hl:=(List.getElem?_eq_some_iff.1 hq).1;rw[List.getElem?_append_right (by omega),Nat.add_sub_cancel_left,List.getElem?_append_left (by unfold rwL;rw[List.length_map];exact hl)];unfold rwL;rw[List.getElem?_map,hq];rfl
theorem set_row {A Y:List (Bool × Nat × Blk)} {rows:List (Nat × Rw)} {i b:Nat} {es:Rw} (hl:i<rows.length):(A++(rwL rows++Y)).set (A.length+i) (true,b,rowB es)=A++(rwL (rows.set i (b,es))++Y):=by
 rw[List.set_append,if_neg (by omega),Nat.add_sub_cancel_left,List.set_append,if_pos (by unfold rwL;rw[List.length_map];exact hl),rwL_set]
theorem hs_row {H0 H:List Blk} {o:Nat->Prop} {A Y:List (Bool × Nat × Blk)} {rows:List (Nat × Rw)} {i b:Nat} {es:Rw} (hl:i<rows.length) (hs:HS H0 o ((A++(rwL rows++Y)).set (A.length+i) (true,b,rowB es)) H):HS H0 o (A++(rwL (rows.set i (b,es))++Y)) H:=by
 rw[<- set_row hl];exact hs
theorem Ua {es:Rw} {x:Int} {i k:Nat} {l:List Og} {v:Value} (hx:x=i) (hv:v=lfV k l):(rowC es).set (0+i*1) v=rowC (es.set x.toNat (k,l)):=by
 subst hv;exact rowC_at hx
end Go.Af.Tryz
