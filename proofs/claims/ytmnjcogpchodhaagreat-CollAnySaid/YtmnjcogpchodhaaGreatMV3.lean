/-
  What the document declares: the law's column, got, declared.
  What the document declares for operations that copy: the law's got.
  A final slot's value is the declared one, plainly.
  The law's declared.
-/
import Derived.Test.YtmnjcogpchodhaaGreatMV2
import Derived.Test.YtmnjcogpchodhaaGreatMGM
import Derived.Test.YtmnjcogpchodhaaGreatMGN
set_option linter.all false
namespace Go.Af.Tryz
open Go Go.Proofs
set_option maxRecDepth 100000
set_option maxHeartbeats 4000000
attribute [local irreducible] awp qB qM qO qK qx isCells qp qo qG qC qi roundEnd yj zl keyK vY

def colF (rows:List (Nat × List Int)) (m:Nat) (s:Nat):List Int:=(List.range m).map (fun r=>(rows[r]!).2[s]!)
theorem colF_succ (rows:List (Nat × List Int)) (m s:Nat):colF rows (m+1) s=colF rows m s ++ [(rows[m]!).2[s]!]:=by
 unfold colF
 rw[List.range_succ,List.map_append]
 rfl
theorem colF_len (rows:List (Nat × List Int)) (m s:Nat):(colF rows m s).length=m:=by simp[colF]
theorem c100 {H:List Blk} {rows:List (Nat × List Int)} {ko m s:Nat} {R:Value→List Blk→Prop} (vr:Vr H rows ko) (hm:m≤rows.length) (hm1:0<m) (hml:m≤64) (hs2 : ∀ r q,r<m→rows[r]? = some q→s<q.2.length)
 (h : ∀ H' k,HS H none' [(true,k, .cells true 2 (vaC (colF rows m s)))] H' → R (sv k m) H'):qB Tryz.prog 100 [sv ko rows.length, .int .i64 ((m:Int)-1), .int .i64 (s:Int)] H R:=by
 refine acall_weak ?_
 refine ql tok Tryz.call100 Tryz.func100 rfl Tryz.ntmps100 rfl (by simp) ?_
 have hs:=HS.start H none'
 repeat' (first|refine nX ?_|refine nY (fun K0 hK0=>?_)|refine bH ?_|refine bM ?_|refine iS hs ?_|refine rS hs ?_|refine eI _ (aI rfl ?_)|refine qg ?_|refine qf ?_|refine qc ?_|refine oJ ?_|refine nN hs (fun _ _ hs=>?_)|refine nS hs (fun _ _ hs=>?_)|refine sX hs (fun _ hs=>?_)|(refine hK0 _ _ ?_;clear hK0)|fail)
 refine vO (α := List Blk × Nat × Nat) tok (fun z=>HS H none' [(true,z.2.1, .cells true 2 (vaC (colF rows z.2.2 s)))] z.1∧z.2.2≤m)
  (fun | ⟨_,k,i⟩=>[(0,sv ko rows.length),(1, .int .i64 ((m:Int)-1)),(2, .int .i64 (s:Int)),(7,sv k i),(8, .int .i64 (i:Int))]) (fun | ⟨H',_,_⟩=>H') (fun z=>m-z.2.2)
  ⟨H ++ [.cells true 2 (vaC [])],H.length,0⟩ ⟨hs.virt _,Nat.zero_le _⟩ ⟨⟨_,rfl, .rfl⟩,⟨_,rfl, .rfl⟩,⟨_,rfl, .rfl⟩,⟨_,rfl, .nil _⟩,⟨_,rfl, .rfl⟩,trivial⟩ (WkH.rfl.app _) ?_
 clear hs
 rintro ⟨H2,k,i⟩ ⟨hs,hi⟩
 dsimp only at hs hi ⊢
 repeat' (first|refine nX ?_|refine nY (fun K0 hK0=>?_)|refine bH ?_|refine bM ?_|refine iS hs ?_|refine rS hs ?_|refine eI _ (aI rfl ?_)|refine qg ?_|refine qf ?_|refine qc ?_|refine oJ ?_|refine nN hs (fun _ _ hs=>?_)|refine nS hs (fun _ _ hs=>?_)|refine sX hs (fun _ hs=>?_)|(refine hK0 _ _ ?_;clear hK0)|fail)
 refine And.intro (fun hc=>?_) (fun hc=>?_)
 ·have him:i<m:=by have:=of_decide_eq_true hc;omega
  clear hc
  obtain ⟨q,hq⟩ : ∃ q,rows[i]? = some q:=⟨_,List.getElem?_eq_getElem (by omega)⟩
  have hqm:=List.mem_of_getElem? hq
  obtain ⟨wo,hbo⟩:=(vr.up (qh hs)).o
  have hov:=vrC_get hq
  have hsq:=hs2 i q him hq
  have hq2:(rows[i]!).2[s]! = q.2[s]! := by rw[getElem!_pos rows i (by omega),(List.getElem?_eq_some_iff.1 hq).2]
  obtain ⟨wr,hbr⟩:=(vr.up (qh hs)).r q hqm
  repeat' (first|refine nX ?_|refine nY (fun K0 hK0=>?_)|refine bH ?_|refine bM ?_|refine iS hs ?_|refine rS hs ?_|refine eI _ (aI rfl ?_)|refine qg ?_|refine qf ?_|refine qc ?_|refine oJ ?_|refine nN hs (fun _ _ hs=>?_)|refine nS hs (fun _ _ hs=>?_)|refine sX hs (fun _ hs=>?_)|(refine hK0 _ _ ?_;clear hK0)|fail)
  iterate 4 (
   all_goals try (first | refine wW hov ?_ | refine qm hbo ?_ | refine qj hbo ?_ | refine qm hbr ?_)
   all_goals try (
    repeat' (first|refine nX ?_|refine nY (fun K0 hK0=>?_)|refine bH ?_|refine bM ?_|refine iS hs ?_|refine rS hs ?_|refine eI _ (aI rfl ?_)|refine qg ?_|refine qf ?_|refine qc ?_|refine oJ ?_|refine nN hs (fun _ _ hs=>?_)|refine nS hs (fun _ _ hs=>?_)|refine sX hs (fun _ hs=>?_)|(refine hK0 _ _ ?_;clear hK0)|fail)
    ))
  refine qj hbr (xn s (by show 0+s*2=_;omega) hsq ?_)
  repeat' (first|refine nX ?_|refine nY (fun K0 hK0=>?_)|refine bH ?_|refine bM ?_|refine iS hs ?_|refine rS hs ?_|refine eI _ (aI rfl ?_)|refine qg ?_|refine qf ?_|refine qc ?_|refine oJ ?_|refine nN hs (fun _ _ hs=>?_)|refine nS hs (fun _ _ hs=>?_)|refine sX hs (fun _ hs=>?_)|(refine hK0 _ _ ?_;clear hK0)|fail)
  refine app_hs hs 1 (us := [.int .u64 q.2[s]!, .int .i64 0]) rfl (by decide) (hs.get 0 rfl) rfl rfl (by show (vaC (colF rows i s)).length=i*2;rw[zg,colF_len]) (by show (i+1)*(16+1)≤_;omega) (fun H5 k2 e4 l4 hs=>?_)
  clear e4 l4
  repeat' (first|refine nX ?_|refine nY (fun K0 hK0=>?_)|refine bH ?_|refine bM ?_|refine iS hs ?_|refine rS hs ?_|refine eI _ (aI rfl ?_)|refine qg ?_|refine qf ?_|refine qc ?_|refine oJ ?_|refine nN hs (fun _ _ hs=>?_)|refine nS hs (fun _ _ hs=>?_)|refine sX hs (fun _ hs=>?_)|(refine hK0 _ _ ?_;clear hK0)|fail)
  refine⟨⟨_,k2,i+1⟩,⟨?_,him⟩,by dsimp only;omega,Or.inl ⟨⟨rfl,rfl,rfl,rfl,rfl,trivial⟩,rfl⟩⟩
  dsimp only
  rw[colF_succ,zh,hq2]
  exact hs.pick [1] (by decide) rfl
 ·have him:i=m:=by have:=of_decide_eq_false hc;omega
  subst him
  repeat' (first|refine nX ?_|refine nY (fun K0 hK0=>?_)|refine bH ?_|refine bM ?_|refine iS hs ?_|refine rS hs ?_|refine eI _ (aI rfl ?_)|refine qg ?_|refine qf ?_|refine qc ?_|refine oJ ?_|refine nN hs (fun _ _ hs=>?_)|refine nS hs (fun _ _ hs=>?_)|refine sX hs (fun _ hs=>?_)|(refine hK0 _ _ ?_;clear hK0)|fail)
  exact⟨_,_, .rfl, .rfl,h _ k hs⟩
end Go.Af.Tryz
namespace Go.Af.Tryz
open Go Go.Proofs
set_option maxRecDepth 100000
set_option maxHeartbeats 4000000
attribute [local irreducible] awp qB qM qO qK qx isCells qp qo qG qC qi roundEnd yj zl keyK vY

def jlF (op:Int):Bool:=decide (op=2∨op=3∨op=4∨op=9)
theorem c43 {H:List Blk} {op:Int} {R:Value→List Blk→Prop} (h:R (.bool (jlF op)) H):qB Tryz.prog 43 [.int .i64 op] H R:=by
 unfold jlF at h
 refine ql tok Tryz.call43 Tryz.func43 rfl Tryz.ntmps43 rfl (by simp) ?_
 have hs:=HS.start H none'
 repeat' (first|refine nX ?_|refine nY (fun K0 hK0=>?_)|refine bH ?_|refine bM ?_|refine aI (by decide) ?_|refine iS hs ?_|refine rS hs ?_|refine eI _ (aI rfl ?_)|refine cF (fun _=>?_)|refine cT (fun _=>?_)|refine aI (by omega) ?_|refine oJ ?_|refine nN hs (fun _ _ hs=>?_)|refine nS hs (fun _ _ hs=>?_)|refine sX hs (fun _ hs=>?_)|((refine dI (fun hc=>?_) (fun hc=>?_)) <;> (try (exfalso;omega)))|refine rd ?_|(refine hK0 _ _ ?_;clear hK0)|fail)
 all_goals (
  first
   | (rw[decide_eq_true (by omega)] at h;exact h)
   | (rw[decide_eq_false (by omega)] at h;exact h)
   | (rw[show decide (op=2∨op=3∨op=4∨op=9)=decide (op=9) from decide_eq_decide.2 (by omega)] at h;exact h))
def fsb (t:Tk) (r:Int):Int:=if t.op=5∨t.op=7 then r*t.pa else 0
theorem fst_fsb {t:Tk} {r:Int} {i:Nat} (h:i<(fstF t r).length):(fstF t r)[i]! = fsb t r+(i:Int):=by
 unfold fsb
 unfold fstF at h ⊢
 split at h
 ·simp at h
 ·rename_i h1
  rw[if_neg h1]
  split at h
  ·rename_i h2
   rw[if_pos h2,if_pos h2];exact spn_at0 t _ _ h
  ·rename_i h2
   rw[if_neg h2,if_neg h2]
   split at h
   ·rename_i h3
    rw[if_pos h3,spn_at0 t _ _ h];omega
   ·rename_i h3
    rw[if_neg h3]
    split at h
    ·rename_i h4
     rw[if_pos h4,spn_at0 t _ _ h];omega
    ·rename_i h4
     rw[if_neg h4,spn_at0 t _ _ h];omega
theorem val_fsb {t:Tk} {rows:List (Nat × List Int)} (hvl : ∀ (r:Nat) q,rows[r]? = some q→q.2.length=(fstF t r).length) {o1 o2:Int} (h0:0≤o1∧o1<(rows.length:Int)) (h1:o2∈fstF t o1) :
 ∃ (r i:Nat) (q:Nat × List Int),o1=(r:Int)∧o2=fsb t o1+(i:Int)∧rows[r]? = some q∧i<q.2.length∧q.2[i]! = valF t rows (o1,o2):=by
 obtain ⟨i,hi,e⟩:=List.getElem_of_mem h1
 have hr:o1=(o1.toNat:Int):=by omega
 have hq:rows[o1.toNat]? = some rows[o1.toNat]:=List.getElem?_eq_getElem (by omega)
 have hb:=fst_fsb hi
 rw[getElem!_pos _ i hi,e] at hb
 refine⟨o1.toNat,i,_,hr,hb,hq, ?_, ?_⟩
 ·have:=hvl _ _ hq
  rw[← hr] at this
  omega
 ·have hi2:i<(fstF t (o1.toNat:Int)).length:=by rw[← hr];exact hi
  have:=val_at (t:=t) hq hi2
  rw[← hr,getElem!_pos _ i hi,e] at this
  exact this.symm
theorem c101 {H:List Blk} {t:Tk} {r s:Int} {rows:List (Nat × List Int)} {b c ko:Nat} {R:Value→List Blk→Prop} (kt:TkOk t) (gr:Gr H t.sz b) (gw:Gw H t.ws b c) (vr:Vr H rows ko) (hvp:(rows.length:Int)=t.pr)
 (hvl : ∀ (r:Nat) q,rows[r]? = some q→q.2.length=(fstF t r).length) (hr:0≤r∧r<t.pr) (hs0:0≤s∧s<blkF t*t.pa) (hj:joiF t.op=false) (hh:t.op=11→1≤s.tdiv t.pa)
 (ho:0≤(srcF t r s).1∧(srcF t r s).1<t.pr) (ho2:(srcF t r s).2∈fstF t (srcF t r s).1)
 (h : ∀ H',HS H none' [] H' → R (.tuple ⟨[.agg ⟨[.int .u64 (valF t rows (srcF t r s)), .int .i64 0]⟩, .bool true]⟩) H') :
 qB Tryz.prog 101 [tkV t b c,sv ko rows.length, .int .i64 r, .int .i64 s] H R:=by
 have hpr:=kt.pr
 have hpa:=kt.pa
 have hop:=kt.op
 have hbr:=vZ kt
 have hc:t.op=1∨t.op=6∨t.op=5∨t.op=7∨t.op=8∨t.op=11:=by unfold joiF at hj;have:=of_decide_eq_false hj;omega
 obtain ⟨vo,vi,q,e1,e2,e3,e4,e5⟩:=val_fsb hvl (by omega) ho2
 have hov:=vrC_get e3
 have hqm:=List.mem_of_getElem? e3
 have hd:=tdiv_rng hs0.1 hpa.1
 have hm:=tmod_rng0 hs0.1 hpa.1
 have hdm:s=s.tdiv t.pa*t.pa+s.tmod t.pa:=by
  have:=Int.tmod_add_mul_tdiv s t.pa
  rw[Int.mul_comm] at this
  omega
 have hlt:=tdiv_lt hs0.1 hpa.1 hs0.2
 have hrp:0≤r*t.pa∧r*t.pa≤64*16:=⟨Int.mul_nonneg hr.1 (by omega),Int.mul_le_mul (by omega) (by omega) (by omega) (by omega)⟩
 have hvo:vo<rows.length:=(List.getElem?_eq_some_iff.1 e3).1
 refine ql tok Tryz.call101 Tryz.func101 rfl Tryz.ntmps101 rfl (by simp) ?_
 refine qJ (HS.start H none') (fun H1 b1 g1 l1 hs=>?_)
 refine qJ hs (fun H2 b2 g2 l2 hs=>?_)
 refine qH (fun _ hKs=>hKs _ _ ?_);clear hKs
 clear g1 l1 g2 l2
 obtain ⟨wo,hbo⟩:=(vr.up (qh hs)).o
 obtain ⟨wr,hbr2⟩:=(vr.up (qh hs)).r q hqm
 refine wX tok mx [0,0,2,7,0,0,32,112,15,511] [false,false,false,false,true,true,true,true,true,false] [0,1,2,3,4,5,6,7,8,9] (by kernel_rfl) ?_
 refine wJ (fun K0 hK0=>?_)
 repeat' (first|refine nX ?_|refine nY (fun K0 hK0=>?_)|refine bH ?_|refine bM ?_|refine aI (by decide) ?_|refine iS hs ?_|refine rS hs ?_|refine eI _ (aI rfl ?_)|refine cF (fun _=>?_)|refine cT (fun _=>?_)|refine aI (by omega) ?_|refine oJ ?_|refine nN hs (fun _ _ hs=>?_)|refine nS hs (fun _ _ hs=>?_)|refine sX hs (fun _ hs=>?_)|refine rd ?_|(refine hK0 _ _ ?_;clear hK0)|fail)
 rw[← e5] at h
 clear e5
 rcases hc with c | c | c | c | c | c
 ·unfold srcF at e1 e2
  rw[if_pos (by omega)] at e1 e2
  unfold fsb at e2
  rw[if_neg (by omega)] at e2
  have e7:s=(vi:Int):=by have:s=0+(vi:Int):=e2;omega
  repeat' (first|refine nX ?_|refine nY (fun K0 hK0=>?_)|refine bH ?_|refine bM ?_|refine aI (by decide) ?_|refine iS hs ?_|refine rS hs ?_|refine eI _ (aI rfl ?_)|refine cF (fun _=>?_)|refine cT (fun _=>?_)|refine aI (by omega) ?_|refine oJ ?_|refine nN hs (fun _ _ hs=>?_)|refine nS hs (fun _ _ hs=>?_)|refine sX hs (fun _ hs=>?_)|((refine dI (fun hc=>?_) (fun hc=>?_)) <;> (try (exfalso;omega)))|refine rd ?_|(refine hK0 _ _ ?_;clear hK0)|fail)
  refine qm hbo ⟨vo,e1,by omega, ?_⟩
  repeat' (first|refine nX ?_|refine nY (fun K0 hK0=>?_)|refine bH ?_|refine bM ?_|refine aI (by decide) ?_|refine iS hs ?_|refine rS hs ?_|refine eI _ (aI rfl ?_)|refine cF (fun _=>?_)|refine cT (fun _=>?_)|refine aI (by omega) ?_|refine oJ ?_|refine nN hs (fun _ _ hs=>?_)|refine nS hs (fun _ _ hs=>?_)|refine sX hs (fun _ hs=>?_)|refine rd ?_|(refine hK0 _ _ ?_;clear hK0)|fail)
  refine qj hbo (wW hov ?_)
  repeat' (first|refine nX ?_|refine nY (fun K0 hK0=>?_)|refine bH ?_|refine bM ?_|refine aI (by decide) ?_|refine iS hs ?_|refine rS hs ?_|refine eI _ (aI rfl ?_)|refine cF (fun _=>?_)|refine cT (fun _=>?_)|refine aI (by omega) ?_|refine oJ ?_|refine nN hs (fun _ _ hs=>?_)|refine nS hs (fun _ _ hs=>?_)|refine sX hs (fun _ hs=>?_)|refine rd ?_|(refine hK0 _ _ ?_;clear hK0)|fail)
  refine qm hbr2 ⟨vi,e7,by omega, ?_⟩
  repeat' (first|refine nX ?_|refine nY (fun K0 hK0=>?_)|refine bH ?_|refine bM ?_|refine aI (by decide) ?_|refine iS hs ?_|refine rS hs ?_|refine eI _ (aI rfl ?_)|refine cF (fun _=>?_)|refine cT (fun _=>?_)|refine aI (by omega) ?_|refine oJ ?_|refine nN hs (fun _ _ hs=>?_)|refine nS hs (fun _ _ hs=>?_)|refine sX hs (fun _ hs=>?_)|refine rd ?_|(refine hK0 _ _ ?_;clear hK0)|fail)
  refine qj hbr2 (xn vi (by show 0+vi*2=_;omega) e4 ?_)
  repeat' (first|refine nX ?_|refine nY (fun K0 hK0=>?_)|refine bH ?_|refine bM ?_|refine aI (by decide) ?_|refine iS hs ?_|refine rS hs ?_|refine eI _ (aI rfl ?_)|refine cF (fun _=>?_)|refine cT (fun _=>?_)|refine aI (by omega) ?_|refine oJ ?_|refine nN hs (fun _ _ hs=>?_)|refine nS hs (fun _ _ hs=>?_)|refine sX hs (fun _ hs=>?_)|refine rd ?_|(refine hK0 _ _ ?_;clear hK0)|fail)
  change resK T _ _ _ _
  refine vS (by rfl) (by rfl) (hs.get 0 rfl) (by rfl) ?_
  refine⟨_,rfl,_,rfl, ?_⟩
  exact h _ (qh hs)
 ·unfold srcF at e1 e2
  rw[if_pos (by omega)] at e1 e2
  unfold fsb at e2
  rw[if_neg (by omega)] at e2
  have e7:s=(vi:Int):=by have:s=0+(vi:Int):=e2;omega
  repeat' (first|refine nX ?_|refine nY (fun K0 hK0=>?_)|refine bH ?_|refine bM ?_|refine aI (by decide) ?_|refine iS hs ?_|refine rS hs ?_|refine eI _ (aI rfl ?_)|refine cF (fun _=>?_)|refine cT (fun _=>?_)|refine aI (by omega) ?_|refine oJ ?_|refine nN hs (fun _ _ hs=>?_)|refine nS hs (fun _ _ hs=>?_)|refine sX hs (fun _ hs=>?_)|((refine dI (fun hc=>?_) (fun hc=>?_)) <;> (try (exfalso;omega)))|refine rd ?_|(refine hK0 _ _ ?_;clear hK0)|fail)
  refine qm hbo ⟨vo,e1,by omega, ?_⟩
  repeat' (first|refine nX ?_|refine nY (fun K0 hK0=>?_)|refine bH ?_|refine bM ?_|refine aI (by decide) ?_|refine iS hs ?_|refine rS hs ?_|refine eI _ (aI rfl ?_)|refine cF (fun _=>?_)|refine cT (fun _=>?_)|refine aI (by omega) ?_|refine oJ ?_|refine nN hs (fun _ _ hs=>?_)|refine nS hs (fun _ _ hs=>?_)|refine sX hs (fun _ hs=>?_)|refine rd ?_|(refine hK0 _ _ ?_;clear hK0)|fail)
  refine qj hbo (wW hov ?_)
  repeat' (first|refine nX ?_|refine nY (fun K0 hK0=>?_)|refine bH ?_|refine bM ?_|refine aI (by decide) ?_|refine iS hs ?_|refine rS hs ?_|refine eI _ (aI rfl ?_)|refine cF (fun _=>?_)|refine cT (fun _=>?_)|refine aI (by omega) ?_|refine oJ ?_|refine nN hs (fun _ _ hs=>?_)|refine nS hs (fun _ _ hs=>?_)|refine sX hs (fun _ hs=>?_)|refine rd ?_|(refine hK0 _ _ ?_;clear hK0)|fail)
  refine qm hbr2 ⟨vi,e7,by omega, ?_⟩
  repeat' (first|refine nX ?_|refine nY (fun K0 hK0=>?_)|refine bH ?_|refine bM ?_|refine aI (by decide) ?_|refine iS hs ?_|refine rS hs ?_|refine eI _ (aI rfl ?_)|refine cF (fun _=>?_)|refine cT (fun _=>?_)|refine aI (by omega) ?_|refine oJ ?_|refine nN hs (fun _ _ hs=>?_)|refine nS hs (fun _ _ hs=>?_)|refine sX hs (fun _ hs=>?_)|refine rd ?_|(refine hK0 _ _ ?_;clear hK0)|fail)
  refine qj hbr2 (xn vi (by show 0+vi*2=_;omega) e4 ?_)
  repeat' (first|refine nX ?_|refine nY (fun K0 hK0=>?_)|refine bH ?_|refine bM ?_|refine aI (by decide) ?_|refine iS hs ?_|refine rS hs ?_|refine eI _ (aI rfl ?_)|refine cF (fun _=>?_)|refine cT (fun _=>?_)|refine aI (by omega) ?_|refine oJ ?_|refine nN hs (fun _ _ hs=>?_)|refine nS hs (fun _ _ hs=>?_)|refine sX hs (fun _ hs=>?_)|refine rd ?_|(refine hK0 _ _ ?_;clear hK0)|fail)
  change resK T _ _ _ _
  refine vS (by rfl) (by rfl) (hs.get 0 rfl) (by rfl) ?_
  refine⟨_,rfl,_,rfl, ?_⟩
  exact h _ (qh hs)
 ·unfold srcF at e1 e2
  rw[if_neg (by omega),if_pos (by omega)] at e1 e2
  unfold fsb at e2
  rw[if_pos (by omega)] at e2
  dsimp only at e1 e2
  have e7:s.tmod t.pa=(vi:Int):=by omega
  repeat' (first|refine nX ?_|refine nY (fun K0 hK0=>?_)|refine bH ?_|refine bM ?_|refine aI (by decide) ?_|refine iS hs ?_|refine rS hs ?_|refine eI _ (aI rfl ?_)|refine cF (fun _=>?_)|refine cT (fun _=>?_)|refine aI (by omega) ?_|refine oJ ?_|refine nN hs (fun _ _ hs=>?_)|refine nS hs (fun _ _ hs=>?_)|refine sX hs (fun _ hs=>?_)|((refine dI (fun hc=>?_) (fun hc=>?_)) <;> (try (exfalso;omega)))|refine rd ?_|(refine hK0 _ _ ?_;clear hK0)|fail)
  refine qm hbo ⟨vo,e1,by omega, ?_⟩
  repeat' (first|refine nX ?_|refine nY (fun K0 hK0=>?_)|refine bH ?_|refine bM ?_|refine aI (by decide) ?_|refine iS hs ?_|refine rS hs ?_|refine eI _ (aI rfl ?_)|refine cF (fun _=>?_)|refine cT (fun _=>?_)|refine aI (by omega) ?_|refine oJ ?_|refine nN hs (fun _ _ hs=>?_)|refine nS hs (fun _ _ hs=>?_)|refine sX hs (fun _ hs=>?_)|refine rd ?_|(refine hK0 _ _ ?_;clear hK0)|fail)
  refine qj hbo (wW hov ?_)
  repeat' (first|refine nX ?_|refine nY (fun K0 hK0=>?_)|refine bH ?_|refine bM ?_|refine aI (by decide) ?_|refine iS hs ?_|refine rS hs ?_|refine eI _ (aI rfl ?_)|refine cF (fun _=>?_)|refine cT (fun _=>?_)|refine aI (by omega) ?_|refine oJ ?_|refine nN hs (fun _ _ hs=>?_)|refine nS hs (fun _ _ hs=>?_)|refine sX hs (fun _ hs=>?_)|refine rd ?_|(refine hK0 _ _ ?_;clear hK0)|fail)
  refine qm hbr2 ⟨vi,e7,by omega, ?_⟩
  repeat' (first|refine nX ?_|refine nY (fun K0 hK0=>?_)|refine bH ?_|refine bM ?_|refine aI (by decide) ?_|refine iS hs ?_|refine rS hs ?_|refine eI _ (aI rfl ?_)|refine cF (fun _=>?_)|refine cT (fun _=>?_)|refine aI (by omega) ?_|refine oJ ?_|refine nN hs (fun _ _ hs=>?_)|refine nS hs (fun _ _ hs=>?_)|refine sX hs (fun _ hs=>?_)|refine rd ?_|(refine hK0 _ _ ?_;clear hK0)|fail)
  refine qj hbr2 (xn vi (by show 0+vi*2=_;omega) e4 ?_)
  repeat' (first|refine nX ?_|refine nY (fun K0 hK0=>?_)|refine bH ?_|refine bM ?_|refine aI (by decide) ?_|refine iS hs ?_|refine rS hs ?_|refine eI _ (aI rfl ?_)|refine cF (fun _=>?_)|refine cT (fun _=>?_)|refine aI (by omega) ?_|refine oJ ?_|refine nN hs (fun _ _ hs=>?_)|refine nS hs (fun _ _ hs=>?_)|refine sX hs (fun _ hs=>?_)|refine rd ?_|(refine hK0 _ _ ?_;clear hK0)|fail)
  change resK T _ _ _ _
  refine vS (by rfl) (by rfl) (hs.get 0 rfl) (by rfl) ?_
  refine⟨_,rfl,_,rfl, ?_⟩
  exact h _ (qh hs)
 ·unfold srcF at e1 e2
  rw[if_neg (by omega),if_pos (by omega)] at e1 e2
  unfold fsb at e2
  rw[if_pos (by omega)] at e2
  dsimp only at e1 e2
  have e7:s.tmod t.pa=(vi:Int):=by omega
  repeat' (first|refine nX ?_|refine nY (fun K0 hK0=>?_)|refine bH ?_|refine bM ?_|refine aI (by decide) ?_|refine iS hs ?_|refine rS hs ?_|refine eI _ (aI rfl ?_)|refine cF (fun _=>?_)|refine cT (fun _=>?_)|refine aI (by omega) ?_|refine oJ ?_|refine nN hs (fun _ _ hs=>?_)|refine nS hs (fun _ _ hs=>?_)|refine sX hs (fun _ hs=>?_)|((refine dI (fun hc=>?_) (fun hc=>?_)) <;> (try (exfalso;omega)))|refine rd ?_|(refine hK0 _ _ ?_;clear hK0)|fail)
  refine qm hbo ⟨vo,e1,by omega, ?_⟩
  repeat' (first|refine nX ?_|refine nY (fun K0 hK0=>?_)|refine bH ?_|refine bM ?_|refine aI (by decide) ?_|refine iS hs ?_|refine rS hs ?_|refine eI _ (aI rfl ?_)|refine cF (fun _=>?_)|refine cT (fun _=>?_)|refine aI (by omega) ?_|refine oJ ?_|refine nN hs (fun _ _ hs=>?_)|refine nS hs (fun _ _ hs=>?_)|refine sX hs (fun _ hs=>?_)|refine rd ?_|(refine hK0 _ _ ?_;clear hK0)|fail)
  refine qj hbo (wW hov ?_)
  repeat' (first|refine nX ?_|refine nY (fun K0 hK0=>?_)|refine bH ?_|refine bM ?_|refine aI (by decide) ?_|refine iS hs ?_|refine rS hs ?_|refine eI _ (aI rfl ?_)|refine cF (fun _=>?_)|refine cT (fun _=>?_)|refine aI (by omega) ?_|refine oJ ?_|refine nN hs (fun _ _ hs=>?_)|refine nS hs (fun _ _ hs=>?_)|refine sX hs (fun _ hs=>?_)|refine rd ?_|(refine hK0 _ _ ?_;clear hK0)|fail)
  refine qm hbr2 ⟨vi,e7,by omega, ?_⟩
  repeat' (first|refine nX ?_|refine nY (fun K0 hK0=>?_)|refine bH ?_|refine bM ?_|refine aI (by decide) ?_|refine iS hs ?_|refine rS hs ?_|refine eI _ (aI rfl ?_)|refine cF (fun _=>?_)|refine cT (fun _=>?_)|refine aI (by omega) ?_|refine oJ ?_|refine nN hs (fun _ _ hs=>?_)|refine nS hs (fun _ _ hs=>?_)|refine sX hs (fun _ hs=>?_)|refine rd ?_|(refine hK0 _ _ ?_;clear hK0)|fail)
  refine qj hbr2 (xn vi (by show 0+vi*2=_;omega) e4 ?_)
  repeat' (first|refine nX ?_|refine nY (fun K0 hK0=>?_)|refine bH ?_|refine bM ?_|refine aI (by decide) ?_|refine iS hs ?_|refine rS hs ?_|refine eI _ (aI rfl ?_)|refine cF (fun _=>?_)|refine cT (fun _=>?_)|refine aI (by omega) ?_|refine oJ ?_|refine nN hs (fun _ _ hs=>?_)|refine nS hs (fun _ _ hs=>?_)|refine sX hs (fun _ hs=>?_)|refine rd ?_|(refine hK0 _ _ ?_;clear hK0)|fail)
  change resK T _ _ _ _
  refine vS (by rfl) (by rfl) (hs.get 0 rfl) (by rfl) ?_
  refine⟨_,rfl,_,rfl, ?_⟩
  exact h _ (qh hs)
 ·unfold srcF at e1 e2
  rw[if_neg (by omega),if_neg (by omega),if_pos c] at e1 e2
  unfold fsb at e2
  rw[if_neg (by omega)] at e2
  dsimp only at e1 e2
  have e7:r*t.pa+s.tmod t.pa=(vi:Int):=by omega
  repeat' (first|refine nX ?_|refine nY (fun K0 hK0=>?_)|refine bH ?_|refine bM ?_|refine aI (by decide) ?_|refine iS hs ?_|refine rS hs ?_|refine eI _ (aI rfl ?_)|refine cF (fun _=>?_)|refine cT (fun _=>?_)|refine aI (by omega) ?_|refine oJ ?_|refine nN hs (fun _ _ hs=>?_)|refine nS hs (fun _ _ hs=>?_)|refine sX hs (fun _ hs=>?_)|((refine dI (fun hc=>?_) (fun hc=>?_)) <;> (try (exfalso;omega)))|refine rd ?_|(refine hK0 _ _ ?_;clear hK0)|fail)
  refine wX tok mx [0,0,0,4,14,31,63,0,0,256,896,0,3968,8191,16383,32767,65535] [false,false,false,false,false,false,false,true,true,true,true,true,true,false,false,false,false] [0,1,2,3,4,5,6,7,8,9,10,11,12,13,14,15,16] (by kernel_rfl) ?_
  refine wJ (fun K0 hK0=>?_)
  repeat' (first|refine nX ?_|refine nY (fun K0 hK0=>?_)|refine bH ?_|refine bM ?_|refine aI (by decide) ?_|refine iS hs ?_|refine rS hs ?_|refine eI _ (aI rfl ?_)|refine cF (fun _=>?_)|refine cT (fun _=>?_)|refine aI (by omega) ?_|refine oJ ?_|refine nN hs (fun _ _ hs=>?_)|refine nS hs (fun _ _ hs=>?_)|refine sX hs (fun _ hs=>?_)|refine rd ?_|(refine hK0 _ _ ?_;clear hK0)|fail)
  refine qm hbo ⟨vo,e1,by omega, ?_⟩
  repeat' (first|refine nX ?_|refine nY (fun K0 hK0=>?_)|refine bH ?_|refine bM ?_|refine aI (by decide) ?_|refine iS hs ?_|refine rS hs ?_|refine eI _ (aI rfl ?_)|refine cF (fun _=>?_)|refine cT (fun _=>?_)|refine aI (by omega) ?_|refine oJ ?_|refine nN hs (fun _ _ hs=>?_)|refine nS hs (fun _ _ hs=>?_)|refine sX hs (fun _ hs=>?_)|refine rd ?_|(refine hK0 _ _ ?_;clear hK0)|fail)
  refine qj hbo (wW hov ?_)
  repeat' (first|refine nX ?_|refine nY (fun K0 hK0=>?_)|refine bH ?_|refine bM ?_|refine aI (by decide) ?_|refine iS hs ?_|refine rS hs ?_|refine eI _ (aI rfl ?_)|refine cF (fun _=>?_)|refine cT (fun _=>?_)|refine aI (by omega) ?_|refine oJ ?_|refine nN hs (fun _ _ hs=>?_)|refine nS hs (fun _ _ hs=>?_)|refine sX hs (fun _ hs=>?_)|refine rd ?_|(refine hK0 _ _ ?_;clear hK0)|fail)
  refine qm hbr2 ⟨vi,e7,by omega, ?_⟩
  repeat' (first|refine nX ?_|refine nY (fun K0 hK0=>?_)|refine bH ?_|refine bM ?_|refine aI (by decide) ?_|refine iS hs ?_|refine rS hs ?_|refine eI _ (aI rfl ?_)|refine cF (fun _=>?_)|refine cT (fun _=>?_)|refine aI (by omega) ?_|refine oJ ?_|refine nN hs (fun _ _ hs=>?_)|refine nS hs (fun _ _ hs=>?_)|refine sX hs (fun _ hs=>?_)|refine rd ?_|(refine hK0 _ _ ?_;clear hK0)|fail)
  refine qj hbr2 (xn vi (by show 0+vi*2=_;omega) e4 ?_)
  repeat' (first|refine nX ?_|refine nY (fun K0 hK0=>?_)|refine bH ?_|refine bM ?_|refine aI (by decide) ?_|refine iS hs ?_|refine rS hs ?_|refine eI _ (aI rfl ?_)|refine cF (fun _=>?_)|refine cT (fun _=>?_)|refine aI (by omega) ?_|refine oJ ?_|refine nN hs (fun _ _ hs=>?_)|refine nS hs (fun _ _ hs=>?_)|refine sX hs (fun _ hs=>?_)|refine rd ?_|(refine hK0 _ _ ?_;clear hK0)|fail)
  change resK T _ _ _ _
  refine vS (by rfl) (by rfl) (hs.get 0 rfl) (by rfl) ?_
  refine⟨_,rfl,_,rfl, ?_⟩
  exact h _ (qh hs)
 ·have hb1:=hh c
  have hbe:blkF t=1+2*(t.sz.length:Int):=by unfold blkF;rw[if_neg (by omega),if_neg (by omega),if_pos (by omega)]
  have hc0:crdE t.sz t.ws.length r=0:=by
   have:=kt.halo c
   unfold crdE
   rw[this,if_neg (by omega),if_neg (by omega)]
  have hd0:=tdiv_rng (s:=s.tdiv t.pa-1) (a:=2) (by omega) (by omega)
  have hd1:=tdiv_lt (s:=s.tdiv t.pa-1) (a:=2) (b:=t.sz.length) (by omega) (by omega) (by omega)
  have hb2:=tmod_rng0 (s:=s.tdiv t.pa) (a:=2) hd.1 (by omega)
  obtain ⟨d,hd5⟩ : ∃ d:Nat,(s.tdiv t.pa-1).tdiv 2=d:=⟨((s.tdiv t.pa-1).tdiv 2).toNat,by omega⟩
  unfold srcF at e1 e2
  rw[if_neg (by omega),if_neg (by omega),if_neg (by omega)] at e1 e2
  unfold fsb at e2
  rw[if_neg (by omega)] at e2
  dsimp only at e1 e2
  rw[hd5,Int.toNat_natCast] at e1
  rw[hd5] at hd1
  have e7:s.tmod t.pa=(vi:Int):=by omega
  repeat' (first|refine nX ?_|refine nY (fun K0 hK0=>?_)|refine bH ?_|refine bM ?_|refine aI (by decide) ?_|refine iS hs ?_|refine rS hs ?_|refine eI _ (aI rfl ?_)|refine cF (fun _=>?_)|refine cT (fun _=>?_)|refine aI (by omega) ?_|refine oJ ?_|refine nN hs (fun _ _ hs=>?_)|refine nS hs (fun _ _ hs=>?_)|refine sX hs (fun _ hs=>?_)|((refine dI (fun hc=>?_) (fun hc=>?_)) <;> (try (exfalso;omega)))|refine rd ?_|(refine hK0 _ _ ?_;clear hK0)|fail)
  rw[hd5]
  refine c191 (gr.up (qh hs)) (gw.up (qh hs)) hc0 (by omega) (by omega) (fun H3 hn=>?_)
  have hs:=qI hs hn
  obtain ⟨wo,hbo⟩:=(vr.up (qh hs)).o
  obtain ⟨wr,hbr2⟩:=(vr.up (qh hs)).r q hqm
  clear hn
  by_cases hb3:(s.tdiv t.pa).tmod 2=1
  ·rw[decide_eq_true hb3] at e1
   unfold neF at e1
   rw[e1]
   repeat' (first|refine nX ?_|refine nY (fun K0 hK0=>?_)|refine bH ?_|refine bM ?_|refine aI (by decide) ?_|refine iS hs ?_|refine rS hs ?_|refine eI _ (aI rfl ?_)|refine cF (fun _=>?_)|refine cT (fun _=>?_)|refine aI (by omega) ?_|refine oJ ?_|refine nN hs (fun _ _ hs=>?_)|refine nS hs (fun _ _ hs=>?_)|refine sX hs (fun _ hs=>?_)|((refine dI (fun hc=>?_) (fun hc=>?_)) <;> (try (exfalso;omega)))|refine rd ?_|(refine hK0 _ _ ?_;clear hK0)|fail)
   refine qm hbo ⟨vo,rfl,by omega, ?_⟩
   repeat' (first|refine nX ?_|refine nY (fun K0 hK0=>?_)|refine bH ?_|refine bM ?_|refine aI (by decide) ?_|refine iS hs ?_|refine rS hs ?_|refine eI _ (aI rfl ?_)|refine cF (fun _=>?_)|refine cT (fun _=>?_)|refine aI (by omega) ?_|refine oJ ?_|refine nN hs (fun _ _ hs=>?_)|refine nS hs (fun _ _ hs=>?_)|refine sX hs (fun _ hs=>?_)|refine rd ?_|(refine hK0 _ _ ?_;clear hK0)|fail)
   refine qj hbo (wW hov ?_)
   repeat' (first|refine nX ?_|refine nY (fun K0 hK0=>?_)|refine bH ?_|refine bM ?_|refine aI (by decide) ?_|refine iS hs ?_|refine rS hs ?_|refine eI _ (aI rfl ?_)|refine cF (fun _=>?_)|refine cT (fun _=>?_)|refine aI (by omega) ?_|refine oJ ?_|refine nN hs (fun _ _ hs=>?_)|refine nS hs (fun _ _ hs=>?_)|refine sX hs (fun _ hs=>?_)|refine rd ?_|(refine hK0 _ _ ?_;clear hK0)|fail)
   refine qm hbr2 ⟨vi,e7,by omega, ?_⟩
   repeat' (first|refine nX ?_|refine nY (fun K0 hK0=>?_)|refine bH ?_|refine bM ?_|refine aI (by decide) ?_|refine iS hs ?_|refine rS hs ?_|refine eI _ (aI rfl ?_)|refine cF (fun _=>?_)|refine cT (fun _=>?_)|refine aI (by omega) ?_|refine oJ ?_|refine nN hs (fun _ _ hs=>?_)|refine nS hs (fun _ _ hs=>?_)|refine sX hs (fun _ hs=>?_)|refine rd ?_|(refine hK0 _ _ ?_;clear hK0)|fail)
   refine qj hbr2 (xn vi (by show 0+vi*2=_;omega) e4 ?_)
   repeat' (first|refine nX ?_|refine nY (fun K0 hK0=>?_)|refine bH ?_|refine bM ?_|refine aI (by decide) ?_|refine iS hs ?_|refine rS hs ?_|refine eI _ (aI rfl ?_)|refine cF (fun _=>?_)|refine cT (fun _=>?_)|refine aI (by omega) ?_|refine oJ ?_|refine nN hs (fun _ _ hs=>?_)|refine nS hs (fun _ _ hs=>?_)|refine sX hs (fun _ hs=>?_)|refine rd ?_|(refine hK0 _ _ ?_;clear hK0)|fail)
   change resK T _ _ _ _
   refine vS (by rfl) (by rfl) (hs.get 0 rfl) (by rfl) ?_
   refine⟨_,rfl,_,rfl, ?_⟩
   exact h _ (qh hs)
  ·rw[decide_eq_false hb3] at e1
   unfold neF at e1
   rw[e1]
   repeat' (first|refine nX ?_|refine nY (fun K0 hK0=>?_)|refine bH ?_|refine bM ?_|refine aI (by decide) ?_|refine iS hs ?_|refine rS hs ?_|refine eI _ (aI rfl ?_)|refine cF (fun _=>?_)|refine cT (fun _=>?_)|refine aI (by omega) ?_|refine oJ ?_|refine nN hs (fun _ _ hs=>?_)|refine nS hs (fun _ _ hs=>?_)|refine sX hs (fun _ hs=>?_)|((refine dI (fun hc=>?_) (fun hc=>?_)) <;> (try (exfalso;omega)))|refine rd ?_|(refine hK0 _ _ ?_;clear hK0)|fail)
   refine qm hbo ⟨vo,rfl,by omega, ?_⟩
   repeat' (first|refine nX ?_|refine nY (fun K0 hK0=>?_)|refine bH ?_|refine bM ?_|refine aI (by decide) ?_|refine iS hs ?_|refine rS hs ?_|refine eI _ (aI rfl ?_)|refine cF (fun _=>?_)|refine cT (fun _=>?_)|refine aI (by omega) ?_|refine oJ ?_|refine nN hs (fun _ _ hs=>?_)|refine nS hs (fun _ _ hs=>?_)|refine sX hs (fun _ hs=>?_)|refine rd ?_|(refine hK0 _ _ ?_;clear hK0)|fail)
   refine qj hbo (wW hov ?_)
   repeat' (first|refine nX ?_|refine nY (fun K0 hK0=>?_)|refine bH ?_|refine bM ?_|refine aI (by decide) ?_|refine iS hs ?_|refine rS hs ?_|refine eI _ (aI rfl ?_)|refine cF (fun _=>?_)|refine cT (fun _=>?_)|refine aI (by omega) ?_|refine oJ ?_|refine nN hs (fun _ _ hs=>?_)|refine nS hs (fun _ _ hs=>?_)|refine sX hs (fun _ hs=>?_)|refine rd ?_|(refine hK0 _ _ ?_;clear hK0)|fail)
   refine qm hbr2 ⟨vi,e7,by omega, ?_⟩
   repeat' (first|refine nX ?_|refine nY (fun K0 hK0=>?_)|refine bH ?_|refine bM ?_|refine aI (by decide) ?_|refine iS hs ?_|refine rS hs ?_|refine eI _ (aI rfl ?_)|refine cF (fun _=>?_)|refine cT (fun _=>?_)|refine aI (by omega) ?_|refine oJ ?_|refine nN hs (fun _ _ hs=>?_)|refine nS hs (fun _ _ hs=>?_)|refine sX hs (fun _ hs=>?_)|refine rd ?_|(refine hK0 _ _ ?_;clear hK0)|fail)
   refine qj hbr2 (xn vi (by show 0+vi*2=_;omega) e4 ?_)
   repeat' (first|refine nX ?_|refine nY (fun K0 hK0=>?_)|refine bH ?_|refine bM ?_|refine aI (by decide) ?_|refine iS hs ?_|refine rS hs ?_|refine eI _ (aI rfl ?_)|refine cF (fun _=>?_)|refine cT (fun _=>?_)|refine aI (by omega) ?_|refine oJ ?_|refine nN hs (fun _ _ hs=>?_)|refine nS hs (fun _ _ hs=>?_)|refine sX hs (fun _ hs=>?_)|refine rd ?_|(refine hK0 _ _ ?_;clear hK0)|fail)
   change resK T _ _ _ _
   refine vS (by rfl) (by rfl) (hs.get 0 rfl) (by rfl) ?_
   refine⟨_,rfl,_,rfl, ?_⟩
   exact h _ (qh hs)
end Go.Af.Tryz
namespace Go.Af.Tryz
open Go Go.Proofs
set_option maxRecDepth 100000

def sumL:List Int→Int
 | []=>0
 | x::l=>x+sumL l
theorem sumL_snoc (l:List Int) (x:Int):sumL (l ++ [x])=sumL l+x:=by
 induction l with
 | nil=>simp[sumL]
 | cons y l ih=>rw[List.cons_append,sumL,sumL,ih];omega
def sumR (f:Nat→Int):Nat→Int
 | 0=>0
 | n+1=>sumR f n+f n
theorem sumR_cong {f g:Nat→Int} : ∀ {n:Nat},(∀ i,i<n→f i=g i)→sumR f n=sumR g n
 | 0,_=>rfl
 | n+1,h=>by rw[sumR,sumR,sumR_cong (fun i hi=>h i (by omega)),h n (by omega)]
theorem sumR_add (f g:Nat→Int) : ∀ n,sumR (fun i=>f i+g i) n=sumR f n+sumR g n
 | 0=>rfl
 | n+1=>by rw[sumR,sumR,sumR,sumR_add f g n];omega
theorem sumR_one (a:Nat) (x:Int) : ∀ n,sumR (fun i=>if i=a then x else 0) n=if a<n then x else 0
 | 0=>rfl
 | n+1=>by
   rw[sumR,sumR_one a x n]
   by_cases h:n=a
   ·rw[if_pos h,if_neg (by omega),if_pos (by omega)];omega
   ·rw[if_neg h]
    by_cases h2:a<n
    ·rw[if_pos h2,if_pos (by omega)];omega
    ·rw[if_neg h2,if_neg (by omega)];omega
theorem sumR_zero {f:Nat→Int} (h : ∀ i,f i=0) : ∀ n,sumR f n=0
 | 0=>rfl
 | n+1=>by rw[sumR,sumR_zero h n,h n];rfl
theorem sumR_top {f:Nat→Int} {m:Nat} : ∀ {n:Nat},m≤n→(∀ i,m≤i→i<n→f i=0)→sumR f n=sumR f m
 | 0,h,_=>by rw[show m=0 by omega]
 | n+1,h,h0=>by
   by_cases e:m=n+1
   ·rw[e]
   ·rw[sumR,h0 n (by omega) (by omega),sumR_top (by omega) (fun i a b=>h0 i a (by omega))]
    omega
theorem col_sum (rows:List (Nat × List Int)) (s:Nat) : ∀ m,sumL (colF rows m s)=sumR (fun q=>(rows[q]!).2[s]!) m
 | 0=>rfl
 | m+1=>by rw[colF_succ,sumL_snoc,col_sum rows s m,sumR]
theorem cnt_cons (o:Og) (l:List Og) (q:Int):cntL (o::l) q=cntL l q+if o.1=q then 1 else 0:=by
 unfold cntL
 rw[List.countP_cons]
 by_cases h:o.1=q
 ·rw[if_pos h,if_pos (decide_eq_true h)];omega
 ·rw[if_neg h,if_neg (by rw[decide_eq_false h];simp)];omega
theorem sum_cnt (g:Nat→Int) (f:Og→Int) {n:Nat} : ∀ (l:List Og),(∀ o∈l,0≤o.1∧o.1<(n:Int)∧f o=g o.1.toNat)→sumL (l.map f)=sumR (fun q=>cntL l (q:Int)*g q) n
 | [],_=>by
   rw[sumR_zero (fun i=>by rw[show cntL [] (i:Int)=0 from rfl,Int.zero_mul]) n]
   rfl
 | o::l,h=>by
   obtain ⟨h1,h2,h3⟩:=h o List.mem_cons_self
   rw[List.map_cons,sumL,sum_cnt g f l (fun o ho=>h o (List.mem_cons_of_mem _ ho)),h3]
   have e1:sumR (fun q=>cntL (o::l) (q:Int)*g q) n=sumR (fun q=>cntL l (q:Int)*g q+if q=o.1.toNat then g o.1.toNat else 0) n:=sumR_cong (fun i hi=>by
    rw[cnt_cons]
    by_cases e:o.1=(i:Int)
    ·rw[if_pos e,if_pos (by omega),Int.add_mul,Int.one_mul,show o.1.toNat=i by omega]
    ·rw[if_neg e,if_neg (by omega),Int.add_zero,Int.add_zero])
   rw[e1]
   rw[sumR_add,sumR_one,if_pos (by omega)]
   omega
theorem wrap_u64 (x:Int):IntKind.u64.wrap x=x % 18446744073709551616:=rfl
theorem red_sum {l:List Int} (hu : ∀ x∈l,U64 x) : ∀ j,j<l.length→redN l j=sumL (l.take (j+1)) % 18446744073709551616
 | 0,h=>by
   have hx:=hu l[0]! (by rw[getElem!_pos l 0 h];exact List.getElem_mem h)
   unfold U64 at hx
   rw[redN]
   cases l with
   | nil=>simp at h
   | cons x r =>
     have e:(x::r)[0]! = x:=rfl
     rw[e] at hx ⊢
     rw[show (x::r).take (0+1) = [x] by simp,sumL,sumL,Int.add_zero,Int.emod_eq_of_lt hx.1 hx.2]
 | j+1,h=>by
   rw[redN,red_sum hu j (by omega),wrap_u64,List.take_succ_eq_append_getElem h,sumL_snoc,getElem!_pos l (j+1) h,Int.add_emod,Int.emod_emod_of_dvd _ (Int.dvd_refl _),← Int.add_emod]
theorem redF_sum {l:List Int} (hu : ∀ x∈l,U64 x) (h:l≠[]):redF l=sumL l % 18446744073709551616:=by
 have:=List.length_pos_iff.2 h
 unfold redF
 rw[red_sum hu _ (by omega),show l.length-1+1=l.length by omega,List.take_length]
theorem hol_jn {t:Tk} {r s:Int} {l:List Og} (hj:jlF t.op=true) (h:holF t r s l=true):(∀ o∈l,o.2=s)∧∀ q:Nat,q<t.pr.toNat→cntL l (q:Int)=if (q:Int)≤lstF t r then 1 else 0:=by
 have hj:=of_decide_eq_true hj
 unfold holF at h
 rw[if_neg (by unfold joiF;rw[decide_eq_true (by omega)];decide),Bool.and_eq_true,List.all_eq_true (l:=l),List.all_eq_true (l:=List.range _)] at h
 refine⟨fun o ho=>of_decide_eq_true (h.1 o ho),fun q hq=>?_⟩
 have hb:badH t (lstF t r) (q:Int) (cntL l (q:Int))=false:=by simpa using h.2 q (List.mem_range.2 hq)
 unfold badH at hb
 have hb:=of_decide_eq_false hb
 have h0:=(cnt_le l (q:Int)).1
 split <;> omega
theorem fnl_join {t:Tk} {tr:Tr} {rows:List (Nat × List Int)} {r:Nat} {w:Fi} (kt:TkOk t) (hin:InOk t tr) (hfg:finG t tr=true) (hr:r<t.pr.toNat) (hw:w∈finF t (r:Int)) (hj:jlF t.op=true)
 (hvp:(rows.length:Int)=t.pr) (hvl : ∀ (r:Nat) q,rows[r]? = some q→q.2.length=(fstF t r).length) (hu : ∀ q∈rows, ∀ x∈q.2,U64 x) {m s:Nat} (hm:(m:Int)=lstF t (r:Int)+1) (hs:w.s=(s:Int)) (hsl:(s:Int)<blkF t*t.pa) :
 fnlF t tr rows (r:Int) w=redF (colF rows m s):=by
 have hop:=of_decide_eq_true hj
 have hpr:=kt.pr
 have hpa:=kt.pa
 have hr0:0≤(r:Int)∧(r:Int)<t.pr:=by omega
 have hh:=fin_has hfg hr hw
 have hne:=has_ne hpr.1 hh
 have hi:=in_get hin (r:Int) w.s
 rw[has_hol kt hr0 hw] at hh
 obtain ⟨h1,h2⟩:=hol_jn hj hh
 have hwu:0≤w.u:=by
  have hwm:=hw
  unfold finF at hwm
  have jn : ∀ u f g,0≤u→w∈jnL u (spnF t f g)→0≤w.u:=fun u f g h0 hm=>by
   obtain ⟨i,hi,rfl⟩:=jnL_mem hm
   exact h0
  rcases hop with e | e | e | e
  ·rw[if_neg (by omega),if_neg (by omega),if_neg (by omega),if_neg (by omega),if_neg (by omega),if_pos e] at hwm
   split at hwm
   ·exact jn _ _ _ (by omega) hwm
   ·cases hwm
  ·rw[if_neg (by omega),if_neg (by omega),if_neg (by omega),if_neg (by omega),if_neg (by omega),if_neg (by omega),if_neg (by omega),if_neg (by omega)] at hwm
   exact jn _ _ _ (by omega) hwm
  ·rw[if_neg (by omega),if_neg (by omega),if_neg (by omega),if_neg (by omega),if_neg (by omega),if_neg (by omega),if_pos e] at hwm
   exact jn _ _ _ (by omega) hwm
  ·rw[if_neg (by omega),if_neg (by omega),if_neg (by omega),if_neg (by omega),if_neg (by omega),if_neg (by omega),if_neg (by omega),if_pos e] at hwm
   exact jn _ _ _ (by omega) hwm
 unfold fnlF
 rw[if_pos hwu]
 generalize tget tr (r:Int) w.s=l at *
 have hf0 : ∀ q:Int,fsb t q=0:=fun q=>by unfold fsb;rw[if_neg (by omega)]
 have hval : ∀ o∈l,0≤o.1∧o.1<(t.pr.toNat:Int)∧valF t rows o=(rows[o.1.toNat]!).2[s]! := fun o ho=>by
  obtain ⟨a1,a2,a3⟩:=hi o ho
  obtain ⟨vo,vi,q,e1,e2,e3,e4,e5⟩:=val_fsb (o1:=o.1) (o2:=o.2) hvl (by omega) a3
  refine⟨a1,a2, ?_⟩
  rw[hf0,h1 o ho,hs] at e2
  have ei:vi=s:=by omega
  have ev:(rows[o.1.toNat]!)=q:=by rw[e1,Int.toNat_natCast,getElem!_pos rows vo (List.getElem?_eq_some_iff.1 e3).1,(List.getElem?_eq_some_iff.1 e3).2]
  rw[ev,← ei,e5]
 have hlst:lstF t (r:Int)<t.pr:=by unfold lstF;split <;> omega
 have hmp:m≤t.pr.toNat:=by omega
 have hm0:0<m:=by
  have:0≤lstF t (r:Int):=by unfold lstF;split <;> omega
  omega
 have hUv : ∀ x∈l.map (valF t rows),U64 x:=fun x hx=>by
  obtain ⟨o,ho,rfl⟩:=List.mem_map.1 hx
  obtain ⟨a1,a2,a3⟩:=hi o ho
  obtain ⟨vo,vi,q,e1,e2,e3,e4,e5⟩:=val_fsb (o1:=o.1) (o2:=o.2) hvl (by omega) a3
  rw[← e5]
  exact hu q (List.mem_of_getElem? e3) _ (by rw[getElem!_pos q.2 vi e4];exact List.getElem_mem e4)
 have hUc : ∀ x∈colF rows m s,U64 x:=fun x hx=>by
  obtain ⟨q,hq,rfl⟩:=List.mem_map.1 hx
  have hq:=List.mem_range.1 hq
  have hql:q<rows.length:=by omega
  rw[getElem!_pos rows q hql]
  have hlen:=hvl q _ (List.getElem?_eq_getElem hql)
  have hs3:s<(rows[q]).2.length:=by
   rw[hlen]
   unfold fstF
   rw[if_neg (by omega),if_neg (by omega),if_neg (by omega),if_neg (by omega),wH]
   omega
  rw[getElem!_pos _ s hs3]
  exact hu _ (List.getElem_mem hql) _ (List.getElem_mem hs3)
 rw[redF_sum hUv (by simpa using hne),redF_sum hUc (by intro e;have:=congrArg List.length e;rw[colF_len] at this;simp at this;omega)]
 congr 1
 rw[sum_cnt (fun q=>(rows[q]!).2[s]!) (valF t rows) l hval,col_sum]
 rw[sumR_cong (g:=fun q=>if q<m then (rows[q]!).2[s]! else 0) (fun i hi=>by
  rw[h2 i hi]
  by_cases e:(i:Int)≤lstF t (r:Int)
  ·rw[if_pos e,if_pos (by omega),Int.one_mul]
  ·rw[if_neg e,if_neg (by omega),Int.zero_mul])]
 rw[sumR_top hmp (fun i a b=>if_neg (by omega))]
 exact sumR_cong (fun i hi=>if_pos hi)
theorem fnl_copy {t:Tk} {tr:Tr} {rows:List (Nat × List Int)} {r:Nat} {w:Fi} (kt:TkOk t) (hin:InOk t tr) (hfg:finG t tr=true) (hr:r<t.pr.toNat) (hw:w∈finF t (r:Int)) (hj:joiF t.op=false) :
 fnlF t tr rows (r:Int) w=valF t rows (srcF t (r:Int) w.s)∧(0≤(srcF t (r:Int) w.s).1∧(srcF t (r:Int) w.s).1<t.pr)∧(srcF t (r:Int) w.s).2∈fstF t (srcF t (r:Int) w.s).1:=by
 have hpr:=kt.pr
 have hr0:0≤(r:Int)∧(r:Int)<t.pr:=by omega
 have hh:=fin_has hfg hr hw
 have hi:=in_get hin (r:Int) w.s
 rw[has_hol kt hr0 hw] at hh
 unfold holF at hh
 rw[if_pos hj] at hh
 have he:=of_decide_eq_true hh
 have hu : ¬ 0≤w.u:=fun h=>by
  have:=fin_u kt hw h
  rw[hj] at this
  cases this
 unfold fnlF
 rw[if_neg hu,he]
 have:=hi (srcF t (r:Int) w.s) (by rw[he];exact List.mem_cons_self)
 exact⟨rfl,by omega,this.2.2⟩
end Go.Af.Tryz
namespace Go.Af.Tryz
open Go Go.Proofs
set_option maxRecDepth 100000
set_option maxHeartbeats 4000000
attribute [local irreducible] awp qB qM qO qK qx isCells qp qo qG qC qi roundEnd yj zl keyK vY

theorem ht85:Tryz.prog.underlying 85=some (.struct (Tryz.prog.fieldsOf 85)):=by kernel_rfl
theorem mkey85:MKey Tryz.prog 85 [.u64, .i64]:=zH ht85 (by kernel_rfl) (by kernel_rfl) (zy (by kernel_rfl))
theorem c100g {H:List Blk} {rows:List (Nat × List Int)} {ko m s n:Nat} {la sa:Int} {R:Value→List Blk→Prop} (vr:Vr H rows ko) (hn:rows.length=n) (hla:la=(m:Int)-1) (hsa:sa=(s:Int)) (hm:m≤n) (hm1:0<m) (hml:m≤64) (hs2 : ∀ r q,r<m→rows[r]? = some q→s<q.2.length)
 (h : ∀ H' k,HS H none' [(true,k, .cells true 2 (vaC (colF rows m s)))] H' → R (sv k m) H'):qB Tryz.prog 100 [sv ko n, .int .i64 la, .int .i64 sa] H R:=by
 subst hla;subst hsa;subst hn
 exact c100 vr hm hm1 hml hs2 h
theorem c101g {H:List Blk} {t:Tk} {r s:Int} {rows:List (Nat × List Int)} {b c ko n:Nat} {R:Value→List Blk→Prop} (kt:TkOk t) (gr:Gr H t.sz b) (gw:Gw H t.ws b c) (vr:Vr H rows ko) (hn:rows.length=n) (hvp:(n:Int)=t.pr)
 (hvl : ∀ (r:Nat) q,rows[r]? = some q→q.2.length=(fstF t r).length) (hr:0≤r∧r<t.pr) (hs0:0≤s∧s<blkF t*t.pa) (hj:joiF t.op=false) (hh:t.op=11→1≤s.tdiv t.pa)
 (ho:0≤(srcF t r s).1∧(srcF t r s).1<t.pr) (ho2:(srcF t r s).2∈fstF t (srcF t r s).1)
 (h : ∀ H',HS H none' [] H' → R (.tuple ⟨[.agg ⟨[.int .u64 (valF t rows (srcF t r s)), .int .i64 0]⟩, .bool true]⟩) H') :
 qB Tryz.prog 101 [tkV t b c,sv ko n, .int .i64 r, .int .i64 s] H R:=by
 subst hn
 exact c101 kt gr gw vr hvp hvl hr hs0 hj hh ho ho2 h
theorem fin_hal {t:Tk} (kt:TkOk t) {r:Int} {w:Fi} (hw:w∈finF t r) (h11:t.op=11):1≤w.s.tdiv t.pa:=by
 have hpa:=kt.pa
 have hm:w.s∈finR t r:=by rw[← fin_s kt];exact List.mem_map.2 ⟨w,hw,rfl⟩
 have key : ∀ k g:Int,1≤k→w.s∈spnF t k g→t.pa≤w.s:=fun k g hk hx=>by
  have:=(spn_mem hx).1
  have h1:1*t.pa≤k*t.pa:=Int.mul_le_mul_of_nonneg_right hk (by omega)
  omega
 have hle:t.pa≤w.s:=by
  unfold finR at hm
  rw[if_neg (by omega),if_neg (by omega),if_neg (by omega),if_pos h11] at hm
  obtain ⟨d,hd,hx⟩:=List.mem_flatMap.1 hm
  unfold hvS at hx
  rcases List.mem_append.1 hx with hx | hx
  ·split at hx
   ·cases hx
   ·exact key _ _ (by omega) hx
  ·split at hx
   ·cases hx
   ·exact key _ _ (by omega) hx
 rw[Int.tdiv_eq_ediv_of_nonneg (by omega)]
 exact Int.le_ediv_of_mul_le (by omega) (by omega)
theorem fst_jn {t:Tk} {r:Int} (hj:jlF t.op=true):(fstF t r).length=(blkF t*t.pa).toNat:=by
 have hop:=of_decide_eq_true hj
 unfold fstF
 rw[if_neg (by omega),if_neg (by omega),if_neg (by omega),if_neg (by omega),wH]
 omega
theorem c47 {H:List Blk} {t:Tk} {tr:Tr} {op kind:Int} {rows out:List (Nat × List Int)} {b c ko oo:Nat} {R:Value→List Blk→Prop} (hchk:chkF t=0) (gr:Gr H t.sz b) (gw:Gw H t.ws b c)
 (hl:t.sz.length≤9223372036854775807) (hw:t.ws.length≤9223372036854775807) (vr:Vr H rows ko) (vo:Vr H out oo) (hvp:(rows.length:Int)=t.pr)
 (hvl : ∀ (r:Nat) q,rows[r]? = some q→q.2.length=(fstF t r).length) (hu : ∀ q∈rows, ∀ x∈q.2,U64 x) (hop:jlF t.op=true→op=1∧kind=1)
 (hol:(out.length:Int)=t.pr) (hoq : ∀ (r:Nat) q,out[r]? = some q→q.2=outF t tr rows r) (hin:InOk t tr) (hfg:finG t tr=true)
 (h : ∀ H',HS H none' [] H' → R (.bool true) H'):qB Tryz.prog 47 [tkV t b c, .int .i64 op, .int .i64 kind,sv ko rows.length,sv oo out.length] H R:=by
 have kt:=tk_ok hchk
 have hpr:=kt.pr
 have hpa:=kt.pa
 have hbr:=vZ kt
 refine ql tok Tryz.call47 Tryz.func47 rfl Tryz.ntmps47 rfl (by simp) ?_
 refine qJ (HS.start H none') (fun H1 b1 e1 l1 hs=>?_)
 refine qH (fun _ hKs=>hKs _ _ ?_);clear hKs
 clear e1 l1
 generalize hrn:rows.length=n at *
 generalize hon:out.length=n2 at *
 repeat' (first|refine nX ?_|refine nY (fun K0 hK0=>?_)|refine bH ?_|refine bM ?_|refine iS hs ?_|refine rS hs ?_|refine eI _ (aI rfl ?_)|refine qg ?_|refine qf ?_|refine qc ?_|refine oJ ?_|refine nN hs (fun _ _ hs=>?_)|refine nS hs (fun _ _ hs=>?_)|refine sX hs (fun _ hs=>?_)|(refine dI (fun hc=>?_) (fun hc=>?_) <;> try (exfalso;omega))|(refine hK0 _ _ ?_;clear hK0)|fail)
 refine qX (α := List Blk × Nat) tok (fun z=>HS H none' [(true,b1, .cells true 1 (tkC t b c))] z.1∧z.2≤n)
  (fun z=>[(1, .int .i64 op),(2, .int .i64 kind),(3,sv ko n),(4,sv oo n2),(5, .pointer (some ⟨b1,0,none⟩)),(11, .int .i64 (z.2:Int))]) (fun z=>z.1) (fun z=>n-z.2)
  (_,0) ⟨hs,Nat.zero_le _⟩ (Or.inl ⟨⟨rfl,rfl,rfl,rfl,rfl,rfl,trivial⟩,rfl⟩) ?_
 clear hs
 rintro ⟨H2,r⟩ ⟨hs,hr⟩
 dsimp only at hs hr ⊢
 repeat' (first|refine nX ?_|refine nY (fun K0 hK0=>?_)|refine bH ?_|refine bM ?_|refine iS hs ?_|refine rS hs ?_|refine eI _ (aI rfl ?_)|refine qg ?_|refine qf ?_|refine qc ?_|refine oJ ?_|refine nN hs (fun _ _ hs=>?_)|refine nS hs (fun _ _ hs=>?_)|refine sX hs (fun _ hs=>?_)|(refine hK0 _ _ ?_;clear hK0)|fail)
 refine And.intro (fun hc=>?_) (fun hc=>?_)
 ·have hrp:r<n:=by have:=of_decide_eq_true hc;omega
  clear hc
  have his:isF t (r:Int)=0:=by unfold isF;rw[if_neg (by rw[hchk];simp),if_neg (by omega)]
  have hfs:finS t (r:Int)=(finF t (r:Int)).map Fi.s:=by unfold finS;rw[if_pos his]
  obtain ⟨q2,hq2⟩ : ∃ q,out[r]? = some q:=⟨_,List.getElem?_eq_getElem (by omega)⟩
  have hqm2:=List.mem_of_getElem? hq2
  have hov2:=vrC_get hq2
  have hqv:=hoq r q2 hq2
  repeat' (first|refine nX ?_|refine nY (fun K0 hK0=>?_)|refine bH ?_|refine bM ?_|refine iS hs ?_|refine rS hs ?_|refine eI _ (aI rfl ?_)|refine qg ?_|refine qf ?_|refine qc ?_|refine oJ ?_|refine nN hs (fun _ _ hs=>?_)|refine nS hs (fun _ _ hs=>?_)|refine sX hs (fun _ hs=>?_)|(refine hK0 _ _ ?_;clear hK0)|fail)
  refine c39 (gr.up (qh hs)) (gw.up (qh hs)) hl hw (fun H3 kl hn=>?_)
  have hs:=hs.call hn rfl
  clear hn
  rw[his]
  obtain ⟨wo2,hbo2⟩:=(vo.up (qh hs)).o
  by_cases hb:t.op=10
  ·have hq0:q2.2.length=0:=by rw[hqv];unfold outF;rw[if_pos hb];rfl
   repeat' (first|refine nX ?_|refine nY (fun K0 hK0=>?_)|refine bH ?_|refine bM ?_|refine iS hs ?_|refine rS hs ?_|refine eI _ (aI rfl ?_)|refine qg ?_|refine qf ?_|refine qc ?_|refine oJ ?_|refine nN hs (fun _ _ hs=>?_)|refine nS hs (fun _ _ hs=>?_)|refine sX hs (fun _ hs=>?_)|(refine dI (fun hc=>?_) (fun hc=>?_) <;> try (exfalso;omega))|(refine hK0 _ _ ?_;clear hK0)|fail)
   refine qm hbo2 ⟨r,rfl,by omega, ?_⟩
   repeat' (first|refine nX ?_|refine nY (fun K0 hK0=>?_)|refine bH ?_|refine bM ?_|refine iS hs ?_|refine rS hs ?_|refine eI _ (aI rfl ?_)|refine qg ?_|refine qf ?_|refine qc ?_|refine oJ ?_|refine nN hs (fun _ _ hs=>?_)|refine nS hs (fun _ _ hs=>?_)|refine sX hs (fun _ hs=>?_)|(refine dI (fun hc=>?_) (fun hc=>?_) <;> try (exfalso;omega))|(refine hK0 _ _ ?_;clear hK0)|fail)
   refine qj hbo2 (wW hov2 ?_)
   repeat' (first|refine nX ?_|refine nY (fun K0 hK0=>?_)|refine bH ?_|refine bM ?_|refine iS hs ?_|refine rS hs ?_|refine eI _ (aI rfl ?_)|refine qg ?_|refine qf ?_|refine qc ?_|refine oJ ?_|refine nN hs (fun _ _ hs=>?_)|refine nS hs (fun _ _ hs=>?_)|refine sX hs (fun _ hs=>?_)|(refine dI (fun hc=>?_) (fun hc=>?_) <;> try (exfalso;omega))|(refine hK0 _ _ ?_;clear hK0)|fail)
   refine wG tok 1 ?_
   change vcg _ _ _ _ _ _ _ _ _
   repeat' (first|refine nX ?_|refine nY (fun K0 hK0=>?_)|refine bH ?_|refine bM ?_|refine iS hs ?_|refine rS hs ?_|refine eI _ (aI rfl ?_)|refine qg ?_|refine qf ?_|refine qc ?_|refine oJ ?_|refine nN hs (fun _ _ hs=>?_)|refine nS hs (fun _ _ hs=>?_)|refine sX hs (fun _ hs=>?_)|(refine dI (fun hc=>?_) (fun hc=>?_) <;> try (exfalso;omega))|(refine hK0 _ _ ?_;clear hK0)|fail)
   exact⟨(_,r+1),⟨hs.pick [1] (by decide) rfl,hrp⟩,by dsimp only;omega,Or.inl ⟨⟨rfl,rfl,rfl,rfl,rfl,rfl,trivial⟩,rfl⟩⟩
  ·have hq0:q2.2.length=(finS t (r:Int)).length:=by rw[hqv,hfs];unfold outF;rw[if_neg hb,List.length_map,List.length_map]
   have hfl:(finS t (r:Int)).length≤10000:=by rw[hfs,List.length_map];exact hal_len kt (r:Int)
   repeat' (first|refine nX ?_|refine nY (fun K0 hK0=>?_)|refine bH ?_|refine bM ?_|refine iS hs ?_|refine rS hs ?_|refine eI _ (aI rfl ?_)|refine qg ?_|refine qf ?_|refine qc ?_|refine oJ ?_|refine nN hs (fun _ _ hs=>?_)|refine nS hs (fun _ _ hs=>?_)|refine sX hs (fun _ hs=>?_)|(refine dI (fun hc=>?_) (fun hc=>?_) <;> try (exfalso;omega))|(refine hK0 _ _ ?_;clear hK0)|fail)
   refine qm hbo2 ⟨r,rfl,by omega, ?_⟩
   repeat' (first|refine nX ?_|refine nY (fun K0 hK0=>?_)|refine bH ?_|refine bM ?_|refine iS hs ?_|refine rS hs ?_|refine eI _ (aI rfl ?_)|refine qg ?_|refine qf ?_|refine qc ?_|refine oJ ?_|refine nN hs (fun _ _ hs=>?_)|refine nS hs (fun _ _ hs=>?_)|refine sX hs (fun _ hs=>?_)|(refine dI (fun hc=>?_) (fun hc=>?_) <;> try (exfalso;omega))|(refine hK0 _ _ ?_;clear hK0)|fail)
   refine qj hbo2 (wW hov2 ?_)
   repeat' (first|refine nX ?_|refine nY (fun K0 hK0=>?_)|refine bH ?_|refine bM ?_|refine iS hs ?_|refine rS hs ?_|refine eI _ (aI rfl ?_)|refine qg ?_|refine qf ?_|refine qc ?_|refine oJ ?_|refine nN hs (fun _ _ hs=>?_)|refine nS hs (fun _ _ hs=>?_)|refine sX hs (fun _ hs=>?_)|(refine dI (fun hc=>?_) (fun hc=>?_) <;> try (exfalso;omega))|(refine hK0 _ _ ?_;clear hK0)|fail)
   generalize hfn:(finS t (r:Int)).length=fn at *
   refine qX (α := List Blk × Nat) tok (fun z=>HS H none' [(true,kl,rw' (finS t (r:Int))),(true,b1, .cells true 1 (tkC t b c))] z.1∧z.2≤fn)
    (fun z=>[(1, .int .i64 op),(2, .int .i64 kind),(3,sv ko n),(4,sv oo n2),(5, .pointer (some ⟨b1,0,none⟩)),(11, .int .i64 (r:Int)),(12,sv kl fn),(14, .int .i64 (z.2:Int))]) (fun z=>z.1) (fun z=>fn-z.2)
    (_,0) ⟨hs,Nat.zero_le _⟩ (Or.inl ⟨⟨rfl,rfl,rfl,rfl,rfl,rfl,rfl,rfl,trivial⟩,rfl⟩) ?_
   clear hs hbo2
   rintro ⟨H4,i⟩ ⟨hs,hi⟩
   dsimp only at hs hi ⊢
   repeat' (first|refine nX ?_|refine nY (fun K0 hK0=>?_)|refine bH ?_|refine bM ?_|refine iS hs ?_|refine rS hs ?_|refine eI _ (aI rfl ?_)|refine qg ?_|refine qf ?_|refine qc ?_|refine oJ ?_|refine nN hs (fun _ _ hs=>?_)|refine nS hs (fun _ _ hs=>?_)|refine sX hs (fun _ hs=>?_)|(refine hK0 _ _ ?_;clear hK0)|fail)
   refine And.intro (fun hc=>?_) (fun hc=>?_)
   ·have hin2:i<fn:=by have:=of_decide_eq_true hc;omega
    clear hc
    obtain ⟨w,hw1,hw2,hw3⟩ : ∃ w,w∈finF t (r:Int)∧(finS t (r:Int))[i]! = w.s∧q2.2[i]! = fnlF t tr rows (r:Int) w:=by
     have h1:i<(finF t (r:Int)).length:=by rw[hfs,List.length_map] at hfn;omega
     refine⟨(finF t (r:Int))[i],List.getElem_mem h1, ?_, ?_⟩
     ·rw[hfs,getElem!_pos _ i (by rw[List.length_map];exact h1),List.getElem_map]
     ·rw[hqv]
      unfold outF
      rw[if_neg hb,getElem!_pos _ i (by rw[List.length_map];exact h1),List.getElem_map]
    have hwr:=fin_range kt (r:=(r:Int)) (by omega) hw1
    obtain ⟨s,hws⟩ : ∃ s:Nat,w.s=s:=⟨w.s.toNat,by omega⟩
    rw[hws] at hw2 hwr
    have hi3:i<(finS t (r:Int)).length:=by omega
    obtain ⟨wo2,hbo2⟩:=(vo.up (qh hs)).o
    obtain ⟨wr2,hbr2⟩:=(vo.up (qh hs)).r q2 hqm2
    repeat' (first|refine nX ?_|refine nY (fun K0 hK0=>?_)|refine bH ?_|refine bM ?_|refine iS hs ?_|refine rS hs ?_|refine eI _ (aI rfl ?_)|refine qg ?_|refine qf ?_|refine qc ?_|refine oJ ?_|refine nN hs (fun _ _ hs=>?_)|refine nS hs (fun _ _ hs=>?_)|refine sX hs (fun _ hs=>?_)|(refine hK0 _ _ ?_;clear hK0)|fail)
    refine c43 ?_
    cases hj:jlF t.op with
    | true =>
      obtain ⟨m,hm⟩ : ∃ m:Nat,(m:Int)=lstF t (r:Int)+1:=⟨(lstF t (r:Int)+1).toNat,by unfold lstF;split <;> omega⟩
      have hval:=fnl_join kt hin hfg (by omega) hw1 hj (by omega) hvl hu hm hws hwr.2
      have hop4:=hop hj
      have hc100 : ∀ (r2:Nat) q,r2<m→rows[r2]? = some q→s<q.2.length:=fun r2 q h1 h2=>by
       rw[hvl r2 q h2,fst_jn hj];omega
      have hmn:m≤n∧0<m:=by unfold lstF at hm;split at hm <;> omega
      repeat' (first|refine nX ?_|refine nY (fun K0 hK0=>?_)|refine bH ?_|refine bM ?_|refine iS hs ?_|refine rS hs ?_|refine eI _ (aI rfl ?_)|refine qg ?_|refine qf ?_|refine qc ?_|refine oJ ?_|refine nN hs (fun _ _ hs=>?_)|refine nS hs (fun _ _ hs=>?_)|refine sX hs (fun _ hs=>?_)|(refine dI (fun hc=>?_) (fun hc=>?_) <;> try (exfalso;omega))|(refine hK0 _ _ ?_;clear hK0)|fail)
      all_goals (
       refine Ld_ak hi3 hw2 ?_
       repeat' (first|refine nX ?_|refine nY (fun K0 hK0=>?_)|refine bH ?_|refine bM ?_|refine iS hs ?_|refine rS hs ?_|refine eI _ (aI rfl ?_)|refine qg ?_|refine qf ?_|refine qc ?_|refine oJ ?_|refine nN hs (fun _ _ hs=>?_)|refine nS hs (fun _ _ hs=>?_)|refine sX hs (fun _ hs=>?_)|(refine hK0 _ _ ?_;clear hK0)|fail)
       refine c100g (vr.up (qh hs)) hrn (by unfold lstF at hm;split at hm <;> omega) rfl (by omega) hmn.2 (by omega) hc100 (fun H5 kc hn=>?_)
       have hs:=hs.call hn rfl
       clear hn
       repeat' (first|refine nX ?_|refine nY (fun K0 hK0=>?_)|refine bH ?_|refine bM ?_|refine iS hs ?_|refine rS hs ?_|refine eI _ (aI rfl ?_)|refine qg ?_|refine qf ?_|refine qc ?_|refine oJ ?_|refine nN hs (fun _ _ hs=>?_)|refine nS hs (fun _ _ hs=>?_)|refine sX hs (fun _ hs=>?_)|(refine hK0 _ _ ?_;clear hK0)|fail)
       refine c45g hop4 (colF_len rows m s) (hs.get 0 rfl) hmn.2 (by omega) (fun H6 hn=>?_)
       have hs:=qI hs hn
       clear hn
       rw[← hval,← hw3]
       repeat' (first|refine nX ?_|refine nY (fun K0 hK0=>?_)|refine bH ?_|refine bM ?_|refine iS hs ?_|refine rS hs ?_|refine eI _ (aI rfl ?_)|refine qg ?_|refine qf ?_|refine qc ?_|refine oJ ?_|refine nN hs (fun _ _ hs=>?_)|refine nS hs (fun _ _ hs=>?_)|refine sX hs (fun _ hs=>?_)|(refine dI (fun hc=>?_) (fun hc=>?_) <;> try (exfalso;omega))|(refine hK0 _ _ ?_;clear hK0)|fail)
       obtain ⟨wo2,hbo2⟩:=(vo.up (qh hs)).o
       obtain ⟨wr2,hbr2⟩:=(vo.up (qh hs)).r q2 hqm2
       refine wX tok mx [0,1,3,7,7,31,63,7,255,511,7,2047,4095] [false,false,false,false,false,false,false,true,false,false,true,false,false] [0,1,2,3,4,5,6,7,8,9,10,11,12] (by kernel_rfl) ?_
       refine wJ (fun K0 hK0=>?_)
       repeat' (first|refine nX ?_|refine nY (fun K0 hK0=>?_)|refine bH ?_|refine bM ?_|refine iS hs ?_|refine rS hs ?_|refine eI _ (aI rfl ?_)|refine qg ?_|refine qf ?_|refine qc ?_|refine oJ ?_|refine nN hs (fun _ _ hs=>?_)|refine nS hs (fun _ _ hs=>?_)|refine sX hs (fun _ hs=>?_)|(refine dI (fun hc=>?_) (fun hc=>?_) <;> try (exfalso;omega))|(refine hK0 _ _ ?_;clear hK0)|fail)
       iterate 6 (
        all_goals try (first | refine wW hov2 ?_ | refine qm hbo2 ⟨r,rfl,by omega, ?_⟩ | refine qj hbo2 ?_ | refine qm hbr2 ⟨i,rfl,by omega, ?_⟩ | refine qj hbr2 (xn i (by show 0+i*2=_;omega) (by omega) ?_) | refine⟨_,mkey85.1, ?_⟩)
        all_goals try (
         repeat' (first|refine nX ?_|refine nY (fun K0 hK0=>?_)|refine bH ?_|refine bM ?_|refine iS hs ?_|refine rS hs ?_|refine eI _ (aI rfl ?_)|refine qg ?_|refine qf ?_|refine qc ?_|refine oJ ?_|refine nN hs (fun _ _ hs=>?_)|refine nS hs (fun _ _ hs=>?_)|refine sX hs (fun _ hs=>?_)|(refine dI (fun hc=>?_) (fun hc=>?_) <;> try (exfalso;omega))|(refine hK0 _ _ ?_;clear hK0)|fail)
         ))
       all_goals first
        | exact absurd rfl hc
        | exact⟨(_,i+1),⟨hs.pick [3,4] (by decide) rfl,hin2⟩,by dsimp only;omega,Or.inl ⟨⟨rfl,rfl,rfl,rfl,rfl,rfl,rfl,rfl,trivial⟩,rfl⟩⟩
       )
    | false =>
      have hj2:joiF t.op=false:=by
       have:=of_decide_eq_false hj
       unfold joiF
       exact decide_eq_false (by omega)
      obtain ⟨hv1,hv2,hv3⟩:=fnl_copy (rows:=rows) kt hin hfg (by omega) hw1 hj2
      rw[hws] at hv1 hv2 hv3
      repeat' (first|refine nX ?_|refine nY (fun K0 hK0=>?_)|refine bH ?_|refine bM ?_|refine iS hs ?_|refine rS hs ?_|refine eI _ (aI rfl ?_)|refine qg ?_|refine qf ?_|refine qc ?_|refine oJ ?_|refine nN hs (fun _ _ hs=>?_)|refine nS hs (fun _ _ hs=>?_)|refine sX hs (fun _ hs=>?_)|(refine dI (fun hc=>?_) (fun hc=>?_) <;> try (exfalso;omega))|(refine hK0 _ _ ?_;clear hK0)|fail)
      refine qY tok mx [0,0,0,0,0,24,56,127,255,511,511,1023,4095] [false,true,true,true,true,true,true,false,false,false,false,false,false] (.first 0 (.first 1 (.first 2 (.first 3 (.first 4 (.first 5 (.first 6 (.first 7 (.first 8 (.first 9 (.first 10 (.first 11 (.first 12 .done))))))))))))) (by kernel_rfl) ?_
      refine qZ (fun K0 hK0=>?_)
      repeat' (first|refine nX ?_|refine nY (fun K0 hK0=>?_)|refine bH ?_|refine bM ?_|refine iS hs ?_|refine rS hs ?_|refine eI _ (aI rfl ?_)|refine qg ?_|refine qf ?_|refine qc ?_|refine oJ ?_|refine nN hs (fun _ _ hs=>?_)|refine nS hs (fun _ _ hs=>?_)|refine sX hs (fun _ hs=>?_)|(refine hK0 _ _ ?_;clear hK0)|fail)
      iterate 9 (
       all_goals try exact trivial
       all_goals try (refine Ld_ak hi3 hw2 ?_)
       all_goals try (first | refine And.intro ?_ trivial | refine And.intro ?_ (And.intro ?_ trivial))
       all_goals try (
        repeat' (first|refine nX ?_|refine nY (fun K0 hK0=>?_)|refine bH ?_|refine bM ?_|refine iS hs ?_|refine rS hs ?_|refine eI _ (aI rfl ?_)|refine qg ?_|refine qf ?_|refine qc ?_|refine oJ ?_|refine nN hs (fun _ _ hs=>?_)|refine nS hs (fun _ _ hs=>?_)|refine sX hs (fun _ hs=>?_)|(refine hK0 _ _ ?_;clear hK0)|fail)
        ))
      all_goals (
       refine c101g kt (gr.up (qh hs)) (gw.up (qh hs)) (vr.up (qh hs)) hrn (by omega) hvl (by omega) hwr hj2 (fun e=>by rw[← hws];exact fin_hal kt hw1 e) hv2 hv3 (fun H5 hn=>?_)
       have hs:=qI hs hn
       clear hn
       rw[← hv1,← hw3]
       repeat' (first|refine nX ?_|refine nY (fun K0 hK0=>?_)|refine bH ?_|refine bM ?_|refine iS hs ?_|refine rS hs ?_|refine eI _ (aI rfl ?_)|refine qg ?_|refine qf ?_|refine qc ?_|refine oJ ?_|refine nN hs (fun _ _ hs=>?_)|refine nS hs (fun _ _ hs=>?_)|refine sX hs (fun _ hs=>?_)|(refine dI (fun hc=>?_) (fun hc=>?_) <;> try (exfalso;omega))|(refine hK0 _ _ ?_;clear hK0)|fail)
       )
      change vcg _ _ _ _ _ _ _ _ _
      obtain ⟨wo2,hbo2⟩:=(vo.up (qh hs)).o
      obtain ⟨wr2,hbr2⟩:=(vo.up (qh hs)).r q2 hqm2
      refine wX tok mx [0,1,3,7,7,31,63,7,255,511,7,2047,4095] [false,false,false,false,false,false,false,true,false,false,true,false,false] [0,1,2,3,4,5,6,7,8,9,10,11,12] (by kernel_rfl) ?_
      refine wJ (fun K0 hK0=>?_)
      repeat' (first|refine nX ?_|refine nY (fun K0 hK0=>?_)|refine bH ?_|refine bM ?_|refine iS hs ?_|refine rS hs ?_|refine eI _ (aI rfl ?_)|refine qg ?_|refine qf ?_|refine qc ?_|refine oJ ?_|refine nN hs (fun _ _ hs=>?_)|refine nS hs (fun _ _ hs=>?_)|refine sX hs (fun _ hs=>?_)|(refine dI (fun hc=>?_) (fun hc=>?_) <;> try (exfalso;omega))|(refine hK0 _ _ ?_;clear hK0)|fail)
      iterate 6 (
       all_goals try (first | refine wW hov2 ?_ | refine qm hbo2 ⟨r,rfl,by omega, ?_⟩ | refine qj hbo2 ?_ | refine qm hbr2 ⟨i,rfl,by omega, ?_⟩ | refine qj hbr2 (xn i (by show 0+i*2=_;omega) (by omega) ?_) | refine⟨_,mkey85.1, ?_⟩)
       all_goals try (
        repeat' (first|refine nX ?_|refine nY (fun K0 hK0=>?_)|refine bH ?_|refine bM ?_|refine iS hs ?_|refine rS hs ?_|refine eI _ (aI rfl ?_)|refine qg ?_|refine qf ?_|refine qc ?_|refine oJ ?_|refine nN hs (fun _ _ hs=>?_)|refine nS hs (fun _ _ hs=>?_)|refine sX hs (fun _ hs=>?_)|(refine dI (fun hc=>?_) (fun hc=>?_) <;> try (exfalso;omega))|(refine hK0 _ _ ?_;clear hK0)|fail)
        ))
      all_goals first
       | exact absurd rfl hc
       | exact⟨(_,i+1),⟨hs.pick [1,2] (by decide) rfl,hin2⟩,by dsimp only;omega,Or.inl ⟨⟨rfl,rfl,rfl,rfl,rfl,rfl,rfl,rfl,trivial⟩,rfl⟩⟩
   ·have hin2:i=fn:=by have:=of_decide_eq_false hc;omega
    repeat' (first|refine nX ?_|refine nY (fun K0 hK0=>?_)|refine bH ?_|refine bM ?_|refine iS hs ?_|refine rS hs ?_|refine eI _ (aI rfl ?_)|refine qg ?_|refine qf ?_|refine qc ?_|refine oJ ?_|refine nN hs (fun _ _ hs=>?_)|refine nS hs (fun _ _ hs=>?_)|refine sX hs (fun _ hs=>?_)|(refine hK0 _ _ ?_;clear hK0)|fail)
    exact⟨(_,r+1),⟨hs.pick [1] (by decide) rfl,hrp⟩,by dsimp only;omega,Or.inl ⟨⟨rfl,rfl,rfl,rfl,rfl,rfl,trivial⟩,rfl⟩⟩
 ·have hrp:r=n:=by have:=of_decide_eq_false hc;omega
  repeat' (first|refine nX ?_|refine nY (fun K0 hK0=>?_)|refine bH ?_|refine bM ?_|refine iS hs ?_|refine rS hs ?_|refine eI _ (aI rfl ?_)|refine qg ?_|refine qf ?_|refine qc ?_|refine oJ ?_|refine nN hs (fun _ _ hs=>?_)|refine nS hs (fun _ _ hs=>?_)|refine sX hs (fun _ hs=>?_)|(refine hK0 _ _ ?_;clear hK0)|fail)
  exact h _ (qh hs)
end Go.Af.Tryz
