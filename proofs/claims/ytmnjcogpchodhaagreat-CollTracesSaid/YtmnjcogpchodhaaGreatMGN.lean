/-
  Whether a row of origins is sorted by its processes: the library's IsSortedFunc with the program's closure.
  The program's Ordered.
  The reference's Ordered.
  The program and the reference ask the same of the slots at the end.
-/
import Derived.Test.YtmnjcogpchodhaaGreatMGM
set_option linter.all false
namespace Go.Af.Tryz
open Go Go.Proofs
set_option maxRecDepth 100000
set_option maxHeartbeats 4000000
attribute [local irreducible] awp qC vK vS vH qJ isCells qy qp qW qN qw roundEnd

theorem c107 {H:List Blk} {x y:Og} {R:Value->List Blk->Prop} (hx:0<=x.1/\x.1<64) (hy:0<=y.1/\y.1<64) (h : ∀ H',HS H none' [] H' -> R (.int .i64 (x.1-y.1)) H'):qC Tryz.prog 107 [.agg ⟨[.int .i64 x.1, .int .i64 x.2]⟩, .agg ⟨[.int .i64 y.1, .int .i64 y.2]⟩] H R:=by
 refine ql tok Tryz.call107 Tryz.func107 rfl Tryz.ntmps107 rfl (by simp) ?_
 refine qm (HS.start H none') (fun H1 b1 e1 l1 hs=>?_)
 refine qm hs (fun H2 b2 e2 l2 hs=>?_)
 refine qo (fun _ hKs=>hKs _ _ ?_);clear hKs
 clear e1 l1 e2 l2
 repeat' (first|refine nX ?_|refine nY (fun K0 hK0=>?_)|refine bH ?_|refine bM ?_|refine iS hs ?_|refine rS hs ?_|refine eI _ (aI rfl ?_)|refine qg ?_|refine qf ?_|refine qc ?_|refine oJ ?_|refine nN hs (fun _ _ hs=>?_)|refine nS hs (fun _ _ hs=>?_)|refine sX hs (fun _ hs=>?_)|(refine hK0 _ _ ?_;clear hK0)|fail)
 exact h _ (qh hs)
def srtF (l:List Og):Bool:=(List.range (l.length-1)).all (fun i=>decide (l[i]!.1<=l[i+1]!.1))
theorem srt_bad {l:List Og} {i:Nat} (h:i+1<l.length) (hb:l[i+1]!.1<l[i]!.1):srtF l=false:=by
 unfold srtF
 rw[List.all_eq_false]
 exact⟨i,List.mem_range.2 (by omega),by rw[decide_eq_false (by omega)];simp⟩
theorem srt_good {l:List Og} (h : ∀ i,i+1<l.length->l[i]!.1<=l[i+1]!.1):srtF l=true:=by
 unfold srtF
 rw[List.all_eq_true]
 exact fun i hi=>decide_eq_true (h i (by have:=List.mem_range.1 hi;omega))
theorem c106 {H:List Blk} {k:Nat} {l:List Og} {p:Int} {R:Value->List Blk->Prop} (hk:Lf H k l) (hl:l.length<=128) (hp:p<=64) (hrk:RkL p l)
 (h : ∀ H',HS H none' [] H' -> R (.bool (srtF l)) H'):qC Tryz.prog 106 [lfV k l, .func (.func 107) #[] #[]] H R:=by
 refine ql tok Tryz.call106 Tryz.func106 rfl Tryz.ntmps106 rfl (by simp) ?_
 by_cases hn:l = []
 ·subst hn
  have hs:=HS.start H none'
  repeat' (first|refine nX ?_|refine nY (fun K0 hK0=>?_)|refine bH ?_|refine bM ?_|refine iS hs ?_|refine rS hs ?_|refine eI _ (aI rfl ?_)|refine qg ?_|refine qf ?_|refine qc ?_|refine oJ ?_|refine nN hs (fun _ _ hs=>?_)|refine nS hs (fun _ _ hs=>?_)|refine sX hs (fun _ hs=>?_)|(refine dI (fun hc=>?_) (fun hc=>?_) <;> try (exfalso;omega))|(refine hK0 _ _ ?_;clear hK0)|fail)
  refine wH tok 1 ?_
  change vcg _ _ _ _ _ _ _ _ _
  repeat' (first|refine nX ?_|refine nY (fun K0 hK0=>?_)|refine bH ?_|refine bM ?_|refine iS hs ?_|refine rS hs ?_|refine eI _ (aI rfl ?_)|refine qg ?_|refine qf ?_|refine qc ?_|refine oJ ?_|refine nN hs (fun _ _ hs=>?_)|refine nS hs (fun _ _ hs=>?_)|refine sX hs (fun _ hs=>?_)|(refine dI (fun hc=>?_) (fun hc=>?_) <;> try (exfalso;omega))|(refine hK0 _ _ ?_;clear hK0)|fail)
  exact h _ (qh hs)
 ·obtain ⟨wr,hkb⟩:=hk.elim (fun e=>absurd e hn) (fun e=>e)
  rw[wX hn]
  have hlp:0<l.length:=List.length_pos_iff.2 hn
  have hs:=(HS.start H none').add (c:=false) hkb (fun i p hi=>by simp at hi) (fun h=>by cases h)
  repeat' (first|refine nX ?_|refine nY (fun K0 hK0=>?_)|refine bH ?_|refine bM ?_|refine iS hs ?_|refine rS hs ?_|refine eI _ (aI rfl ?_)|refine qg ?_|refine qf ?_|refine qc ?_|refine oJ ?_|refine nN hs (fun _ _ hs=>?_)|refine nS hs (fun _ _ hs=>?_)|refine sX hs (fun _ hs=>?_)|(refine dI (fun hc=>?_) (fun hc=>?_) <;> try (exfalso;omega))|(refine hK0 _ _ ?_;clear hK0)|fail)
  refine qQ (α := List Blk × Nat) tok (fun z=>HS H none' [(false,k, .cells wr 2 (orgC l))] z.1/\z.2<l.length/\∀ i,z.2<=i->i+1<l.length->l[i]!.1<=l[i+1]!.1)
   (fun z=>[(0,sv k l.length),(1, .func (.func 107) #[] #[]),(5, .int .i64 (z.2:Int))]) (fun z=>z.1) (fun z=>z.2)
   (H,l.length-1) ⟨hs,by show l.length-1<l.length;omega,fun i h1 h2=>absurd h1 (by dsimp only;omega)⟩ (Or.inl ⟨⟨rfl,rfl,congrArg (fun q=>some (Value.int .i64 q)) (show (l.length:Int)-1=((l.length-1:Nat):Int) by omega),trivial⟩,rfl⟩) ?_
  clear hs
  rintro ⟨H1,j⟩ ⟨hs,hj,hgd⟩
  dsimp only at hs hj hgd ⊢
  repeat' (first|refine nX ?_|refine nY (fun K0 hK0=>?_)|refine bH ?_|refine bM ?_|refine iS hs ?_|refine rS hs ?_|refine eI _ (aI rfl ?_)|refine qg ?_|refine qf ?_|refine qc ?_|refine oJ ?_|refine nN hs (fun _ _ hs=>?_)|refine nS hs (fun _ _ hs=>?_)|refine sX hs (fun _ hs=>?_)|(refine hK0 _ _ ?_;clear hK0)|fail)
  refine And.intro (fun hc=>?_) (fun hc=>?_)
  ·obtain ⟨i,rfl⟩ : ∃ i,j=i+1:=⟨j-1,by simp at hc;omega⟩
   clear hc
   have hi:i<l.length:=by omega
   have hb:=hs.mem (c:=false) (b:=k) (B := .cells wr 2 (orgC l)) (List.mem_singleton.2 rfl)
   have hx:=hrk l[i+1]! (getElem!_pos l (i+1) hj ▸ List.getElem_mem hj)
   have hy:=hrk l[i]! (getElem!_pos l i hi ▸ List.getElem_mem hi)
   have hbd := @srt_bad l i hj
   have hok:=hgd
   refine qL tok mx [0,0,0,6,14,0,0,64,224,480,1023,2047] [false,false,false,false,false,true,true,true,true,true,false,false] (.first 0 (.first 1 (.first 2 (.first 3 (.first 4 (.first 5 (.first 6 (.first 7 (.first 8 (.first 9 (.first 10 (.first 11 .done)))))))))))) (by kernel_rfl) ?_
   refine qP (fun K0 hK0=>?_)
   repeat' (first|refine nX ?_|refine nY (fun K0 hK0=>?_)|refine bH ?_|refine bM ?_|refine iS hs ?_|refine rS hs ?_|refine eI _ (aI rfl ?_)|refine qg ?_|refine qf ?_|refine qc ?_|refine oJ ?_|refine nN hs (fun _ _ hs=>?_)|refine nS hs (fun _ _ hs=>?_)|refine sX hs (fun _ hs=>?_)|(refine hK0 _ _ ?_;clear hK0)|fail)
   iterate 8 (
    all_goals try exact trivial
    all_goals try (first | refine Exists.intro i (And.intro (by omega) (And.intro hi ?_)) | refine yl hj ?_ | refine yl hi ?_)
    all_goals try (first | refine And.intro ?_ trivial | refine And.intro ?_ (And.intro ?_ trivial) | refine And.intro ?_ (And.intro ?_ (And.intro ?_ trivial)))
    all_goals try (
     repeat' (first|refine nX ?_|refine nY (fun K0 hK0=>?_)|refine bH ?_|refine bM ?_|refine iS hs ?_|refine rS hs ?_|refine eI _ (aI rfl ?_)|refine qg ?_|refine qf ?_|refine qc ?_|refine oJ ?_|refine nN hs (fun _ _ hs=>?_)|refine nS hs (fun _ _ hs=>?_)|refine sX hs (fun _ hs=>?_)|(refine hK0 _ _ ?_;clear hK0)|fail)
     ))
   all_goals (
    refine c107 ⟨hx.1,by omega⟩ ⟨hy.1,by omega⟩ (fun H7 hn=>?_)
    have hs:=qA hs hn
    clear hn
    repeat' (first|refine nX ?_|refine nY (fun K0 hK0=>?_)|refine bH ?_|refine bM ?_|refine iS hs ?_|refine rS hs ?_|refine eI _ (aI rfl ?_)|refine qg ?_|refine qf ?_|refine qc ?_|refine oJ ?_|refine nN hs (fun _ _ hs=>?_)|refine nS hs (fun _ _ hs=>?_)|refine sX hs (fun _ hs=>?_)|(refine dI (fun hc=>?_) (fun hc=>?_) <;> try (exfalso;omega))|(refine hK0 _ _ ?_;clear hK0)|fail)
    )
   all_goals first
    | (rw[hbd (by omega)] at h
       exact h _ (qh hs))
    | exact⟨(H7,i),⟨hs,by dsimp only;omega,fun i2 h1 h2=>by
       by_cases hii:i2=i
       ·rw[hii];omega
       ·exact hgd i2 (by dsimp only at h1;omega) h2⟩,by dsimp only;omega,Or.inl ⟨⟨rfl,rfl,congrArg (fun q=>some (Value.int .i64 q)) (show ((i+1:Nat):Int)-1=(i:Int) by omega),trivial⟩,rfl⟩⟩
  ·have hje:j=0:=by simp at hc;omega
   subst hje
   rw[srt_good (fun i hi=>hgd i (Nat.zero_le _) hi)] at h
   repeat' (first|refine nX ?_|refine nY (fun K0 hK0=>?_)|refine bH ?_|refine bM ?_|refine iS hs ?_|refine rS hs ?_|refine eI _ (aI rfl ?_)|refine qg ?_|refine qf ?_|refine qc ?_|refine oJ ?_|refine nN hs (fun _ _ hs=>?_)|refine nS hs (fun _ _ hs=>?_)|refine sX hs (fun _ hs=>?_)|(refine dI (fun hc=>?_) (fun hc=>?_) <;> try (exfalso;omega))|(refine hK0 _ _ ?_;clear hK0)|fail)
   exact h _ (qh hs)
end Go.Af.Tryz
namespace Go.Af.Tryz
open Go Go.Proofs
set_option maxRecDepth 100000
set_option maxHeartbeats 4000000
attribute [local irreducible] awp qC vK vS vH qJ isCells qy qp qW qN qw roundEnd

def srtA (t:Tk) (tr:Tr):Bool:=(List.range t.pr.toNat).all (fun r:Nat=>(finF t (r:Int)).all (fun w=>srtF (tget tr (r:Int) w.s)))
theorem srtA_bad {t:Tk} {tr:Tr} {p r i:Nat} (hp:t.pr=p) (hr:r<p) (hi:i<(finF t (r:Int)).length) (h:srtF (tget tr (r:Int) (finF t (r:Int))[i]!.s)=false):srtA t tr=false:=by
 unfold srtA
 rw[hp,Int.toNat_natCast,List.all_eq_false]
 refine⟨r,List.mem_range.2 hr, ?_⟩
 rw[Bool.not_eq_true,List.all_eq_false]
 rw[getElem!_pos _ i hi] at h
 exact⟨_,List.getElem_mem hi,by rw[h];simp⟩
theorem srtA_good {t:Tk} {tr:Tr} {p:Nat} (hp:t.pr=p) (h : ∀ r:Nat,r<p->∀ i,i<(finF t (r:Int)).length->srtF (tget tr (r:Int) (finF t (r:Int))[i]!.s)=true):srtA t tr=true:=by
 unfold srtA
 rw[hp,Int.toNat_natCast,List.all_eq_true]
 intro r hr
 rw[List.all_eq_true]
 intro w hw
 obtain ⟨i,hi,rfl⟩:=List.getElem_of_mem hw
 have:=h r (List.mem_range.1 hr) i hi
 rw[getElem!_pos _ i hi] at this
 exact this
def orF (t:Tk) (l:List Coll.St):Bool:=match trcF t l with
 | some tr=>finG t tr&&decide (t.op≠10)&&srtA t tr
 | none=>false
theorem c51 {H:List Blk} {t:Tk} {alg:Int} {l:List Coll.St} {b c d:Nat} {R:Value->List Blk->Prop} (gr:Gr H t.sz b) (gw:Gw H t.ws b c) (hst:Sts H l d) (hl:t.sz.length<=9223372036854775807) (hw:t.ws.length<=9223372036854775807) (hll:l.length<=9223372036854775807)
 (h : ∀ H',HS H none' [] H' -> R (.tuple ⟨[.bool (decide (sndF t l=0)&&orF t l), .int .i64 (sndF t l)]⟩) H') :
 qC Tryz.prog 51 [schV t alg b c d l.length] H R:=by
 refine ql tok Tryz.call51 Tryz.func51 rfl Tryz.ntmps51 rfl (by simp) ?_
 refine qm (HS.start H none') (fun H1 b1 e1 l1 hs=>?_)
 refine qo (fun _ hKs=>hKs _ _ ?_);clear hKs
 clear e1 l1
 repeat' (first|refine nX ?_|refine nY (fun K0 hK0=>?_)|refine bH ?_|refine bM ?_|refine iS hs ?_|refine rS hs ?_|refine eI _ (aI rfl ?_)|refine qg ?_|refine qf ?_|refine qc ?_|refine oJ ?_|refine nN hs (fun _ _ hs=>?_)|refine nS hs (fun _ _ hs=>?_)|refine sX hs (fun _ hs=>?_)|(refine hK0 _ _ ?_;clear hK0)|fail)
 refine c29 (gr.up (qh hs)) (hst.up (qh hs)) hl hw hll (fun H2 hn=>?_)
 have hs:=qA hs hn
 clear hn
 by_cases h0:sndF t l=0
 ·obtain ⟨hchk,hok⟩:=snd_ok h0
  have kt:=tk_ok hchk
  have hpr:=kt.pr
  have hbr:=wC kt
  have hsl:sltF t=blkF t*t.pa:=by unfold sltF;rw[if_pos hchk]
  obtain ⟨p,hp⟩ : ∃ p:Nat,t.pr=p:=⟨t.pr.toNat,by omega⟩
  obtain ⟨n,hN⟩ : ∃ n:Nat,sltF t=n:=⟨(sltF t).toNat,by omega⟩
  rw[h0] at h ⊢
  rw[decide_eq_true rfl,Bool.true_and] at h
  repeat' (first|refine nX ?_|refine nY (fun K0 hK0=>?_)|refine bH ?_|refine bM ?_|refine iS hs ?_|refine rS hs ?_|refine eI _ (aI rfl ?_)|refine qg ?_|refine qf ?_|refine qc ?_|refine oJ ?_|refine nN hs (fun _ _ hs=>?_)|refine nS hs (fun _ _ hs=>?_)|refine sX hs (fun _ hs=>?_)|(refine dI (fun hc=>?_) (fun hc=>?_) <;> try (exfalso;omega))|(refine hK0 _ _ ?_;clear hK0)|fail)
  refine c74 (gr.up (qh hs)) (gw.up (qh hs)) (hst.up (qh hs)) hl hll h0 (fun hno H3 hn=>?_) (fun H3 ob rows M hn hlf hdm htr hfg=>?_)
  ·have hs:=qA hs hn
   clear hn
   have hr:orF t l=false:=by
    unfold orF
    cases ht:trcF t l with
    | none=>rfl
    | some tr=>show (finG t tr&&decide (t.op≠10)&&srtA t tr)=false;rw[hno tr ht];rfl
   rw[hr] at h
   repeat' (first|refine nX ?_|refine nY (fun K0 hK0=>?_)|refine bH ?_|refine bM ?_|refine iS hs ?_|refine rS hs ?_|refine eI _ (aI rfl ?_)|refine qg ?_|refine qf ?_|refine qc ?_|refine oJ ?_|refine nN hs (fun _ _ hs=>?_)|refine nS hs (fun _ _ hs=>?_)|refine sX hs (fun _ hs=>?_)|(refine dI (fun hc=>?_) (fun hc=>?_) <;> try (exfalso;omega))|(refine hK0 _ _ ?_;clear hK0)|fail)
   exact h _ (qh hs)
  ·have hs:=(hs.call hn (by rw[List.all_cons,List.all_append,rwL_all,lfL_all];rfl))
   have hs:HS H none' ((true,ob, .cells true 1 (outC rows 0))::(true,b1,shB t alg b c d l.length)::(rwL rows++lfL M)) H3:=hs.perm ((List.perm_append_comm (l₁ := rwL rows++lfL M) (l₂ := [_])).cons _)
   clear hn
   have hrk:=trc_rk htr
   rw[hp,hN,Int.toNat_natCast,Int.toNat_natCast] at hdm
   have hor:orF t l=(decide (t.op≠10)&&srtA t (cont rows)):=by unfold orF;rw[htr];dsimp only;rw[hfg,Bool.true_and]
   rw[hor] at h
   rw[hdm.p]
   rw[hp,Int.toNat_natCast] at hrk
   by_cases hop:t.op=10
   ·rw[decide_eq_false (fun hne=>hne hop),Bool.false_and] at h
    repeat' (first|refine nX ?_|refine nY (fun K0 hK0=>?_)|refine bH ?_|refine bM ?_|refine iS hs ?_|refine rS hs ?_|refine eI _ (aI rfl ?_)|refine qg ?_|refine qf ?_|refine qc ?_|refine oJ ?_|refine nN hs (fun _ _ hs=>?_)|refine nS hs (fun _ _ hs=>?_)|refine sX hs (fun _ hs=>?_)|(refine dI (fun hc=>?_) (fun hc=>?_) <;> try (exfalso;omega))|(refine hK0 _ _ ?_;clear hK0)|fail)
    exact h _ (qh hs)
   ·rw[decide_eq_true hop,Bool.true_and] at h
    repeat' (first|refine nX ?_|refine nY (fun K0 hK0=>?_)|refine bH ?_|refine bM ?_|refine iS hs ?_|refine rS hs ?_|refine eI _ (aI rfl ?_)|refine qg ?_|refine qf ?_|refine qc ?_|refine oJ ?_|refine nN hs (fun _ _ hs=>?_)|refine nS hs (fun _ _ hs=>?_)|refine sX hs (fun _ hs=>?_)|(refine dI (fun hc=>?_) (fun hc=>?_) <;> try (exfalso;omega))|(refine hK0 _ _ ?_;clear hK0)|fail)
    refine qQ (α := List Blk × Nat) tok (fun z=>HS H none' ((true,ob, .cells true 1 (outC rows 0))::(true,b1,shB t alg b c d l.length)::(rwL rows++lfL M)) z.1/\z.2<=p/\∀ r:Nat,r<z.2->∀ i,i<(finF t (r:Int)).length->srtF (tget (cont rows) (r:Int) (finF t (r:Int))[i]!.s)=true)
     (fun z=>[(1, .pointer (some ⟨b1,0,none⟩)),(5,sv ob p),(29, .int .i64 (p:Int)),(30, .int .i64 (z.2:Int))]) (fun z=>z.1) (fun z=>p-z.2)
     (H3,0) ⟨hs,Nat.zero_le _,fun r hr=>absurd hr (by omega)⟩ (Or.inl ⟨⟨rfl,rfl,rfl,rfl,trivial⟩,rfl⟩) ?_
    clear hs
    rintro ⟨H4,r⟩ ⟨hs,hr,hgd⟩
    dsimp only at hs hr hgd ⊢
    repeat' (first|refine nX ?_|refine nY (fun K0 hK0=>?_)|refine bH ?_|refine bM ?_|refine iS hs ?_|refine rS hs ?_|refine eI _ (aI rfl ?_)|refine qg ?_|refine qf ?_|refine qc ?_|refine oJ ?_|refine nN hs (fun _ _ hs=>?_)|refine nS hs (fun _ _ hs=>?_)|refine sX hs (fun _ hs=>?_)|(refine hK0 _ _ ?_;clear hK0)|fail)
    refine And.intro (fun hc=>?_) (fun hc=>?_)
    ·have hrp:r<p:=by simp at hc;omega
     clear hc
     repeat' (first|refine nX ?_|refine nY (fun K0 hK0=>?_)|refine bH ?_|refine bM ?_|refine iS hs ?_|refine rS hs ?_|refine eI _ (aI rfl ?_)|refine qg ?_|refine qf ?_|refine qc ?_|refine oJ ?_|refine nN hs (fun _ _ hs=>?_)|refine nS hs (fun _ _ hs=>?_)|refine sX hs (fun _ hs=>?_)|(refine hK0 _ _ ?_;clear hK0)|fail)
     refine c77 kt (gr.up (qh hs)) (gw.up (qh hs)) (by omega) (fun H5 kf hn=>?_)
     have hs:=(hs.call hn rfl).pickR (A := [_,_,_]) [0,1,2] (by decide) (A' := [_,_,_]) rfl
     clear hn
     have hln:=hal_len kt (r:Int)
     have hfr:=fun w=>@fin_range t kt (r:Int) (by omega) w
     rw[<- hsl,hN] at hfr
     repeat' (first|refine nX ?_|refine nY (fun K0 hK0=>?_)|refine bH ?_|refine bM ?_|refine iS hs ?_|refine rS hs ?_|refine eI _ (aI rfl ?_)|refine qg ?_|refine qf ?_|refine qc ?_|refine oJ ?_|refine nN hs (fun _ _ hs=>?_)|refine nS hs (fun _ _ hs=>?_)|refine sX hs (fun _ hs=>?_)|(refine hK0 _ _ ?_;clear hK0)|fail)
     refine qQ (α := List Blk × Nat) tok (fun z=>HS H none' ((true,kf, .cells true 4 (fisC (finF t (r:Int))))::(true,ob, .cells true 1 (outC rows 0))::(true,b1,shB t alg b c d l.length)::(rwL rows++lfL M)) z.1/\z.2<=(finF t (r:Int)).length/\∀ i,i<z.2->srtF (tget (cont rows) (r:Int) (finF t (r:Int))[i]!.s)=true)
      (fun z=>[(1, .pointer (some ⟨b1,0,none⟩)),(5,sv ob p),(7, .int .i64 (r:Int)),(29, .int .i64 (p:Int)),(30, .int .i64 (r:Int)),(36,sv kf (finF t (r:Int)).length),(37, .int .i64 ((finF t (r:Int)).length:Int)),(38, .int .i64 (z.2:Int))]) (fun z=>z.1) (fun z=>(finF t (r:Int)).length-z.2)
      (H5,0) ⟨hs,Nat.zero_le _,fun i hi=>absurd hi (by omega)⟩ (Or.inl ⟨⟨rfl,rfl,rfl,rfl,rfl,rfl,rfl,rfl,trivial⟩,rfl⟩) ?_
     clear hs
     rintro ⟨H6,i⟩ ⟨hs,hi,hgi⟩
     dsimp only at hs hi hgi ⊢
     repeat' (first|refine nX ?_|refine nY (fun K0 hK0=>?_)|refine bH ?_|refine bM ?_|refine iS hs ?_|refine rS hs ?_|refine eI _ (aI rfl ?_)|refine qg ?_|refine qf ?_|refine qc ?_|refine oJ ?_|refine nN hs (fun _ _ hs=>?_)|refine nS hs (fun _ _ hs=>?_)|refine sX hs (fun _ hs=>?_)|(refine hK0 _ _ ?_;clear hK0)|fail)
     refine And.intro (fun hc=>?_) (fun hc=>?_)
     ·have hil:i<(finF t (r:Int)).length:=by simp at hc;omega
      clear hc
      have hws:=hfr _ (getElem!_pos (finF t (r:Int)) i hil ▸ List.getElem_mem hil)
      have hbad := @srtA_bad t (cont rows) p r i hp hrp hil
      repeat' (first|refine nX ?_|refine nY (fun K0 hK0=>?_)|refine bH ?_|refine bM ?_|refine iS hs ?_|refine rS hs ?_|refine eI _ (aI rfl ?_)|refine qg ?_|refine qf ?_|refine qc ?_|refine oJ ?_|refine nN hs (fun _ _ hs=>?_)|refine nS hs (fun _ _ hs=>?_)|refine sX hs (fun _ hs=>?_)|(refine hK0 _ _ ?_;clear hK0)|fail)
      refine seg_fi hil ?_
      generalize hw:(finF t (r:Int))[i]! = w at hws hbad ⊢
      obtain ⟨ws,wr,wf,wu⟩:=w
      dsimp only at hws hbad ⊢
      obtain ⟨s,rfl⟩ : ∃ s:Nat,ws=s:=⟨ws.toNat,by omega⟩
      obtain ⟨q,e,a1,a2,a3,a4,a5,a6,a7⟩:=hdm.at (r:=(r:Int)) (s:=(s:Int)) (by omega) hws
      rw[Int.toNat_natCast] at a1 a2
      have ho2:=wS rows 0 r q a1
      rw[a5] at ho2
      have hr2:(rowC q.2)[s]? = some (lfV e.1 e.2):=by unfold rowC;rw[List.getElem?_map,a2];rfl
      have hro:RkL t.pr e.2:=by rw[hp,<- a7];exact rk_get hrk _ _
      rw[a7] at hbad
      repeat' (first|refine nX ?_|refine nY (fun K0 hK0=>?_)|refine bH ?_|refine bM ?_|refine iS hs ?_|refine rS hs ?_|refine eI _ (aI rfl ?_)|refine qg ?_|refine qf ?_|refine qc ?_|refine oJ ?_|refine nN hs (fun _ _ hs=>?_)|refine nS hs (fun _ _ hs=>?_)|refine sX hs (fun _ hs=>?_)|(refine hK0 _ _ ?_;clear hK0)|fail)
      have hs:=hs.pickR (A := [_,_,_,_]) [0,1,2,3] (by decide) (A' := [_,_,_,_]) rfl
      have hb2:=hs.mem (c:=true) (b:=q.1) (B:=rowB q.2) (List.mem_append_right _ (List.mem_append_left _ (zJ a3)))
      refine qL tok mx [0,0,3,7,0,16,63,127,255,511] [false,false,false,false,true,true,false,false,false,false] (.first 0 (.first 1 (.first 2 (.first 3 (.first 4 (.first 5 (.first 6 (.first 7 (.first 8 (.first 9 .done)))))))))) (by kernel_rfl) ?_
      refine qP (fun K0 hK0=>?_)
      repeat' (first|refine nX ?_|refine nY (fun K0 hK0=>?_)|refine bH ?_|refine bM ?_|refine iS hs ?_|refine rS hs ?_|refine eI _ (aI rfl ?_)|refine qg ?_|refine qf ?_|refine qc ?_|refine oJ ?_|refine nN hs (fun _ _ hs=>?_)|refine nS hs (fun _ _ hs=>?_)|refine sX hs (fun _ hs=>?_)|(refine hK0 _ _ ?_;clear hK0)|fail)
      iterate 12 (
       all_goals try exact trivial
       all_goals try (first | refine vZ ho2 ?_ | refine vZ hr2 ?_ | refine qj hb2 ?_ | refine qi hb2 ?_)
       all_goals try (first | refine And.intro ?_ trivial | refine And.intro ?_ (And.intro ?_ trivial) | refine And.intro ?_ (And.intro ?_ (And.intro ?_ trivial)))
       all_goals try (
        repeat' (first|refine nX ?_|refine nY (fun K0 hK0=>?_)|refine bH ?_|refine bM ?_|refine iS hs ?_|refine rS hs ?_|refine eI _ (aI rfl ?_)|refine qg ?_|refine qf ?_|refine qc ?_|refine oJ ?_|refine nN hs (fun _ _ hs=>?_)|refine nS hs (fun _ _ hs=>?_)|refine sX hs (fun _ hs=>?_)|(refine hK0 _ _ ?_;clear hK0)|fail)
        ))
      all_goals (
       refine c106 (Lf_of hs (fun h=>List.mem_append_right _ (List.mem_append_right _ (yh (hlf q a3 e a4 h))))) a6 hpr.2 hro (fun H7 hn=>?_)
       have hs:=qA hs hn
       clear hn
       cases hh:srtF e.2 with
       | false =>
         repeat' (first|refine nX ?_|refine nY (fun K0 hK0=>?_)|refine bH ?_|refine bM ?_|refine iS hs ?_|refine rS hs ?_|refine eI _ (aI rfl ?_)|refine qg ?_|refine qf ?_|refine qc ?_|refine oJ ?_|refine nN hs (fun _ _ hs=>?_)|refine nS hs (fun _ _ hs=>?_)|refine sX hs (fun _ hs=>?_)|(refine dI (fun hc=>?_) (fun hc=>?_) <;> try (exfalso;omega))|(refine hK0 _ _ ?_;clear hK0)|fail)
         rw[hbad hh] at h
         exact h _ (qh hs)
       | true =>
         repeat' (first|refine nX ?_|refine nY (fun K0 hK0=>?_)|refine bH ?_|refine bM ?_|refine iS hs ?_|refine rS hs ?_|refine eI _ (aI rfl ?_)|refine qg ?_|refine qf ?_|refine qc ?_|refine oJ ?_|refine nN hs (fun _ _ hs=>?_)|refine nS hs (fun _ _ hs=>?_)|refine sX hs (fun _ hs=>?_)|(refine dI (fun hc=>?_) (fun hc=>?_) <;> try (exfalso;omega))|(refine hK0 _ _ ?_;clear hK0)|fail)
         exact⟨(H7,i+1),⟨hs.pickR (A := [_,_,_,_]) [1,2,3] (by decide) (A' := [_,_,_]) rfl,hil,fun i2 hi2=>by
          by_cases hii:i2=i
          ·rw[hii,hw];dsimp only;rw[a7];exact hh
          ·exact hgi i2 (by dsimp only at hi2;omega)⟩,by dsimp only;omega,Or.inl ⟨⟨rfl,rfl,rfl,rfl,rfl,rfl,rfl,rfl,trivial⟩,rfl⟩⟩)
     ·have hie:i=(finF t (r:Int)).length:=by simp at hc;omega
      subst hie
      repeat' (first|refine nX ?_|refine nY (fun K0 hK0=>?_)|refine bH ?_|refine bM ?_|refine iS hs ?_|refine rS hs ?_|refine eI _ (aI rfl ?_)|refine qg ?_|refine qf ?_|refine qc ?_|refine oJ ?_|refine nN hs (fun _ _ hs=>?_)|refine nS hs (fun _ _ hs=>?_)|refine sX hs (fun _ hs=>?_)|(refine dI (fun hc=>?_) (fun hc=>?_) <;> try (exfalso;omega))|(refine hK0 _ _ ?_;clear hK0)|fail)
      exact⟨(H6,r+1),⟨hs.pickR (A := [_,_,_]) [1,2] (by decide) (A' := [_,_]) rfl,hrp,fun r2 hr2=>by
       by_cases hrr:r2=r
       ·rw[hrr];exact hgi
       ·exact hgd r2 (by dsimp only at hr2;omega)⟩,by dsimp only;omega,Or.inl ⟨⟨rfl,rfl,rfl,rfl,trivial⟩,rfl⟩⟩
    ·have hre:r=p:=by simp at hc;omega
     subst hre
     rw[srtA_good hp hgd] at h
     repeat' (first|refine nX ?_|refine nY (fun K0 hK0=>?_)|refine bH ?_|refine bM ?_|refine iS hs ?_|refine rS hs ?_|refine eI _ (aI rfl ?_)|refine qg ?_|refine qf ?_|refine qc ?_|refine oJ ?_|refine nN hs (fun _ _ hs=>?_)|refine nS hs (fun _ _ hs=>?_)|refine sX hs (fun _ hs=>?_)|(refine dI (fun hc=>?_) (fun hc=>?_) <;> try (exfalso;omega))|(refine hK0 _ _ ?_;clear hK0)|fail)
     exact h _ (qh hs)
 ·rw[decide_eq_false h0,Bool.false_and] at h
  generalize sndF t l=z at h0 h ⊢
  repeat' (first|refine nX ?_|refine nY (fun K0 hK0=>?_)|refine bH ?_|refine bM ?_|refine iS hs ?_|refine rS hs ?_|refine eI _ (aI rfl ?_)|refine qg ?_|refine qf ?_|refine qc ?_|refine oJ ?_|refine nN hs (fun _ _ hs=>?_)|refine nS hs (fun _ _ hs=>?_)|refine sX hs (fun _ hs=>?_)|(refine dI (fun hc=>?_) (fun hc=>?_) <;> try (exfalso;omega))|(refine hK0 _ _ ?_;clear hK0)|fail)
  exact h _ (qh hs)
end Go.Af.Tryz
namespace Go.Af.Tryz
open Go Go.Proofs
set_option maxRecDepth 100000
set_option maxHeartbeats 4000000
attribute [local irreducible] awp qC vK vS vH qJ isCells qy qp qW qN qw roundEnd

def stcF (l:List Og):Bool:=(List.range (l.length-1)).all (fun i=>decide (l[i]!.1<l[i+1]!.1))
theorem stc_bad {l:List Og} {i:Nat} (h:i+1<l.length) (hb:l[i+1]!.1<=l[i]!.1):stcF l=false:=by
 unfold stcF
 rw[List.all_eq_false]
 exact⟨i,List.mem_range.2 (by omega),by rw[decide_eq_false (by omega)];simp⟩
theorem stc_good {l:List Og} (h : ∀ i,i+1<l.length->l[i]!.1<l[i+1]!.1):stcF l=true:=by
 unfold stcF
 rw[List.all_eq_true]
 exact fun i hi=>decide_eq_true (h i (by have:=List.mem_range.1 hi;omega))
def srtB (t:Tk) (tr:Tr):Bool:=(List.range t.pr.toNat).all (fun r:Nat=>(finR t (r:Int)).all (fun s=>stcF (tget tr (r:Int) s)))
theorem srtB_bad {t:Tk} {tr:Tr} {p r i:Nat} (hp:t.pr=p) (hr:r<p) (hi:i<(finR t (r:Int)).length) (h:stcF (tget tr (r:Int) (finR t (r:Int))[i]!)=false):srtB t tr=false:=by
 unfold srtB
 rw[hp,Int.toNat_natCast,List.all_eq_false]
 refine⟨r,List.mem_range.2 hr, ?_⟩
 rw[Bool.not_eq_true,List.all_eq_false]
 rw[getElem!_pos _ i hi] at h
 exact⟨_,List.getElem_mem hi,by rw[h];simp⟩
theorem srtB_good {t:Tk} {tr:Tr} {p:Nat} (hp:t.pr=p) (h : ∀ r:Nat,r<p->∀ i,i<(finR t (r:Int)).length->stcF (tget tr (r:Int) (finR t (r:Int))[i]!)=true):srtB t tr=true:=by
 unfold srtB
 rw[hp,Int.toNat_natCast,List.all_eq_true]
 intro r hr
 rw[List.all_eq_true]
 intro w hw
 obtain ⟨i,hi,rfl⟩:=List.getElem_of_mem hw
 have:=h r (List.mem_range.1 hr) i hi
 rw[getElem!_pos _ i hi] at this
 exact this
def orR (t:Tk) (l:List Coll.St):Bool:=match trcF t l with
 | some tr=>finH t tr&&decide (t.op≠10)&&(!(joiF t.op)||srtB t tr)
 | none=>false
theorem c52 {H:List Blk} {t:Tk} {alg:Int} {l:List Coll.St} {b c d:Nat} {R:Value->List Blk->Prop} (gr:Gr H t.sz b) (gw:Gw H t.ws b c) (hst:Sts H l d) (hl:t.sz.length<=10) (hw:t.ws.length<=10) (hll:l.length<=1000000)
 (h : ∀ H',HS H none' [] H' -> R (.tuple ⟨[.bool (decide (sndF t l=0)&&orR t l), .int .i64 (sndF t l)]⟩) H') :
 qC Tryz.prog 52 [schV t alg b c d l.length] H R:=by
 refine ql tok Tryz.call52 Tryz.func52 rfl Tryz.ntmps52 rfl (by simp) ?_
 refine qm (HS.start H none') (fun H1 b1 e1 l1 hs=>?_)
 refine qo (fun _ hKs=>hKs _ _ ?_);clear hKs
 clear e1 l1
 repeat' (first|refine nX ?_|refine nY (fun K0 hK0=>?_)|refine bH ?_|refine bM ?_|refine iS hs ?_|refine rS hs ?_|refine eI _ (aI rfl ?_)|refine qg ?_|refine qf ?_|refine qc ?_|refine oJ ?_|refine nN hs (fun _ _ hs=>?_)|refine nS hs (fun _ _ hs=>?_)|refine sX hs (fun _ hs=>?_)|(refine hK0 _ _ ?_;clear hK0)|fail)
 refine c50 (gr.up (qh hs)) (gw.up (qh hs)) (hst.up (qh hs)) hl hw hll (fun H2 hn=>?_)
 have hs:=qA hs hn
 clear hn
 have hor:orR t l=(rgtR t l&&decide (t.op≠10)&&orR t l):=by
  unfold orR rgtR
  cases trcF t l with
  | none=>rfl
  | some tr =>
    dsimp only
    cases finH t tr <;> cases decide (t.op≠10) <;> rfl
 by_cases hgo:sndF t l=0/\rgtR t l=true
 ·obtain ⟨h0,hrg⟩:=hgo
  obtain ⟨hchk,hok⟩:=snd_ok h0
  have kt:=tk_ok hchk
  have hpr:=kt.pr
  have hbr:=wC kt
  have hsl:sltF t=blkF t*t.pa:=by unfold sltF;rw[if_pos hchk]
  obtain ⟨p,hp⟩ : ∃ p:Nat,t.pr=p:=⟨t.pr.toNat,by omega⟩
  obtain ⟨n,hN⟩ : ∃ n:Nat,sltF t=n:=⟨(sltF t).toNat,by omega⟩
  rw[h0] at h ⊢
  rw[decide_eq_true rfl,Bool.true_and] at h
  rw[hrg,decide_eq_true rfl,Bool.true_and]
  by_cases hop:t.op=10
  ·rw[hor,decide_eq_false (fun hne=>hne hop),Bool.and_false,Bool.false_and] at h
   repeat' (first|refine nX ?_|refine nY (fun K0 hK0=>?_)|refine bH ?_|refine bM ?_|refine iS hs ?_|refine rS hs ?_|refine eI _ (aI rfl ?_)|refine qg ?_|refine qf ?_|refine qc ?_|refine oJ ?_|refine nN hs (fun _ _ hs=>?_)|refine nS hs (fun _ _ hs=>?_)|refine sX hs (fun _ hs=>?_)|(refine dI (fun hc=>?_) (fun hc=>?_) <;> try (exfalso;omega))|(refine hK0 _ _ ?_;clear hK0)|fail)
   exact h _ (qh hs)
  ·clear hor
   repeat' (first|refine nX ?_|refine nY (fun K0 hK0=>?_)|refine bH ?_|refine bM ?_|refine iS hs ?_|refine rS hs ?_|refine eI _ (aI rfl ?_)|refine qg ?_|refine qf ?_|refine qc ?_|refine oJ ?_|refine nN hs (fun _ _ hs=>?_)|refine nS hs (fun _ _ hs=>?_)|refine sX hs (fun _ hs=>?_)|(refine dI (fun hc=>?_) (fun hc=>?_) <;> try (exfalso;omega))|(refine hK0 _ _ ?_;clear hK0)|fail)
   refine c49 (gr.up (qh hs)) (hst.up (qh hs)) hl hw hll (fun H3 z hn hz hzz=>?_) (fun H3 ob rows M hn hlf hdm _ htr=>?_)
   ·exfalso
    rcases hzz with e | ⟨_,e,_⟩
    ·exact hz (e.trans h0)
    ·unfold rgtR at hrg
     rw[e] at hrg
     cases hrg
   ·have hs:=(hs.call hn (by rw[List.all_cons,List.all_append,rwL_all,lfL_all];rfl))
    have hs:HS H none' ((true,ob, .cells true 1 (outC rows 0))::(true,b1,shB t alg b c d l.length)::(rwL rows++lfL M)) H3:=hs.perm ((List.perm_append_comm (l₁ := rwL rows++lfL M) (l₂ := [_])).cons _)
    clear hn
    have hrk:=trc_rk htr
    rw[hp,hN,Int.toNat_natCast,Int.toNat_natCast] at hdm
    have hor:orR t l=(!(joiF t.op)||srtB t (cont rows)):=by
     unfold rgtR at hrg
     unfold orR
     rw[htr] at hrg ⊢
     dsimp only at hrg ⊢
     rw[hrg,decide_eq_true hop]
     rfl
    rw[hor] at h
    rw[hdm.p]
    rw[hp,Int.toNat_natCast] at hrk
    cases hu:joiF t.op with
    | false =>
      rw[hu] at h
      repeat' (first|refine nX ?_|refine nY (fun K0 hK0=>?_)|refine bH ?_|refine bM ?_|refine iS hs ?_|refine rS hs ?_|refine eI _ (aI rfl ?_)|refine qg ?_|refine qf ?_|refine qc ?_|refine oJ ?_|refine nN hs (fun _ _ hs=>?_)|refine nS hs (fun _ _ hs=>?_)|refine sX hs (fun _ hs=>?_)|(refine dI (fun hc=>?_) (fun hc=>?_) <;> try (exfalso;omega))|(refine hK0 _ _ ?_;clear hK0)|fail)
      refine wH tok 1 ?_
      change vcg _ _ _ _ _ _ _ _ _
      repeat' (first|refine nX ?_|refine nY (fun K0 hK0=>?_)|refine bH ?_|refine bM ?_|refine iS hs ?_|refine rS hs ?_|refine eI _ (aI rfl ?_)|refine qg ?_|refine qf ?_|refine qc ?_|refine oJ ?_|refine nN hs (fun _ _ hs=>?_)|refine nS hs (fun _ _ hs=>?_)|refine sX hs (fun _ hs=>?_)|(refine dI (fun hc=>?_) (fun hc=>?_) <;> try (exfalso;omega))|(refine hK0 _ _ ?_;clear hK0)|fail)
      refine c78 ?_
      rw[hu]
      repeat' (first|refine nX ?_|refine nY (fun K0 hK0=>?_)|refine bH ?_|refine bM ?_|refine iS hs ?_|refine rS hs ?_|refine eI _ (aI rfl ?_)|refine qg ?_|refine qf ?_|refine qc ?_|refine oJ ?_|refine nN hs (fun _ _ hs=>?_)|refine nS hs (fun _ _ hs=>?_)|refine sX hs (fun _ hs=>?_)|(refine dI (fun hc=>?_) (fun hc=>?_) <;> try (exfalso;omega))|(refine hK0 _ _ ?_;clear hK0)|fail)
      exact h _ (qh hs)
    | true =>
      rw[hu,Bool.not_true,Bool.false_or] at h
      repeat' (first|refine nX ?_|refine nY (fun K0 hK0=>?_)|refine bH ?_|refine bM ?_|refine iS hs ?_|refine rS hs ?_|refine eI _ (aI rfl ?_)|refine qg ?_|refine qf ?_|refine qc ?_|refine oJ ?_|refine nN hs (fun _ _ hs=>?_)|refine nS hs (fun _ _ hs=>?_)|refine sX hs (fun _ hs=>?_)|(refine dI (fun hc=>?_) (fun hc=>?_) <;> try (exfalso;omega))|(refine hK0 _ _ ?_;clear hK0)|fail)
      refine qQ (α := List Blk × Nat) tok (fun z=>HS H none' ((true,ob, .cells true 1 (outC rows 0))::(true,b1,shB t alg b c d l.length)::(rwL rows++lfL M)) z.1/\z.2<=p/\∀ r:Nat,r<z.2->∀ i,i<(finR t (r:Int)).length->stcF (tget (cont rows) (r:Int) (finR t (r:Int))[i]!)=true)
       (fun z=>[(1, .pointer (some ⟨b1,0,none⟩)),(6,sv ob p),(8, .int .i64 (z.2:Int))]) (fun z=>z.1) (fun z=>p-z.2)
       (H3,0) ⟨hs,Nat.zero_le _,fun r hr=>absurd hr (by omega)⟩ (Or.inl ⟨⟨rfl,rfl,rfl,trivial⟩,rfl⟩) ?_
      clear hs
      rintro ⟨H4,r⟩ ⟨hs,hr,hgd⟩
      dsimp only at hs hr hgd ⊢
      by_cases hrp:r<p
      ·skip
       repeat' (first|refine nX ?_|refine nY (fun K0 hK0=>?_)|refine bH ?_|refine bM ?_|refine iS hs ?_|refine rS hs ?_|refine eI _ (aI rfl ?_)|refine qg ?_|refine qf ?_|refine qc ?_|refine oJ ?_|refine nN hs (fun _ _ hs=>?_)|refine nS hs (fun _ _ hs=>?_)|refine sX hs (fun _ hs=>?_)|(refine dI (fun hc=>?_) (fun hc=>?_) <;> try (exfalso;omega))|(refine hK0 _ _ ?_;clear hK0)|fail)
       refine c78 ?_
       rw[hu]
       have hri:isF t r=0:=by
        unfold isF
        rw[if_neg (by rw[hchk];simp),if_neg (by omega)]
       have hfs:finS t r=finR t r:=by unfold finS;rw[if_pos hri,fin_s kt]
       repeat' (first|refine nX ?_|refine nY (fun K0 hK0=>?_)|refine bH ?_|refine bM ?_|refine iS hs ?_|refine rS hs ?_|refine eI _ (aI rfl ?_)|refine qg ?_|refine qf ?_|refine qc ?_|refine oJ ?_|refine nN hs (fun _ _ hs=>?_)|refine nS hs (fun _ _ hs=>?_)|refine sX hs (fun _ hs=>?_)|(refine dI (fun hc=>?_) (fun hc=>?_) <;> try (exfalso;omega))|(refine hK0 _ _ ?_;clear hK0)|fail)
       refine c40 (gr.up (qh hs)) (gw.up (qh hs)) hl hw (fun H5 kf hn=>?_)
       have hs:=(hs.call hn rfl).pickR (A := [_,_,_]) [0,1,2] (by decide) (A' := [_,_,_]) rfl
       clear hn
       rw[hfs] at hs ⊢
       have hln:=hal_len kt (r:Int)
       rw[<- List.length_map (f:=Fi.s),fin_s kt] at hln
       have hfr:=fun x=>@finR_range t kt (r:Int) x (by omega)
       repeat' (first|refine nX ?_|refine nY (fun K0 hK0=>?_)|refine bH ?_|refine bM ?_|refine iS hs ?_|refine rS hs ?_|refine eI _ (aI rfl ?_)|refine qg ?_|refine qf ?_|refine qc ?_|refine oJ ?_|refine nN hs (fun _ _ hs=>?_)|refine nS hs (fun _ _ hs=>?_)|refine sX hs (fun _ hs=>?_)|(refine hK0 _ _ ?_;clear hK0)|fail)
       refine qQ (α := List Blk × Nat) tok (fun z=>HS H none' ((true,kf,rw' (finR t (r:Int)))::(true,ob, .cells true 1 (outC rows 0))::(true,b1,shB t alg b c d l.length)::(rwL rows++lfL M)) z.1/\z.2<=(finR t (r:Int)).length/\∀ i,i<z.2->stcF (tget (cont rows) (r:Int) (finR t (r:Int))[i]!)=true)
        (fun z=>[(1, .pointer (some ⟨b1,0,none⟩)),(6,sv ob p),(8, .int .i64 (r:Int)),(9,sv kf (finR t (r:Int)).length),(11, .int .i64 (z.2:Int))]) (fun z=>z.1) (fun z=>(finR t (r:Int)).length-z.2)
        (H5,0) ⟨hs,Nat.zero_le _,fun i hi=>absurd hi (by omega)⟩ (Or.inl ⟨⟨rfl,rfl,rfl,rfl,rfl,trivial⟩,rfl⟩) ?_
       clear hs
       rintro ⟨H6,i⟩ ⟨hs,hi,hgi⟩
       dsimp only at hs hi hgi ⊢
       repeat' (first|refine nX ?_|refine nY (fun K0 hK0=>?_)|refine bH ?_|refine bM ?_|refine iS hs ?_|refine rS hs ?_|refine eI _ (aI rfl ?_)|refine qg ?_|refine qf ?_|refine qc ?_|refine oJ ?_|refine nN hs (fun _ _ hs=>?_)|refine nS hs (fun _ _ hs=>?_)|refine sX hs (fun _ hs=>?_)|(refine hK0 _ _ ?_;clear hK0)|fail)
       refine And.intro (fun hc=>?_) (fun hc=>?_)
       ·have hil:i<(finR t (r:Int)).length:=by simp at hc;omega
        clear hc
        have hmem:(finR t (r:Int))[i]! ∈ finR t (r:Int):=getElem!_pos (finR t (r:Int)) i hil ▸ List.getElem_mem hil
        have hws:=hfr _ hmem
        have hbad := @srtB_bad t (cont rows) p r i hp hrp hil
        obtain ⟨s,hw2⟩ : ∃ s:Nat,(finR t (r:Int))[i]! = s:=⟨((finR t (r:Int))[i]!).toNat,by omega⟩
        rw[hw2] at hws hbad
        obtain ⟨q,e,a1,a2,a3,a4,a5,a6,a7⟩:=hdm.at (r:=(r:Int)) (s:=(s:Int)) (by omega) (by rw[<- hN,hsl];exact hws)
        rw[Int.toNat_natCast] at a1 a2
        have ho2:=wS rows 0 r q a1
        rw[a5] at ho2
        have hsn:s<n:=by have:=hws.2;rw[<- hsl,hN] at this;omega
        have hr2:(rowC q.2)[s]? = some (lfV e.1 e.2):=by unfold rowC;rw[List.getElem?_map,a2];rfl
        have hro:RkL t.pr e.2:=by rw[hp,<- a7];exact rk_get hrk _ _
        rw[a7] at hbad
        repeat' (first|refine nX ?_|refine nY (fun K0 hK0=>?_)|refine bH ?_|refine bM ?_|refine iS hs ?_|refine rS hs ?_|refine eI _ (aI rfl ?_)|refine qg ?_|refine qf ?_|refine qc ?_|refine oJ ?_|refine nN hs (fun _ _ hs=>?_)|refine nS hs (fun _ _ hs=>?_)|refine sX hs (fun _ hs=>?_)|(refine hK0 _ _ ?_;clear hK0)|fail)
        have hb2:=hs.mem (c:=true) (b:=q.1) (B:=rowB q.2) (List.mem_cons_of_mem _ (List.mem_cons_of_mem _ (List.mem_cons_of_mem _ (List.mem_append_left _ (zJ a3)))))
        refine qL tok mx [0,0,3,7,0,0,48,112,255,511,1023] [false,false,false,false,true,true,true,true,false,false,false] (.first 0 (.first 1 (.first 2 (.first 3 (.first 4 (.first 5 (.first 6 (.first 7 (.first 8 (.first 9 (.first 10 .done))))))))))) (by kernel_rfl) ?_
        refine qP (fun K0 hK0=>?_)
        repeat' (first|refine nX ?_|refine nY (fun K0 hK0=>?_)|refine bH ?_|refine bM ?_|refine iS hs ?_|refine rS hs ?_|refine eI _ (aI rfl ?_)|refine qg ?_|refine qf ?_|refine qc ?_|refine oJ ?_|refine nN hs (fun _ _ hs=>?_)|refine nS hs (fun _ _ hs=>?_)|refine sX hs (fun _ hs=>?_)|(refine hK0 _ _ ?_;clear hK0)|fail)
        iterate 12 (
         all_goals try exact trivial
         all_goals try (first | refine vZ ho2 ?_ | refine vZ hr2 ?_ | refine qj hb2 ?_ | refine qi hb2 ?_ | refine Ld_ak hil hw2 ?_)
         all_goals try (first | refine And.intro ?_ trivial | refine And.intro ?_ (And.intro ?_ trivial) | refine And.intro ?_ (And.intro ?_ (And.intro ?_ trivial)))
         all_goals try (
          repeat' (first|refine nX ?_|refine nY (fun K0 hK0=>?_)|refine bH ?_|refine bM ?_|refine iS hs ?_|refine rS hs ?_|refine eI _ (aI rfl ?_)|refine qg ?_|refine qf ?_|refine qc ?_|refine oJ ?_|refine nN hs (fun _ _ hs=>?_)|refine nS hs (fun _ _ hs=>?_)|refine sX hs (fun _ hs=>?_)|(refine hK0 _ _ ?_;clear hK0)|fail)
          ))
        have hnxt : ∀ H7,HS H none' ((true,kf,rw' (finR t (r:Int)))::(true,ob, .cells true 1 (outC rows 0))::(true,b1,shB t alg b c d l.length)::(rwL rows++lfL M)) H7->stcF e.2=true->HS H none' ((true,kf,rw' (finR t (r:Int)))::(true,ob, .cells true 1 (outC rows 0))::(true,b1,shB t alg b c d l.length)::(rwL rows++lfL M)) H7/\i+1<=(finR t (r:Int)).length/\∀ i2,i2<i+1->stcF (tget (cont rows) (r:Int) (finR t (r:Int))[i2]!)=true:=fun H7 hs hh=>⟨hs,hil,fun i2 hi2=>by
         by_cases hii:i2=i
         ·rw[hii,hw2,a7];exact hh
         ·exact hgi i2 (by omega)⟩
        by_cases hnl:e.2 = []
        ·rw[hnl]
         refine wH tok 1 ?_
         change vcg _ _ _ _ _ _ _ _ _
         repeat' (first|refine nX ?_|refine nY (fun K0 hK0=>?_)|refine bH ?_|refine bM ?_|refine iS hs ?_|refine rS hs ?_|refine eI _ (aI rfl ?_)|refine qg ?_|refine qf ?_|refine qc ?_|refine oJ ?_|refine nN hs (fun _ _ hs=>?_)|refine nS hs (fun _ _ hs=>?_)|refine sX hs (fun _ hs=>?_)|(refine dI (fun hc=>?_) (fun hc=>?_) <;> try (exfalso;omega))|(refine hK0 _ _ ?_;clear hK0)|fail)
         exact⟨(H6,i+1),hnxt H6 hs (by rw[hnl];rfl),by dsimp only;omega,Or.inl ⟨⟨rfl,rfl,rfl,rfl,rfl,trivial⟩,rfl⟩⟩
        ·rw[wX hnl]
         have hlm:(true,e.1,ogB e.2)∈(true,kf,rw' (finR t (r:Int)))::(true,ob, .cells true 1 (outC rows 0))::(true,b1,shB t alg b c d l.length)::(rwL rows++lfL M):=List.mem_cons_of_mem _ (List.mem_cons_of_mem _ (List.mem_cons_of_mem _ (List.mem_append_right _ (yh (hlf q a3 e a4 hnl)))))
         have hlp:0<e.2.length:=List.length_pos_iff.2 hnl
         refine qQ (α := List Blk × Nat) tok (fun z=>HS H none' ((true,kf,rw' (finR t (r:Int)))::(true,ob, .cells true 1 (outC rows 0))::(true,b1,shB t alg b c d l.length)::(rwL rows++lfL M)) z.1/\z.2<e.2.length/\∀ i,i<z.2->e.2[i]!.1<e.2[i+1]!.1)
          (fun z=>[(1, .pointer (some ⟨b1,0,none⟩)),(6,sv ob p),(8, .int .i64 (r:Int)),(9,sv kf (finR t (r:Int)).length),(11, .int .i64 (i:Int)),(12,sv e.1 e.2.length),(13, .int .i64 (z.2+1:Nat))]) (fun z=>z.1) (fun z=>e.2.length-z.2)
          (H6,0) ⟨hs,hlp,fun i2 hi2=>absurd hi2 (by dsimp only;omega)⟩ (Or.inl ⟨⟨rfl,rfl,rfl,rfl,rfl,rfl,rfl,trivial⟩,rfl⟩) ?_
         clear hs hb2
         rintro ⟨H7,j⟩ ⟨hs,hj,hgj⟩
         dsimp only at hs hj hgj ⊢
         repeat' (first|refine nX ?_|refine nY (fun K0 hK0=>?_)|refine bH ?_|refine bM ?_|refine iS hs ?_|refine rS hs ?_|refine eI _ (aI rfl ?_)|refine qg ?_|refine qf ?_|refine qc ?_|refine oJ ?_|refine nN hs (fun _ _ hs=>?_)|refine nS hs (fun _ _ hs=>?_)|refine sX hs (fun _ hs=>?_)|(refine hK0 _ _ ?_;clear hK0)|fail)
         refine And.intro (fun hc=>?_) (fun hc=>?_)
         ·have hjl:j+1<e.2.length:=by simp at hc;omega
          clear hc
          have hbk:=hs.mem hlm
          have hx:=hro e.2[j+1]! (getElem!_pos e.2 (j+1) hjl ▸ List.getElem_mem hjl)
          have hy:=hro e.2[j]! (getElem!_pos e.2 j hj ▸ List.getElem_mem hj)
          have hbd := @stc_bad e.2 j hjl
          refine qL tok mx [0,0,2,7,15,31,0,0,192,448,960,2047] [false,false,false,false,false,false,true,true,true,true,true,false] (.first 0 (.first 1 (.first 2 (.first 3 (.first 4 (.first 5 (.first 6 (.first 7 (.first 8 (.first 9 (.first 10 (.first 11 .done)))))))))))) (by kernel_rfl) ?_
          refine qP (fun K0 hK0=>?_)
          repeat' (first|refine nX ?_|refine nY (fun K0 hK0=>?_)|refine bH ?_|refine bM ?_|refine iS hs ?_|refine rS hs ?_|refine eI _ (aI rfl ?_)|refine qg ?_|refine qf ?_|refine qc ?_|refine oJ ?_|refine nN hs (fun _ _ hs=>?_)|refine nS hs (fun _ _ hs=>?_)|refine sX hs (fun _ hs=>?_)|(refine hK0 _ _ ?_;clear hK0)|fail)
          iterate 12 (
           all_goals try exact trivial
           all_goals try (first | refine qj hbk ?_ | refine qi hbk ?_ | refine Exists.intro j (And.intro (by omega) (And.intro hj ?_)) | refine Ld_og0 hjl ?_ | refine Ld_og0 hj ?_)
           all_goals try (first | refine And.intro ?_ trivial | refine And.intro ?_ (And.intro ?_ trivial) | refine And.intro ?_ (And.intro ?_ (And.intro ?_ trivial)))
           all_goals try (
            repeat' (first|refine nX ?_|refine nY (fun K0 hK0=>?_)|refine bH ?_|refine bM ?_|refine iS hs ?_|refine rS hs ?_|refine eI _ (aI rfl ?_)|refine qg ?_|refine qf ?_|refine qc ?_|refine oJ ?_|refine nN hs (fun _ _ hs=>?_)|refine nS hs (fun _ _ hs=>?_)|refine sX hs (fun _ hs=>?_)|(refine dI (fun hc=>?_) (fun hc=>?_) <;> try (exfalso;omega))|(refine hK0 _ _ ?_;clear hK0)|fail)
            ))
          all_goals first
           | (rw[hbad (hbd (by omega))] at h
              exact h _ (qh hs))
           | exact⟨(H7,j+1),⟨hs,hjl,fun i2 hi2=>by
              by_cases hii:i2=j
              ·rw[hii];omega
              ·exact hgj i2 (by dsimp only at hi2;omega)⟩,by dsimp only;omega,Or.inl ⟨⟨rfl,rfl,rfl,rfl,rfl,rfl,rfl,trivial⟩,rfl⟩⟩
           | trace_state
         ·have hje:j+1=e.2.length:=by simp at hc;omega
          repeat' (first|refine nX ?_|refine nY (fun K0 hK0=>?_)|refine bH ?_|refine bM ?_|refine iS hs ?_|refine rS hs ?_|refine eI _ (aI rfl ?_)|refine qg ?_|refine qf ?_|refine qc ?_|refine oJ ?_|refine nN hs (fun _ _ hs=>?_)|refine nS hs (fun _ _ hs=>?_)|refine sX hs (fun _ hs=>?_)|(refine dI (fun hc=>?_) (fun hc=>?_) <;> try (exfalso;omega))|(refine hK0 _ _ ?_;clear hK0)|fail)
          exact⟨(H7,i+1),hnxt H7 hs (stc_good (fun i2 hi2=>hgj i2 (by omega))),by dsimp only;omega,Or.inl ⟨⟨rfl,rfl,rfl,rfl,rfl,trivial⟩,rfl⟩⟩
       ·have hie:i=(finR t (r:Int)).length:=by simp at hc;omega
        subst hie
        repeat' (first|refine nX ?_|refine nY (fun K0 hK0=>?_)|refine bH ?_|refine bM ?_|refine iS hs ?_|refine rS hs ?_|refine eI _ (aI rfl ?_)|refine qg ?_|refine qf ?_|refine qc ?_|refine oJ ?_|refine nN hs (fun _ _ hs=>?_)|refine nS hs (fun _ _ hs=>?_)|refine sX hs (fun _ hs=>?_)|(refine dI (fun hc=>?_) (fun hc=>?_) <;> try (exfalso;omega))|(refine hK0 _ _ ?_;clear hK0)|fail)
        exact⟨(H6,r+1),⟨hs.pickR (A := [_,_,_]) [1,2] (by decide) (A' := [_,_]) rfl,hrp,fun r2 hr2=>by
         by_cases hrr:r2=r
         ·rw[hrr];exact hgi
         ·exact hgd r2 (by dsimp only at hr2;omega)⟩,by dsimp only;omega,Or.inl ⟨⟨rfl,rfl,rfl,trivial⟩,rfl⟩⟩
      ·have hre:r=p:=by omega
       subst hre
       rw[srtB_good hp hgd] at h
       repeat' (first|refine nX ?_|refine nY (fun K0 hK0=>?_)|refine bH ?_|refine bM ?_|refine iS hs ?_|refine rS hs ?_|refine eI _ (aI rfl ?_)|refine qg ?_|refine qf ?_|refine qc ?_|refine oJ ?_|refine nN hs (fun _ _ hs=>?_)|refine nS hs (fun _ _ hs=>?_)|refine sX hs (fun _ hs=>?_)|(refine dI (fun hc=>?_) (fun hc=>?_) <;> try (exfalso;omega))|(refine hK0 _ _ ?_;clear hK0)|fail)
       exact h _ (qh hs)
 ·have hb:(decide (sndF t l=0)&&rgtR t l)=false:=by
   by_cases h0:sndF t l=0
   ·rw[decide_eq_true h0,Bool.true_and]
    cases hr:rgtR t l with
    | false=>rfl
    | true=>exact absurd ⟨h0,hr⟩ hgo
   ·rw[decide_eq_false h0];rfl
  have hb2:(decide (sndF t l=0)&&orR t l)=false:=by
   rw[hor,<- Bool.and_assoc,<- Bool.and_assoc,hb]
   rfl
  rw[hb2] at h
  rw[hb]
  generalize sndF t l=z at h ⊢
  repeat' (first|refine nX ?_|refine nY (fun K0 hK0=>?_)|refine bH ?_|refine bM ?_|refine iS hs ?_|refine rS hs ?_|refine eI _ (aI rfl ?_)|refine qg ?_|refine qf ?_|refine qc ?_|refine oJ ?_|refine nN hs (fun _ _ hs=>?_)|refine nS hs (fun _ _ hs=>?_)|refine sX hs (fun _ hs=>?_)|(refine dI (fun hc=>?_) (fun hc=>?_) <;> try (exfalso;omega))|(refine hK0 _ _ ?_;clear hK0)|fail)
  exact h _ (qh hs)
end Go.Af.Tryz
namespace Go.Af.Tryz
open Go Go.Proofs
set_option maxRecDepth 100000

theorem spn_at (t:Tk) (f g:Int) {i:Nat} (h:i<(spnF t f g).length):(spnF t f g)[i]! = f*t.pa+(i:Int):=by
 rw[getElem!_pos _ i h]
 unfold spnF at h ⊢
 rw[List.getElem_map,List.getElem_range]
theorem cpL_mem {fr fs:Nat->Int} {xs:List Int} {w:Fi} (h:w∈cpL fr fs xs) : ∃ i,i<xs.length/\w=⟨xs[i]!,fr i,fs i, -1⟩:=by
 obtain ⟨i,hi,e⟩:=List.mem_map.1 h
 exact⟨i,List.mem_range.1 hi,e.symm⟩
theorem jnL_mem {u:Int} {xs:List Int} {w:Fi} (h:w∈jnL u xs) : ∃ i,i<xs.length/\w=⟨xs[i]!,0,0,u⟩:=by
 obtain ⟨i,hi,e⟩:=List.mem_map.1 h
 exact⟨i,List.mem_range.1 hi,e.symm⟩
theorem has_cp {t:Tk} {w:Fi} {r:Int} (l:List Og) (hu:w.u = -1) (hj:joiF t.op=false) (hs:srcF t r w.s=(w.r,w.f)):hasF t w l=holF t r w.s l:=by
 unfold hasF holF
 rw[if_pos (by omega),if_pos hj,hs]
theorem has_jn {t:Tk} {w:Fi} {r:Int} (l:List Og) (hu0:0<=w.u) (hu:w.u=lstF t r) (hj:joiF t.op=true):hasF t w l=holF t r w.s l:=by
 unfold hasF holF
 rw[if_neg (by omega),hj,if_neg (by decide)]
 congr 1
 rw[Bool.eq_iff_iff,List.all_eq_true,List.all_eq_true]
 have key : ∀ q:Nat,q∈List.range t.pr.toNat->(badK t w.u (q:Int) (cntL l q)=badH t (lstF t r) (q:Int) (cntL l q)):=fun q hq=>by
  have hq:=List.mem_range.1 hq
  have hk:=(cnt_le l (q:Int)).1
  unfold badK badH
  rw[hu]
  have h10:t.op=10->(q:Int)<=lstF t r:=fun e=>by
   unfold lstF
   rw[if_neg (by omega)]
   omega
  rw[decide_eq_decide]
  by_cases e:t.op=10
  ·have:=h10 e
   omega
  ·omega
 exact⟨fun h q hq=>by rw[<- key q hq];exact h q hq,fun h q hq=>by rw[key q hq];exact h q hq⟩
theorem tdm {a i x:Int} (ha:0<a) (hx:0<=x) (h0:0<=i) (h1:i<a):(x*a+i).tdiv a=x/\(x*a+i).tmod a=i:=by
 have hn:0<=x*a+i:=by
  have:=Int.mul_nonneg hx (Int.le_of_lt ha)
  omega
 rw[Int.tdiv_eq_ediv_of_nonneg hn,Int.tmod_eq_emod_of_nonneg hn,Int.add_comm,Int.add_mul_ediv_right _ _ (by omega),Int.add_mul_emod_self_right,Int.ediv_eq_zero_of_lt h0 h1,Int.emod_eq_of_lt h0 h1]
 omega
theorem has_hol {t:Tk} (kt:TkOk t) {r:Int} (hr:0<=r/\r<t.pr) {w:Fi} (hw:w∈finF t r) (l:List Og):hasF t w l=holF t r w.s l:=by
 have hop:=kt.op
 have hpa:=kt.pa
 have hpr:=kt.pr
 have hc:t.op=1\/t.op=2\/t.op=3\/t.op=4\/t.op=5\/t.op=6\/t.op=7\/t.op=8\/t.op=9\/t.op=10\/t.op=11:=by omega
 have jn : ∀ u f g,joiF t.op=true->0<=u->u=lstF t r->w∈jnL u (spnF t f g)->hasF t w l=holF t r w.s l:=fun u f g hj h0 hu hm=>by
  obtain ⟨i,hi,rfl⟩:=jnL_mem hm
  exact has_jn l h0 hu hj
 have cp : ∀ fr fs f g,joiF t.op=false->(∀ i:Nat,i<(spnF t f g).length->srcF t r (f*t.pa+(i:Int))=(fr i,fs i))->w∈cpL fr fs (spnF t f g)->hasF t w l=holF t r w.s l:=fun fr fs f g hj hs hm=>by
  obtain ⟨i,hi,rfl⟩:=cpL_mem hm
  refine has_cp l rfl hj ?_
  dsimp only
  rw[spn_at t f g hi]
  exact hs i hi
 unfold finF at hw
 rcases hc with e | e | e | e | e | e | e | e | e | e | e
 ·rw[if_pos e] at hw
  refine cp _ _ _ _ (by unfold joiF;exact decide_eq_false (by omega)) (fun i hi=>?_) hw
  unfold srcF
  rw[if_pos (by omega)]
  congr 1
  omega
 ·rw[if_neg (by omega),if_neg (by omega),if_neg (by omega),if_neg (by omega),if_neg (by omega),if_pos e] at hw
  split at hw
  ·exact jn _ _ _ (by unfold joiF;exact decide_eq_true (by omega)) (by omega) (by unfold lstF;rw[if_neg (by omega)]) hw
  ·cases hw
 ·rw[if_neg (by omega),if_neg (by omega),if_neg (by omega),if_neg (by omega),if_neg (by omega),if_neg (by omega),if_neg (by omega),if_neg (by omega)] at hw
  exact jn _ _ _ (by unfold joiF;exact decide_eq_true (by omega)) (by omega) (by unfold lstF;rw[if_neg (by omega)]) hw
 ·rw[if_neg (by omega),if_neg (by omega),if_neg (by omega),if_neg (by omega),if_neg (by omega),if_neg (by omega),if_pos e] at hw
  exact jn _ _ _ (by unfold joiF;exact decide_eq_true (by omega)) (by omega) (by unfold lstF;rw[if_pos e]) hw
 ·rw[if_neg (by omega),if_neg (by omega),if_pos (by omega)] at hw
  split at hw
  ·refine cp _ _ _ _ (by unfold joiF;exact decide_eq_false (by omega)) (fun i hi=>?_) hw
   unfold srcF
   rw[if_neg (by omega),if_pos (by omega),show (0:Int)*t.pa+(i:Int)=i by omega]
  ·cases hw
 ·rw[if_neg (by omega),if_pos e] at hw
  refine cp _ _ _ _ (by unfold joiF;exact decide_eq_false (by omega)) (fun i hi=>?_) hw
  unfold srcF
  rw[if_pos (by omega),spn_at t r (r+1) hi]
 ·rw[if_neg (by omega),if_neg (by omega),if_pos (by omega),if_pos (by omega)] at hw
  refine cp _ _ _ _ (by unfold joiF;exact decide_eq_false (by omega)) (fun i hi=>?_) hw
  unfold srcF
  rw[if_neg (by omega),if_pos (by omega),show (0:Int)*t.pa+(i:Int)=i by omega]
 ·rw[if_neg (by omega),if_neg (by omega),if_neg (by omega),if_pos e] at hw
  refine cp _ _ _ _ (by unfold joiF;exact decide_eq_false (by omega)) (fun i hi=>?_) hw
  unfold srcF
  rw[if_neg (by omega),if_neg (by omega),if_pos e]
  have hi0:0<=(i:Int):=by omega
  have hm:=tmod_rng0 hi0 hpa.1
  have hd:=tdiv_rng hi0 hpa.1
  have hdm:(i:Int)=(i:Int).tdiv t.pa*t.pa+(i:Int).tmod t.pa:=by
   have:=Int.tmod_add_mul_tdiv (i:Int) t.pa
   rw[Int.mul_comm] at this
   omega
  have hsp:=spn_pos kt r
  have hx:=tdm (a:=t.pa) (i:=(i:Int).tmod t.pa) (x:=t.pr+(i:Int).tdiv t.pa) (by omega) (by omega) hm.1 hm.2
  rw[Int.add_mul,Int.add_assoc,<- hdm] at hx
  rw[hx.1,hx.2,spn_at t r (r+1) (by rw[hsp.1];omega)]
  congr 1
  ·omega
  ·omega
 ·rw[if_neg (by omega),if_neg (by omega),if_neg (by omega),if_neg (by omega),if_neg (by omega),if_neg (by omega),if_neg (by omega),if_pos e] at hw
  exact jn _ _ _ (by unfold joiF;exact decide_eq_true (by omega)) (by omega) (by unfold lstF;rw[if_neg (by omega)]) hw
 ·rw[if_neg (by omega),if_neg (by omega),if_neg (by omega),if_neg (by omega),if_neg (by omega),if_neg (by omega),if_neg (by omega),if_neg (by omega)] at hw
  exact jn _ _ _ (by unfold joiF;exact decide_eq_true (by omega)) (by omega) (by unfold lstF;rw[if_neg (by omega)]) hw
 ·rw[if_neg (by omega),if_neg (by omega),if_neg (by omega),if_neg (by omega),if_pos e] at hw
  obtain ⟨d,hd,hw⟩:=List.mem_flatMap.1 hw
  unfold halF at hw
  obtain ⟨k,hk,hw⟩:=List.mem_flatMap.1 hw
  have hk:=List.mem_range.1 hk
  unfold hvL at hw
  split at hw
  ·cases hw
  ·refine cp _ _ _ _ (by unfold joiF;exact decide_eq_false (by omega)) (fun i hi=>?_) hw
   rw[wW,show (2+2*(d:Int)+(k:Int))*t.pa=(1+2*(d:Int)+(k:Int))*t.pa+t.pa by
    rw[show (2+2*(d:Int)+(k:Int))=(1+2*(d:Int)+(k:Int))+1 by omega,Int.add_mul,Int.one_mul]] at hi
   have hx:=tdm (a:=t.pa) (i:=(i:Int)) (x:=1+2*(d:Int)+(k:Int)) (by omega) (by omega) (by omega) (by omega)
   unfold srcF
   rw[if_neg (by omega),if_neg (by omega),if_neg (by omega),hx.1,hx.2]
   have h1:((1+2*(d:Int)+(k:Int)-1).tdiv 2).toNat=d:=by
    rw[Int.tdiv_eq_ediv_of_nonneg (by omega)]
    omega
   have h2:decide ((1+2*(d:Int)+(k:Int)).tmod 2=1)=decide (k=0):=by
    rw[Int.tmod_eq_emod_of_nonneg (by omega),decide_eq_decide]
    omega
   rw[h1,h2]
theorem fin_same {t:Tk} (kt:TkOk t) (tr:Tr):finG t tr=finH t tr:=by
 unfold finG finH
 rw[Bool.eq_iff_iff,List.all_eq_true,List.all_eq_true]
 have key : ∀ r:Nat,r∈List.range t.pr.toNat->((finF t (r:Int)).all (fun w=>hasF t w (tget tr (r:Int) w.s))=(finR t (r:Int)).all (fun s=>holF t (r:Int) s (tget tr (r:Int) s))):=fun r hr=>by
  have hr:=List.mem_range.1 hr
  rw[<- fin_s kt,List.all_map,Bool.eq_iff_iff,List.all_eq_true,List.all_eq_true]
  have hk : ∀ w∈finF t (r:Int),hasF t w (tget tr (r:Int) w.s)=holF t (r:Int) w.s (tget tr (r:Int) w.s):=fun w hw=>has_hol kt (by omega) hw _
  exact⟨fun h w hw=>by rw[<- h w hw,hk w hw];rfl,fun h w hw=>by rw[hk w hw];exact h w hw⟩
 exact⟨fun h r hr=>by rw[<- key r hr];exact h r hr,fun h r hr=>by rw[key r hr];exact h r hr⟩
theorem rgt_same {t:Tk} (kt:TkOk t) (l:List Coll.St):rgtF t l=rgtR t l:=by
 unfold rgtF rgtR
 cases trcF t l with
 | none=>rfl
 | some tr=>exact fin_same kt tr
theorem cnt_two : ∀ {l:List Og} {i:Nat},i+1<l.length->l[i]!.1=l[i+1]!.1->2<=cntL l l[i]!.1
 | [],_,h,_=>absurd h (by simp)
 | [_],_,h,_=>absurd h (by simp)
 | a::b::r,0,_,e=>by
   have e:a.1=b.1:=by simpa using e
   have:cntL (a::b::r) a.1=cntL r a.1+2:=by
    unfold cntL
    rw[List.countP_cons,List.countP_cons]
    simp[e]
    omega
   show 2<=cntL (a::b::r) a.1
   have:=(cnt_le r a.1).1
   omega
 | a::b::r,i+1,h,e=>by
   have ih:=cnt_two (l:=b::r) (i:=i) (by simpa using h) (by simpa using e)
   have:cntL (b::r) (b::r)[i]!.1<=cntL (a::b::r) (b::r)[i]!.1:=by
    unfold cntL
    rw[List.countP_cons (a:=a)]
    omega
   have e2:(a::b::r)[i+1]! = (b::r)[i]! := by simp
   rw[e2]
   omega
theorem srt_stc {l:List Og} (h : ∀ o∈l,cntL l o.1<=1):srtF l=stcF l:=by
 unfold srtF stcF
 rw[Bool.eq_iff_iff,List.all_eq_true,List.all_eq_true]
 constructor
 ·intro hs i hi
  have hi2:=List.mem_range.1 hi
  have h1:=of_decide_eq_true (hs i hi)
  refine decide_eq_true ?_
  by_cases e:l[i]!.1=l[i+1]!.1
  ·have:=cnt_two (by omega) e
   have:=h l[i]! (getElem!_pos l i (by omega) ▸ List.getElem_mem (by omega))
   omega
  ·omega
 ·intro hs i hi
  have h1:=of_decide_eq_true (hs i hi)
  exact decide_eq_true (by omega)
theorem ord_same {t:Tk} (kt:TkOk t) (l:List Coll.St):orF t l=orR t l:=by
 unfold orF orR
 cases ht:trcF t l with
 | none=>rfl
 | some tr =>
   dsimp only
   rw[<- fin_same kt tr]
   have hrk:=trc_rk ht
   cases hg:finG t tr with
   | false=>rfl
   | true =>
     by_cases hop:t.op=10
     ·rw[decide_eq_false (fun hne=>hne hop)];rfl
     ·rw[decide_eq_true hop,Bool.true_and,Bool.true_and,Bool.true_and]
      unfold finG at hg
      rw[List.all_eq_true] at hg
      have hg : ∀ r:Nat,r<t.pr.toNat->∀ w∈finF t (r:Int),hasF t w (tget tr (r:Int) w.s)=true:=fun r hr w hw=>List.all_eq_true.1 (hg r (List.mem_range.2 hr)) w hw
      have hh : ∀ r:Nat,r<t.pr.toNat->∀ w∈finF t (r:Int),holF t (r:Int) w.s (tget tr (r:Int) w.s)=true:=fun r hr w hw=>by rw[<- has_hol kt (by omega) hw];exact hg r hr w hw
      cases hj:joiF t.op with
      | false =>
        rw[Bool.not_false,Bool.true_or]
        unfold srtA
        rw[List.all_eq_true]
        intro r hr
        rw[List.all_eq_true]
        intro w hw
        have:=hh r (List.mem_range.1 hr) w hw
        unfold holF at this
        rw[if_pos hj] at this
        rw[of_decide_eq_true this]
        rfl
      | true =>
        rw[Bool.not_true,Bool.false_or]
        have hsame : ∀ r:Nat,r<t.pr.toNat->∀ w∈finF t (r:Int),srtF (tget tr (r:Int) w.s)=stcF (tget tr (r:Int) w.s):=fun r hr w hw=>by
         refine srt_stc (fun o ho=>?_)
         have hro:=rk_get hrk (r:Int) w.s o ho
         have:=hh r hr w hw
         unfold holF at this
         rw[hj,if_neg (by decide),Bool.and_eq_true,List.all_eq_true (l:=List.range _)] at this
         have hb:=this.2 o.1.toNat (List.mem_range.2 (by omega))
         rw[show ((o.1.toNat:Nat):Int)=o.1 by omega] at hb
         have hb:badH t (lstF t (r:Int)) o.1 (cntL (tget tr (r:Int) w.s) o.1)=false:=by simpa using hb
         unfold badH at hb
         have:=of_decide_eq_false hb
         omega
        unfold srtA srtB
        rw[Bool.eq_iff_iff,List.all_eq_true,List.all_eq_true]
        have key : ∀ r:Nat,r∈List.range t.pr.toNat->((finF t (r:Int)).all (fun w=>srtF (tget tr (r:Int) w.s))=(finR t (r:Int)).all (fun s=>stcF (tget tr (r:Int) s))):=fun r hr=>by
         have hr:=List.mem_range.1 hr
         rw[<- fin_s kt,List.all_map,Bool.eq_iff_iff,List.all_eq_true,List.all_eq_true]
         exact⟨fun h w hw=>by have:=h w hw;rw[hsame r hr w hw] at this;exact this,fun h w hw=>by rw[hsame r hr w hw];exact h w hw⟩
        exact⟨fun h r hr=>by rw[<- key r hr];exact h r hr,fun h r hr=>by rw[key r hr];exact h r hr⟩
end Go.Af.Tryz
