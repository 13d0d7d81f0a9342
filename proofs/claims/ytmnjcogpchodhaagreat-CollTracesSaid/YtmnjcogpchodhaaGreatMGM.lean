/-
  The reference: Joins, Last, counts.
  The reference's Source.
  Whether a slot has what it must have: the reference.
  The reference's Right.
-/
import Derived.Test.YtmnjcogpchodhaaGreatMGL
set_option linter.all false
namespace Go.Af.Tryz
open Go Go.Proofs
set_option maxRecDepth 100000
set_option maxHeartbeats 4000000
attribute [local irreducible] awp qC vK vS vH qJ isCells qy qp qW qN qw roundEnd

def joiF (op:Int):Bool:=decide (op=2\/op=3\/op=4\/op=9\/op=10)
theorem c78 {H:List Blk} {op:Int} {R:Value->List Blk->Prop} (h:R (.bool (joiF op)) H):qC Tryz.prog 78 [.int .i64 op] H R:=by
 unfold joiF at h
 refine ql tok Tryz.call78 Tryz.func78 rfl Tryz.ntmps78 rfl (by simp) ?_
 have hs:=HS.start H none'
 repeat' (first|refine nX ?_|refine nY (fun K0 hK0=>?_)|refine bH ?_|refine bM ?_|refine iS hs ?_|refine rS hs ?_|refine eI _ (aI rfl ?_)|refine qg ?_|refine qf ?_|refine qc ?_|refine oJ ?_|refine nN hs (fun _ _ hs=>?_)|refine nS hs (fun _ _ hs=>?_)|refine sX hs (fun _ hs=>?_)|(refine dI (fun hc=>?_) (fun hc=>?_) <;> try (exfalso;omega))|(refine hK0 _ _ ?_;clear hK0)|fail)
 all_goals (
  first
   | (rw[decide_eq_true (by omega)] at h;exact h)
   | (rw[decide_eq_false (by omega)] at h;exact h)
   | (have e:(decide (op=10))=decide (op=2\/op=3\/op=4\/op=9\/op=10):=by
       rw[decide_eq_decide]
       omega
      rw[<- e] at h
      exact h))
def lstF (t:Tk) (r:Int):Int:=if t.op=4 then r else t.pr-1
theorem c197 {H:List Blk} {t:Tk} {r:Int} {b c:Nat} {R:Value->List Blk->Prop} (hp:1<=t.pr/\t.pr<=64) (h : ∀ H',HS H none' [] H' -> R (.int .i64 (lstF t r)) H'):qC Tryz.prog 197 [tkV t b c, .int .i64 r] H R:=by
 unfold lstF at h
 refine ql tok Tryz.call197 Tryz.func197 rfl Tryz.ntmps197 rfl (by simp) ?_
 refine qm (HS.start H none') (fun H1 b1 e1 l1 hs=>?_)
 refine qo (fun _ hKs=>hKs _ _ ?_);clear hKs
 clear e1 l1
 replace h:=h H1 (qh hs)
 repeat' (first|refine nX ?_|refine nY (fun K0 hK0=>?_)|refine bH ?_|refine bM ?_|refine iS hs ?_|refine rS hs ?_|refine eI _ (aI rfl ?_)|refine qg ?_|refine qf ?_|refine qc ?_|refine oJ ?_|refine nN hs (fun _ _ hs=>?_)|refine nS hs (fun _ _ hs=>?_)|refine sX hs (fun _ hs=>?_)|(refine dI (fun hc=>?_) (fun hc=>?_) <;> try (exfalso;omega))|(refine hK0 _ _ ?_;clear hK0)|fail)
 all_goals (
  (repeat (first | rw[if_pos (by omega)] at h | rw[if_neg (by omega)] at h))
  exact h)
theorem Ld_og0 {l:List Og} {i:Nat} {K:Value->Prop} (hi:i<l.length) (h:K (.int .i64 l[i]!.1)):Ld (orgC l) (0+i*2+0) K:=⟨_,by rw[show 0+i*2+0=2*i by omega];exact (orgC_get l i hi).1,h⟩
theorem Ld_og1 {l:List Og} {i:Nat} {K:Value->Prop} (hi:i<l.length) (h:K (.int .i64 l[i]!.2)):Ld (orgC l) (0+i*2+1) K:=⟨_,by rw[show 0+i*2+1=2*i+1 by omega];exact (orgC_get l i hi).2,h⟩
theorem c196r {H:List Blk} {k p:Nat} {s:Int} {l:List Og} {R:Value->List Blk->Prop} (hk:Lf H k l) (hl:l.length<=128) (hrk:RkL (p:Int) l) (hp:1<=p/\p<=64)
 (h0:(∃ i,i<l.length/\l[i]!.2≠s)->∀ H',HS H none' [] H' -> R (.tuple ⟨[.slice none 0 0, .bool false]⟩) H')
 (h1:(∀ i,i<l.length->l[i]!.2=s)->∀ H' nb,HS H none' [(true,nb,rw' (cntR p l))] H' -> R (.tuple ⟨[sv nb p, .bool true]⟩) H'):qC Tryz.prog 196 [lfV k l, .int .i64 p, .int .i64 s] H R:=by
 refine ql tok Tryz.call196 Tryz.func196 rfl Tryz.ntmps196 rfl (by simp) ?_
 by_cases hn:l = []
 ·subst hn
  have hs:=HS.start H none'
  repeat' (first|refine nX ?_|refine nY (fun K0 hK0=>?_)|refine bH ?_|refine bM ?_|refine iS hs ?_|refine rS hs ?_|refine eI _ (aI rfl ?_)|refine qg ?_|refine qf ?_|refine qc ?_|refine oJ ?_|refine nN hs (fun _ _ hs=>?_)|refine nS hs (fun _ _ hs=>?_)|refine sX hs (fun _ hs=>?_)|(refine dI (fun hc=>?_) (fun hc=>?_) <;> try (exfalso;omega))|(refine hK0 _ _ ?_;clear hK0)|fail)
  refine⟨p,p,⟨rfl,rfl⟩,⟨Nat.le_refl _,by show _*(8+1)<=_;omega⟩,ints (cntR p []),zr_cnt p, ?_⟩
  refine qm hs (fun H3 nb e3 l3 hs=>?_)
  clear e3 l3
  repeat' (first|refine nX ?_|refine nY (fun K0 hK0=>?_)|refine bH ?_|refine bM ?_|refine iS hs ?_|refine rS hs ?_|refine eI _ (aI rfl ?_)|refine qg ?_|refine qf ?_|refine qc ?_|refine oJ ?_|refine nN hs (fun _ _ hs=>?_)|refine nS hs (fun _ _ hs=>?_)|refine sX hs (fun _ hs=>?_)|(refine dI (fun hc=>?_) (fun hc=>?_) <;> try (exfalso;omega))|(refine hK0 _ _ ?_;clear hK0)|fail)
  refine wH tok 1 ?_
  change vcg _ _ _ _ _ _ _ _ _
  repeat' (first|refine nX ?_|refine nY (fun K0 hK0=>?_)|refine bH ?_|refine bM ?_|refine iS hs ?_|refine rS hs ?_|refine eI _ (aI rfl ?_)|refine qg ?_|refine qf ?_|refine qc ?_|refine oJ ?_|refine nN hs (fun _ _ hs=>?_)|refine nS hs (fun _ _ hs=>?_)|refine sX hs (fun _ hs=>?_)|(refine dI (fun hc=>?_) (fun hc=>?_) <;> try (exfalso;omega))|(refine hK0 _ _ ?_;clear hK0)|fail)
  exact h1 (fun i hi=>by simp at hi) _ nb (hs.pick [0] (by decide) rfl)
 ·obtain ⟨wr,hkb⟩:=hk.elim (fun e=>absurd e hn) (fun e=>e)
  rw[wX hn]
  have hs:=(HS.start H none').add (c:=false) hkb (fun i p hi=>by simp at hi) (fun h=>by cases h)
  repeat' (first|refine nX ?_|refine nY (fun K0 hK0=>?_)|refine bH ?_|refine bM ?_|refine iS hs ?_|refine rS hs ?_|refine eI _ (aI rfl ?_)|refine qg ?_|refine qf ?_|refine qc ?_|refine oJ ?_|refine nN hs (fun _ _ hs=>?_)|refine nS hs (fun _ _ hs=>?_)|refine sX hs (fun _ hs=>?_)|(refine dI (fun hc=>?_) (fun hc=>?_) <;> try (exfalso;omega))|(refine hK0 _ _ ?_;clear hK0)|fail)
  refine⟨p,p,⟨rfl,rfl⟩,⟨Nat.le_refl _,by show _*(8+1)<=_;omega⟩,ints (cntR p []),zr_cnt p, ?_⟩
  refine qm hs (fun H3 nb e3 l3 hs=>?_)
  clear e3 l3
  repeat' (first|refine nX ?_|refine nY (fun K0 hK0=>?_)|refine bH ?_|refine bM ?_|refine iS hs ?_|refine rS hs ?_|refine eI _ (aI rfl ?_)|refine qg ?_|refine qf ?_|refine qc ?_|refine oJ ?_|refine nN hs (fun _ _ hs=>?_)|refine nS hs (fun _ _ hs=>?_)|refine sX hs (fun _ hs=>?_)|(refine dI (fun hc=>?_) (fun hc=>?_) <;> try (exfalso;omega))|(refine hK0 _ _ ?_;clear hK0)|fail)
  refine qQ (α := List Blk × Nat) tok (fun z=>HS H none' [(true,nb,rw' (cntR p (l.take z.2))),(false,k, .cells wr 2 (orgC l))] z.1/\z.2<=l.length/\∀ i,i<z.2->l[i]!.2=s)
   (fun z=>[(0,sv k l.length),(2, .int .i64 s),(8,sv nb p),(9, .int .i64 (z.2:Int))]) (fun z=>z.1) (fun z=>l.length-z.2)
   (_,0) ⟨hs,Nat.zero_le _,fun i hi=>absurd hi (by omega)⟩ (Or.inl ⟨⟨rfl,rfl,rfl,rfl,trivial⟩,rfl⟩) ?_
  clear hs
  rintro ⟨H8,j⟩ ⟨hs,hj,hgo⟩
  dsimp only at hs hj hgo ⊢
  repeat' (first|refine nX ?_|refine nY (fun K0 hK0=>?_)|refine bH ?_|refine bM ?_|refine iS hs ?_|refine rS hs ?_|refine eI _ (aI rfl ?_)|refine qg ?_|refine qf ?_|refine qc ?_|refine oJ ?_|refine nN hs (fun _ _ hs=>?_)|refine nS hs (fun _ _ hs=>?_)|refine sX hs (fun _ hs=>?_)|(refine hK0 _ _ ?_;clear hK0)|fail)
  refine And.intro (fun hc=>?_) (fun hc=>?_)
  ·have hjl:j<l.length:=by simp at hc;omega
   clear hc
   have hro:=hrk l[j]! (getElem!_pos l j hjl ▸ List.getElem_mem hjl)
   have htk:=take_snoc hjl
   have hcl:=cnt_le (l.take j)
   obtain ⟨r,hr⟩ : ∃ r:Nat,l[j]!.1=r:=⟨l[j]!.1.toNat,by omega⟩
   have hcl:=hcl (r:Int)
   rw[List.length_take] at hcl
   have hrp:r<p:=by omega
   have htk2:l.take (j+1)=l.take j ++ [((r:Int),l[j]!.2)]:=by rw[htk,<- hr]
   repeat' (first|refine nX ?_|refine nY (fun K0 hK0=>?_)|refine bH ?_|refine bM ?_|refine iS hs ?_|refine rS hs ?_|refine eI _ (aI rfl ?_)|refine qg ?_|refine qf ?_|refine qc ?_|refine oJ ?_|refine nN hs (fun _ _ hs=>?_)|refine nS hs (fun _ _ hs=>?_)|refine sX hs (fun _ hs=>?_)|(refine dI (fun hc=>?_) (fun hc=>?_) <;> try (exfalso;omega))|(refine hK0 _ _ ?_;clear hK0)|fail)
   refine Ld_og1 hjl ?_
   repeat' (first|refine nX ?_|refine nY (fun K0 hK0=>?_)|refine bH ?_|refine bM ?_|refine iS hs ?_|refine rS hs ?_|refine eI _ (aI rfl ?_)|refine qg ?_|refine qf ?_|refine qc ?_|refine oJ ?_|refine nN hs (fun _ _ hs=>?_)|refine nS hs (fun _ _ hs=>?_)|refine sX hs (fun _ hs=>?_)|(refine dI (fun hc=>?_) (fun hc=>?_) <;> try (exfalso;omega))|(refine hK0 _ _ ?_;clear hK0)|fail)
   ·exact h0 ⟨j,hjl,hc⟩ _ (qh hs)
   ·refine Ld_og0 hjl ?_
    rw[hr]
    repeat' (first|refine nX ?_|refine nY (fun K0 hK0=>?_)|refine bH ?_|refine bM ?_|refine iS hs ?_|refine rS hs ?_|refine eI _ (aI rfl ?_)|refine qg ?_|refine qf ?_|refine qc ?_|refine oJ ?_|refine nN hs (fun _ _ hs=>?_)|refine nS hs (fun _ _ hs=>?_)|refine sX hs (fun _ hs=>?_)|(refine dI (fun hc=>?_) (fun hc=>?_) <;> try (exfalso;omega))|(refine hK0 _ _ ?_;clear hK0)|fail)
    refine Ld_ak (by rw[xE];exact hrp) (cntR_get p (l.take j) hrp) ?_
    repeat' (first|refine nX ?_|refine nY (fun K0 hK0=>?_)|refine bH ?_|refine bM ?_|refine iS hs ?_|refine rS hs ?_|refine eI _ (aI rfl ?_)|refine qg ?_|refine qf ?_|refine qc ?_|refine oJ ?_|refine nN hs (fun _ _ hs=>?_)|refine nS hs (fun _ _ hs=>?_)|refine sX hs (fun _ hs=>?_)|(refine dI (fun hc=>?_) (fun hc=>?_) <;> try (exfalso;omega))|(refine hK0 _ _ ?_;clear hK0)|fail)
    refine vI hs 0 rfl _ rfl rfl (by rw[qX,xE];show 0+r*1+1<=_;omega) (cntR_at htk2) (fun H9 e9 hs=>?_)
    clear e9
    repeat' (first|refine nX ?_|refine nY (fun K0 hK0=>?_)|refine bH ?_|refine bM ?_|refine iS hs ?_|refine rS hs ?_|refine eI _ (aI rfl ?_)|refine qg ?_|refine qf ?_|refine qc ?_|refine oJ ?_|refine nN hs (fun _ _ hs=>?_)|refine nS hs (fun _ _ hs=>?_)|refine sX hs (fun _ hs=>?_)|(refine dI (fun hc=>?_) (fun hc=>?_) <;> try (exfalso;omega))|(refine hK0 _ _ ?_;clear hK0)|fail)
    exact⟨(H9,j+1),⟨hs.pick [0,1] (by decide) rfl,hjl,fun i hi=>by
     by_cases hij:i=j
     ·rw[hij];exact hc
     ·exact hgo i (by dsimp only at hi;omega)⟩,by dsimp only;omega,Or.inl ⟨⟨rfl,rfl,rfl,rfl,trivial⟩,rfl⟩⟩
  ·have hje:j=l.length:=by simp at hc;omega
   subst hje
   rw[List.take_length] at hs
   repeat' (first|refine nX ?_|refine nY (fun K0 hK0=>?_)|refine bH ?_|refine bM ?_|refine iS hs ?_|refine rS hs ?_|refine eI _ (aI rfl ?_)|refine qg ?_|refine qf ?_|refine qc ?_|refine oJ ?_|refine nN hs (fun _ _ hs=>?_)|refine nS hs (fun _ _ hs=>?_)|refine sX hs (fun _ hs=>?_)|(refine dI (fun hc=>?_) (fun hc=>?_) <;> try (exfalso;omega))|(refine hK0 _ _ ?_;clear hK0)|fail)
   exact h1 hgo _ nb (hs.pick [0] (by decide) rfl)
end Go.Af.Tryz
namespace Go.Af.Tryz
open Go Go.Proofs
set_option maxRecDepth 100000
set_option maxHeartbeats 4000000
attribute [local irreducible] awp qC vK vS vH qJ isCells qy qp qW qN qw roundEnd

def srcF (t:Tk) (r s:Int):Og :=
 if t.op=1\/t.op=6 then (t.ro,s)
 else if t.op=5\/t.op=7 then (s.tdiv t.pa,s)
 else if t.op=8 then (s.tdiv t.pa-t.pr,r*t.pa+s.tmod t.pa)
 else (neF t r ((s.tdiv t.pa-1).tdiv 2).toNat (decide ((s.tdiv t.pa).tmod 2=1)),s.tmod t.pa)
theorem tdiv_rng {s a:Int} (h0:0<=s) (ha:1<=a):0<=s.tdiv a/\s.tdiv a<=s:=by
 rw[Int.tdiv_eq_ediv_of_nonneg h0]
 exact⟨Int.ediv_nonneg h0 (by omega),Int.ediv_le_self _ h0⟩
theorem tmod_rng0 {s a:Int} (h0:0<=s) (ha:1<=a):0<=s.tmod a/\s.tmod a<a:=by
 rw[Int.tmod_eq_emod_of_nonneg h0]
 exact⟨Int.emod_nonneg s (by omega),Int.emod_lt_of_pos s (by omega)⟩
theorem tdiv_lt {s a b:Int} (h0:0<=s) (ha:1<=a) (h:s<b*a):s.tdiv a<b:=by
 rw[Int.tdiv_eq_ediv_of_nonneg h0]
 exact Int.ediv_lt_of_lt_mul (by omega) h
theorem c195 {H:List Blk} {t:Tk} {r s:Int} {b c:Nat} {R:Value->List Blk->Prop} (kt:TkOk t) (gr:Gr H t.sz b) (gw:Gw H t.ws b c) (hr:0<=r/\r<t.pr) (hs0:0<=s/\s<blkF t*t.pa) (hj:joiF t.op=false) (hh:t.op=11->1<=s.tdiv t.pa)
 (h : ∀ H',HS H none' [] H' -> R (.agg ⟨[.int .i64 (srcF t r s).1, .int .i64 (srcF t r s).2]⟩) H'):qC Tryz.prog 195 [tkV t b c, .int .i64 r, .int .i64 s] H R:=by
 have hpr:=kt.pr
 have hpa:=kt.pa
 have hop:=kt.op
 have hbr:=wC kt
 have hdm:=kt.dims
 have hj : ¬ (t.op=2\/t.op=3\/t.op=4\/t.op=9\/t.op=10):=of_decide_eq_false hj
 have hq:=tdiv_rng hs0.1 hpa.1
 have hm:=tmod_rng0 hs0.1 hpa.1
 have hlt:=tdiv_lt hs0.1 hpa.1 hs0.2
 have hrp:0<=r*t.pa/\r*t.pa<=64*16:=⟨Int.mul_nonneg hr.1 (by omega),Int.mul_le_mul (by omega) (by omega) (by omega) (by omega)⟩
 refine ql tok Tryz.call195 Tryz.func195 rfl Tryz.ntmps195 rfl (by simp) ?_
 refine qm (HS.start H none') (fun H1 b1 e1 l1 hs=>?_)
 refine qm hs (fun H2 b2 e2 l2 hs=>?_)
 refine qo (fun _ hKs=>hKs _ _ ?_);clear hKs
 clear e1 l1 e2 l2
 unfold srcF at h
 repeat' (first|refine nX ?_|refine nY (fun K0 hK0=>?_)|refine bH ?_|refine bM ?_|refine iS hs ?_|refine rS hs ?_|refine eI _ (aI rfl ?_)|refine qg ?_|refine qf ?_|refine qc ?_|refine oJ ?_|refine nN hs (fun _ _ hs=>?_)|refine nS hs (fun _ _ hs=>?_)|refine sX hs (fun _ hs=>?_)|(refine dI (fun hc=>?_) (fun hc=>?_) <;> try (exfalso;omega))|(refine hK0 _ _ ?_;clear hK0)|fail)
 all_goals try (
  (repeat (first | rw[if_pos (by omega)] at h | rw[if_neg (by omega)] at h))
  change resK T _ _ _ _
  refine zq (by rfl) (by rfl) (hs.get 0 rfl) (by rfl) ?_
  refine⟨_,rfl,_,rfl, ?_⟩
  exact h _ (qh hs))
 ·refine qL tok mx [0,0,2,7,0,0,32,112,0,0,512,1792,4080,8191,16383] [false,false,false,false,true,true,true,true,true,true,true,true,true,false,false] (.first 0 (.first 1 (.first 2 (.first 3 (.first 4 (.first 5 (.first 6 (.first 7 (.first 8 (.first 9 (.first 10 (.first 11 (.first 12 (.first 13 (.first 14 .done))))))))))))))) (by kernel_rfl) ?_
  refine qP (fun K0 hK0=>?_)
  repeat' (first|refine nX ?_|refine nY (fun K0 hK0=>?_)|refine bH ?_|refine bM ?_|refine iS hs ?_|refine rS hs ?_|refine eI _ (aI rfl ?_)|refine qg ?_|refine qf ?_|refine qc ?_|refine oJ ?_|refine nN hs (fun _ _ hs=>?_)|refine nS hs (fun _ _ hs=>?_)|refine sX hs (fun _ hs=>?_)|(refine dI (fun hc=>?_) (fun hc=>?_) <;> try (exfalso;omega))|(refine hK0 _ _ ?_;clear hK0)|fail)
  iterate 8 (
   all_goals try exact trivial
   all_goals try (first | refine And.intro ?_ trivial | refine And.intro ?_ (And.intro ?_ trivial) | refine And.intro ?_ (And.intro ?_ (And.intro ?_ trivial)))
   all_goals try (
    repeat' (first|refine nX ?_|refine nY (fun K0 hK0=>?_)|refine bH ?_|refine bM ?_|refine iS hs ?_|refine rS hs ?_|refine eI _ (aI rfl ?_)|refine qg ?_|refine qf ?_|refine qc ?_|refine oJ ?_|refine nN hs (fun _ _ hs=>?_)|refine nS hs (fun _ _ hs=>?_)|refine sX hs (fun _ hs=>?_)|(refine dI (fun hc=>?_) (fun hc=>?_) <;> try (exfalso;omega))|(refine hK0 _ _ ?_;clear hK0)|fail)
    ))
  all_goals (
   (repeat (first | rw[if_pos (by omega)] at h | rw[if_neg (by omega)] at h))
   change resK T _ _ _ _
   refine zq (by rfl) (by rfl) (hs.get 0 rfl) (by rfl) ?_
   refine⟨_,rfl,_,rfl, ?_⟩
   exact h _ (qh hs))
 ·have hop' : t.op=11:=by omega
  have hb1:=hh hop'
  have hbe:blkF t=1+2*(t.sz.length:Int):=by unfold blkF;rw[if_neg (by omega),if_neg (by omega),if_pos (by omega)]
  have hc0:crdE t.sz t.ws.length r=0:=by
   have:=kt.halo hop'
   unfold crdE
   rw[this,if_neg (by omega),if_neg (by omega)]
  have hd0:=tdiv_rng (s:=s.tdiv t.pa-1) (a:=2) (by omega) (by omega)
  have hd1:=tdiv_lt (s:=s.tdiv t.pa-1) (a:=2) (b:=t.sz.length) (by omega) (by omega) (by omega)
  have hb2:=tmod_rng0 (s:=s.tdiv t.pa) (a:=2) hq.1 (by omega)
  obtain ⟨d,hd⟩ : ∃ d:Nat,(s.tdiv t.pa-1).tdiv 2=d:=⟨((s.tdiv t.pa-1).tdiv 2).toNat,by omega⟩
  rw[hd] at h hd1 ⊢
  rw[Int.toNat_natCast] at h
  (repeat (first | rw[if_pos (by omega)] at h | rw[if_neg (by omega)] at h))
  repeat' (first|refine nX ?_|refine nY (fun K0 hK0=>?_)|refine bH ?_|refine bM ?_|refine iS hs ?_|refine rS hs ?_|refine eI _ (aI rfl ?_)|refine qg ?_|refine qf ?_|refine qc ?_|refine oJ ?_|refine nN hs (fun _ _ hs=>?_)|refine nS hs (fun _ _ hs=>?_)|refine sX hs (fun _ hs=>?_)|(refine dI (fun hc=>?_) (fun hc=>?_) <;> try (exfalso;omega))|(refine hK0 _ _ ?_;clear hK0)|fail)
  refine c95 (gr.up (qh hs)) (gw.up (qh hs)) hc0 (by omega) (fun H3 hn=>?_)
  have hs:=qA hs hn
  clear hn
  by_cases hb3:(s.tdiv t.pa).tmod 2=1
  ·rw[decide_eq_true hb3] at h
   repeat' (first|refine nX ?_|refine nY (fun K0 hK0=>?_)|refine bH ?_|refine bM ?_|refine iS hs ?_|refine rS hs ?_|refine eI _ (aI rfl ?_)|refine qg ?_|refine qf ?_|refine qc ?_|refine oJ ?_|refine nN hs (fun _ _ hs=>?_)|refine nS hs (fun _ _ hs=>?_)|refine sX hs (fun _ hs=>?_)|(refine dI (fun hc=>?_) (fun hc=>?_) <;> try (exfalso;omega))|(refine hK0 _ _ ?_;clear hK0)|fail)
   change resK T _ _ _ _
   refine zq (by rfl) (by rfl) (hs.get 0 rfl) (by rfl) ?_
   refine⟨_,rfl,_,rfl, ?_⟩
   exact h _ (qh hs)
  ·rw[decide_eq_false hb3] at h
   repeat' (first|refine nX ?_|refine nY (fun K0 hK0=>?_)|refine bH ?_|refine bM ?_|refine iS hs ?_|refine rS hs ?_|refine eI _ (aI rfl ?_)|refine qg ?_|refine qf ?_|refine qc ?_|refine oJ ?_|refine nN hs (fun _ _ hs=>?_)|refine nS hs (fun _ _ hs=>?_)|refine sX hs (fun _ hs=>?_)|(refine dI (fun hc=>?_) (fun hc=>?_) <;> try (exfalso;omega))|(refine hK0 _ _ ?_;clear hK0)|fail)
   change resK T _ _ _ _
   refine zq (by rfl) (by rfl) (hs.get 0 rfl) (by rfl) ?_
   refine⟨_,rfl,_,rfl, ?_⟩
   exact h _ (qh hs)
end Go.Af.Tryz
namespace Go.Af.Tryz
open Go Go.Proofs
set_option maxRecDepth 100000
set_option maxHeartbeats 4000000
attribute [local irreducible] awp qC vK vS vH qJ isCells qy qp qW qN qw roundEnd

theorem ht104:Tryz.prog.underlying 104=some (.struct (Tryz.prog.fieldsOf 104)):=by kernel_rfl
theorem mkey104:MKey Tryz.prog 104 [.i64, .i64]:=zX ht104 (by kernel_rfl) (by kernel_rfl) (zN (by kernel_rfl))
def badH (t:Tk) (u r k:Int):Bool:=decide ((t.op=10/\k<1)\/(t.op≠10/\((r<=u/\k≠1)\/(u<r/\k≠0))))
def holF (t:Tk) (r s:Int) (l:List Og):Bool :=
 if joiF t.op=false then decide (l = [srcF t r s])
 else l.all (fun o=>decide (o.2=s))&&(List.range t.pr.toNat).all (fun q:Nat => !(badH t (lstF t r) q (cntL l q)))
theorem hol_bad {t:Tk} {r s:Int} {l:List Og} {p j:Nat} (hu:joiF t.op=true) (hp:t.pr=p) (hj:j<p) (hb:badH t (lstF t r) (j:Int) (cntL l j)=true):holF t r s l=false:=by
 unfold holF
 rw[hu,if_neg (by decide),hp,Int.toNat_natCast,Bool.and_eq_false_iff]
 right
 rw[List.all_eq_false]
 exact⟨j,List.mem_range.2 hj,by rw[hb];simp⟩
theorem hol_slot {t:Tk} {r s:Int} {l:List Og} (hu:joiF t.op=true) (hb : ∃ j,j<l.length/\l[j]!.2≠s):holF t r s l=false:=by
 obtain ⟨j,hj,hb⟩:=hb
 unfold holF
 rw[hu,if_neg (by decide),Bool.and_eq_false_iff]
 left
 rw[List.all_eq_false]
 rw[getElem!_pos l j hj] at hb
 exact⟨l[j],List.getElem_mem hj,by simpa using hb⟩
theorem hol_good {t:Tk} {r s:Int} {l:List Og} {p:Nat} (hu:joiF t.op=true) (hp:t.pr=p) (hsl : ∀ i,i<l.length->l[i]!.2=s) (hb : ∀ j,j<p->badH t (lstF t r) (j:Int) (cntL l j)=false):holF t r s l=true:=by
 unfold holF
 rw[hu,if_neg (by decide),hp,Int.toNat_natCast,Bool.and_eq_true]
 refine⟨List.all_eq_true.2 (fun o ho=>?_),List.all_eq_true.2 (fun q hq=>?_)⟩
 ·obtain ⟨i,hi,rfl⟩:=List.getElem_of_mem ho
  have:=hsl i hi
  rw[getElem!_pos l i hi] at this
  simpa using this
 ·rw[hb q (List.mem_range.1 hq)]
  rfl
theorem c105 {H:List Blk} {t:Tk} {r s:Int} {b c k:Nat} {l:List Og} {R:Value->List Blk->Prop} (kt:TkOk t) (gr:Gr H t.sz b) (gw:Gw H t.ws b c) (hr:0<=r/\r<t.pr) (hs0:0<=s/\s<blkF t*t.pa) (hh:t.op=11->1<=s.tdiv t.pa) (hk:Lf H k l) (hl:l.length<=128) (hrk:RkL t.pr l)
 (h : ∀ H',HS H none' [] H' -> R (.bool (holF t r s l)) H'):qC Tryz.prog 105 [tkV t b c, .int .i64 r, .int .i64 s,lfV k l] H R:=by
 have hpr:=kt.pr
 obtain ⟨p,hp⟩ : ∃ p:Nat,t.pr=p:=⟨t.pr.toNat,by omega⟩
 refine ql tok Tryz.call105 Tryz.func105 rfl Tryz.ntmps105 rfl (by simp) ?_
 refine qm (HS.start H none') (fun H1 b1 e1 l1 hs=>?_)
 refine qo (fun _ hKs=>hKs _ _ ?_);clear hKs
 clear e1 l1
 repeat' (first|refine nX ?_|refine nY (fun K0 hK0=>?_)|refine bH ?_|refine bM ?_|refine iS hs ?_|refine rS hs ?_|refine eI _ (aI rfl ?_)|refine qg ?_|refine qf ?_|refine qc ?_|refine oJ ?_|refine nN hs (fun _ _ hs=>?_)|refine nS hs (fun _ _ hs=>?_)|refine sX hs (fun _ hs=>?_)|(refine hK0 _ _ ?_;clear hK0)|fail)
 refine c78 ?_
 cases hu:joiF t.op with
 | false =>
   have hF:holF t r s l=decide (l = [srcF t r s]):=by unfold holF;rw[if_pos hu]
   rw[hF] at h
   clear hF
   by_cases hn:l = []
   ·subst hn
    rw[decide_eq_false (by simp)] at h
    repeat' (first|refine nX ?_|refine nY (fun K0 hK0=>?_)|refine bH ?_|refine bM ?_|refine iS hs ?_|refine rS hs ?_|refine eI _ (aI rfl ?_)|refine qg ?_|refine qf ?_|refine qc ?_|refine oJ ?_|refine nN hs (fun _ _ hs=>?_)|refine nS hs (fun _ _ hs=>?_)|refine sX hs (fun _ hs=>?_)|(refine dI (fun hc=>?_) (fun hc=>?_) <;> try (exfalso;omega))|(refine hK0 _ _ ?_;clear hK0)|fail)
    refine qL tok mx [0,1,3,7,15,31,63,15,15,15,911,2047,4095,8191] [false,false,false,false,false,false,true,false,true,true,false,false,false,false] (.first 0 (.first 1 (.first 2 (.first 3 (.first 4 (.first 5 (.first 7 (.first 8 (.first 9 (.alt 6 (.first 10 (.first 11 (.first 12 (.first 13 .done)))) (.alt 10 (.first 6 (.first 11 (.first 12 (.first 13 .done)))) .no))))))))))) (by kernel_rfl) ?_
    refine qP (fun K0 hK0=>?_)
    repeat' (first|refine nX ?_|refine nY (fun K0 hK0=>?_)|refine bH ?_|refine bM ?_|refine iS hs ?_|refine rS hs ?_|refine eI _ (aI rfl ?_)|refine qg ?_|refine qf ?_|refine qc ?_|refine oJ ?_|refine nN hs (fun _ _ hs=>?_)|refine nS hs (fun _ _ hs=>?_)|refine sX hs (fun _ hs=>?_)|(refine dI (fun hc=>?_) (fun hc=>?_) <;> try (exfalso;omega))|(refine hK0 _ _ ?_;clear hK0)|fail)
    iterate 4 (
     all_goals try exact trivial
     all_goals try (first | refine And.intro ?_ trivial | refine And.intro ?_ (And.intro ?_ trivial))
     all_goals try (
      repeat' (first|refine nX ?_|refine nY (fun K0 hK0=>?_)|refine bH ?_|refine bM ?_|refine iS hs ?_|refine rS hs ?_|refine eI _ (aI rfl ?_)|refine qg ?_|refine qf ?_|refine qc ?_|refine oJ ?_|refine nN hs (fun _ _ hs=>?_)|refine nS hs (fun _ _ hs=>?_)|refine sX hs (fun _ hs=>?_)|(refine dI (fun hc=>?_) (fun hc=>?_) <;> try (exfalso;omega))|(refine hK0 _ _ ?_;clear hK0)|fail)
      ))
    all_goals exact h _ (qh hs)
   ·obtain ⟨wr,hkb⟩:=hk.elim (fun e=>absurd e hn) (fun e=>e)
    rw[wX hn]
    have hlp:0<l.length:=List.length_pos_iff.2 hn
    repeat' (first|refine nX ?_|refine nY (fun K0 hK0=>?_)|refine bH ?_|refine bM ?_|refine iS hs ?_|refine rS hs ?_|refine eI _ (aI rfl ?_)|refine qg ?_|refine qf ?_|refine qc ?_|refine oJ ?_|refine nN hs (fun _ _ hs=>?_)|refine nS hs (fun _ _ hs=>?_)|refine sX hs (fun _ hs=>?_)|(refine dI (fun hc=>?_) (fun hc=>?_) <;> try (exfalso;omega))|(refine hK0 _ _ ?_;clear hK0)|fail)
    refine qL tok mx [0,1,3,7,15,31,63,15,15,15,911,2047,4095,8191] [false,false,false,false,false,false,true,false,true,true,false,false,false,false] (.first 0 (.first 1 (.first 2 (.first 3 (.first 4 (.first 5 (.first 7 (.first 8 (.first 9 (.alt 6 (.first 10 (.first 11 (.first 12 (.first 13 .done)))) (.alt 10 (.first 6 (.first 11 (.first 12 (.first 13 .done)))) .no))))))))))) (by kernel_rfl) ?_
    refine qP (fun K0 hK0=>?_)
    repeat' (first|refine nX ?_|refine nY (fun K0 hK0=>?_)|refine bH ?_|refine bM ?_|refine iS hs ?_|refine rS hs ?_|refine eI _ (aI rfl ?_)|refine qg ?_|refine qf ?_|refine qc ?_|refine oJ ?_|refine nN hs (fun _ _ hs=>?_)|refine nS hs (fun _ _ hs=>?_)|refine sX hs (fun _ hs=>?_)|(refine dI (fun hc=>?_) (fun hc=>?_) <;> try (exfalso;omega))|(refine hK0 _ _ ?_;clear hK0)|fail)
    iterate 10 (
     all_goals try exact trivial
     all_goals try (refine qj (zF (qh hs) hkb) ?_)
     all_goals try (refine eI 0 (aI (by decide) ?_))
     all_goals try (refine qi (zF (qh hs) hkb) ?_)
     all_goals try (refine yl (i:=0) hlp ?_)
     all_goals try (refine c195 kt (gr.up (qh hs)) (gw.up (qh hs)) hr hs0 hu hh (fun H9 hn=>?_);have hs:=qA hs hn;clear hn)
     all_goals try (refine⟨_,mkey104.1, ?_⟩)
     all_goals try (first | refine And.intro ?_ trivial | refine And.intro ?_ (And.intro ?_ trivial) | refine And.intro ?_ (And.intro ?_ (And.intro ?_ trivial)))
     all_goals try (
      repeat' (first|refine nX ?_|refine nY (fun K0 hK0=>?_)|refine bH ?_|refine bM ?_|refine iS hs ?_|refine rS hs ?_|refine eI _ (aI rfl ?_)|refine qg ?_|refine qf ?_|refine qc ?_|refine oJ ?_|refine nN hs (fun _ _ hs=>?_)|refine nS hs (fun _ _ hs=>?_)|refine sX hs (fun _ hs=>?_)|(refine dI (fun hc=>?_) (fun hc=>?_) <;> try (exfalso;omega))|(refine hK0 _ _ ?_;clear hK0)|fail)
      ))
    all_goals first
     | (rw[decide_eq_false (fun e=>by rw[e] at hc;exact hc rfl)] at h
        exact h _ (qh hs))
     | (rw[show decide (l = [srcF t r s])=decide ([l[0]!.1,l[0]!.2] = [(srcF t r s).1,(srcF t r s).2]) from one_eq (by omega) _ _] at h
        exact h _ (qh hs))
     | trace_state
 | true =>
   repeat' (first|refine nX ?_|refine nY (fun K0 hK0=>?_)|refine bH ?_|refine bM ?_|refine iS hs ?_|refine rS hs ?_|refine eI _ (aI rfl ?_)|refine qg ?_|refine qf ?_|refine qc ?_|refine oJ ?_|refine nN hs (fun _ _ hs=>?_)|refine nS hs (fun _ _ hs=>?_)|refine sX hs (fun _ hs=>?_)|(refine dI (fun hc=>?_) (fun hc=>?_) <;> try (exfalso;omega))|(refine hK0 _ _ ?_;clear hK0)|fail)
   rw[hp]
   refine c196r (hk.up (qh hs)) hl (by rw[<- hp];exact hrk) (by omega) (fun hno H2 hn=>?_) (fun hsl H2 nb hn=>?_)
   ·have hs:=qA hs hn
    clear hn
    rw[hol_slot hu hno] at h
    repeat' (first|refine nX ?_|refine nY (fun K0 hK0=>?_)|refine bH ?_|refine bM ?_|refine iS hs ?_|refine rS hs ?_|refine eI _ (aI rfl ?_)|refine qg ?_|refine qf ?_|refine qc ?_|refine oJ ?_|refine nN hs (fun _ _ hs=>?_)|refine nS hs (fun _ _ hs=>?_)|refine sX hs (fun _ hs=>?_)|(refine dI (fun hc=>?_) (fun hc=>?_) <;> try (exfalso;omega))|(refine hK0 _ _ ?_;clear hK0)|fail)
    exact h _ (qh hs)
   ·have hs:=hs.call hn rfl
    clear hn
    repeat' (first|refine nX ?_|refine nY (fun K0 hK0=>?_)|refine bH ?_|refine bM ?_|refine iS hs ?_|refine rS hs ?_|refine eI _ (aI rfl ?_)|refine qg ?_|refine qf ?_|refine qc ?_|refine oJ ?_|refine nN hs (fun _ _ hs=>?_)|refine nS hs (fun _ _ hs=>?_)|refine sX hs (fun _ hs=>?_)|(refine dI (fun hc=>?_) (fun hc=>?_) <;> try (exfalso;omega))|(refine hK0 _ _ ?_;clear hK0)|fail)
    refine qQ (α := List Blk × Nat) tok (fun z=>HS H none' [(true,nb,rw' (cntR p l)),(true,b1, .cells true 1 (tkC t b c))] z.1/\z.2<=p/\∀ i,i<z.2->badH t (lstF t r) (i:Int) (cntL l i)=false)
     (fun z=>[(1, .int .i64 r),(4, .pointer (some ⟨b1,0,none⟩)),(9,sv nb p),(11, .int .i64 (z.2:Int))]) (fun z=>z.1) (fun z=>p-z.2)
     (_,0) ⟨hs,Nat.zero_le _,fun i hi=>absurd hi (by omega)⟩ (Or.inl ⟨⟨rfl,rfl,rfl,rfl,trivial⟩,rfl⟩) ?_
    clear hs
    rintro ⟨H9,j⟩ ⟨hs,hj,hgd⟩
    dsimp only at hs hj hgd ⊢
    repeat' (first|refine nX ?_|refine nY (fun K0 hK0=>?_)|refine bH ?_|refine bM ?_|refine iS hs ?_|refine rS hs ?_|refine eI _ (aI rfl ?_)|refine qg ?_|refine qf ?_|refine qc ?_|refine oJ ?_|refine nN hs (fun _ _ hs=>?_)|refine nS hs (fun _ _ hs=>?_)|refine sX hs (fun _ hs=>?_)|(refine hK0 _ _ ?_;clear hK0)|fail)
    refine And.intro (fun hc=>?_) (fun hc=>?_)
    ·have hjp:j<p:=by simp at hc;omega
     clear hc
     have hjl:j<(cntR p l).length:=by rw[xE];exact hjp
     have hcl:=cnt_le l (j:Int)
     repeat' (first|refine nX ?_|refine nY (fun K0 hK0=>?_)|refine bH ?_|refine bM ?_|refine iS hs ?_|refine rS hs ?_|refine eI _ (aI rfl ?_)|refine qg ?_|refine qf ?_|refine qc ?_|refine oJ ?_|refine nN hs (fun _ _ hs=>?_)|refine nS hs (fun _ _ hs=>?_)|refine sX hs (fun _ hs=>?_)|(refine hK0 _ _ ?_;clear hK0)|fail)
     refine c197 hpr (fun H3 hn=>?_)
     have hs:=qA hs hn
     clear hn
     have hbad := @hol_bad t r s l p j hu hp hjp
     have hga:=cntR_get p l hjp
     generalize hue:lstF t r=u at hgd hbad ⊢
     generalize hck:cntL l (j:Int)=ck at hcl hbad hga
     repeat' (first|refine nX ?_|refine nY (fun K0 hK0=>?_)|refine bH ?_|refine bM ?_|refine iS hs ?_|refine rS hs ?_|refine eI _ (aI rfl ?_)|refine qg ?_|refine qf ?_|refine qc ?_|refine oJ ?_|refine nN hs (fun _ _ hs=>?_)|refine nS hs (fun _ _ hs=>?_)|refine sX hs (fun _ hs=>?_)|(refine dI (fun hc=>?_) (fun hc=>?_) <;> try (exfalso;omega))|(refine hK0 _ _ ?_;clear hK0)|fail)
     all_goals try (refine Ld_ak hjl hga ?_)
     all_goals try (
      repeat' (first|refine nX ?_|refine nY (fun K0 hK0=>?_)|refine bH ?_|refine bM ?_|refine iS hs ?_|refine rS hs ?_|refine eI _ (aI rfl ?_)|refine qg ?_|refine qf ?_|refine qc ?_|refine oJ ?_|refine nN hs (fun _ _ hs=>?_)|refine nS hs (fun _ _ hs=>?_)|refine sX hs (fun _ hs=>?_)|(refine dI (fun hc=>?_) (fun hc=>?_) <;> try (exfalso;omega))|(refine hK0 _ _ ?_;clear hK0)|fail)
      )
     all_goals first
      | (rw[hbad (by unfold badH;exact decide_eq_true (by omega))] at h
         exact h _ (qh hs))
      | (have hb:badH t u (j:Int) (cntL l j)=false:=by rw[hck];unfold badH;exact decide_eq_false (by omega)
         exact⟨(H3,j+1),⟨hs,hjp,fun i hi=>by
          rw[hue]
          by_cases hij:i=j
          ·rw[hij];exact hb
          ·exact hgd i (by dsimp only at hi;omega)⟩,by dsimp only;omega,Or.inl ⟨⟨rfl,rfl,rfl,rfl,trivial⟩,rfl⟩⟩)
    ·have hje:j=p:=by simp at hc;omega
     rw[hol_good hu hp hsl (fun i hi=>hgd i (by omega))] at h
     repeat' (first|refine nX ?_|refine nY (fun K0 hK0=>?_)|refine bH ?_|refine bM ?_|refine iS hs ?_|refine rS hs ?_|refine eI _ (aI rfl ?_)|refine qg ?_|refine qf ?_|refine qc ?_|refine oJ ?_|refine nN hs (fun _ _ hs=>?_)|refine nS hs (fun _ _ hs=>?_)|refine sX hs (fun _ hs=>?_)|(refine dI (fun hc=>?_) (fun hc=>?_) <;> try (exfalso;omega))|(refine hK0 _ _ ?_;clear hK0)|fail)
     exact h _ (qh hs)
end Go.Af.Tryz
namespace Go.Af.Tryz
open Go Go.Proofs
set_option maxRecDepth 100000
set_option maxHeartbeats 4000000
attribute [local irreducible] awp qC vK vS vH qJ isCells qy qp qW qN qw roundEnd

theorem finR_halo {t:Tk} (kt:TkOk t) {r x:Int} (hop:t.op=11) (h:x∈finR t r):1<=x.tdiv t.pa:=by
 have hpa:=kt.pa
 unfold finR at h
 rw[if_neg (by omega),if_neg (by omega),if_neg (by omega),if_pos hop] at h
 obtain ⟨d,hd,hx⟩:=List.mem_flatMap.1 h
 have key : ∀ f g:Int,1<=f->x∈spnF t f g->1<=x.tdiv t.pa:=fun f g h1 h3=>by
  have a:=(spn_mem h3).1
  have b:1*t.pa<=f*t.pa:=Int.mul_le_mul_of_nonneg_right h1 (by omega)
  rw[Int.tdiv_eq_ediv_of_nonneg (by omega)]
  exact Int.le_ediv_of_mul_le (by omega) (by omega)
 unfold hvS at hx
 rcases List.mem_append.1 hx with hx | hx
 ·split at hx
  ·cases hx
  ·exact key _ _ (by omega) hx
 ·split at hx
  ·cases hx
  ·exact key _ _ (by omega) hx
def finH (t:Tk) (tr:Tr):Bool:=(List.range t.pr.toNat).all (fun r:Nat=>(finR t (r:Int)).all (fun s=>holF t (r:Int) s (tget tr (r:Int) s)))
def rgtR (t:Tk) (l:List Coll.St):Bool:=match trcF t l with
 | some tr=>finH t tr
 | none=>false
theorem finH_bad {t:Tk} {tr:Tr} {p r i:Nat} (hp:t.pr=p) (hr:r<p) (hi:i<(finR t (r:Int)).length) (h:holF t (r:Int) (finR t (r:Int))[i]! (tget tr (r:Int) (finR t (r:Int))[i]!)=false):finH t tr=false:=by
 unfold finH
 rw[hp,Int.toNat_natCast,List.all_eq_false]
 refine⟨r,List.mem_range.2 hr, ?_⟩
 rw[Bool.not_eq_true,List.all_eq_false]
 rw[getElem!_pos _ i hi] at h
 exact⟨_,List.getElem_mem hi,by rw[h];simp⟩
theorem finH_good {t:Tk} {tr:Tr} {p:Nat} (hp:t.pr=p) (h : ∀ r:Nat,r<p->∀ i,i<(finR t (r:Int)).length->holF t (r:Int) (finR t (r:Int))[i]! (tget tr (r:Int) (finR t (r:Int))[i]!)=true):finH t tr=true:=by
 unfold finH
 rw[hp,Int.toNat_natCast,List.all_eq_true]
 intro r hr
 rw[List.all_eq_true]
 intro w hw
 obtain ⟨i,hi,rfl⟩:=List.getElem_of_mem hw
 have:=h r (List.mem_range.1 hr) i hi
 rw[getElem!_pos _ i hi] at this
 exact this
theorem c50 {H:List Blk} {t:Tk} {alg:Int} {l:List Coll.St} {b c d:Nat} {R:Value->List Blk->Prop} (gr:Gr H t.sz b) (gw:Gw H t.ws b c) (hst:Sts H l d) (hl:t.sz.length<=10) (hw:t.ws.length<=10) (hll:l.length<=1000000)
 (h : ∀ H',HS H none' [] H' -> R (.tuple ⟨[.bool (decide (sndF t l=0)&&rgtR t l), .int .i64 (sndF t l)]⟩) H') :
 qC Tryz.prog 50 [schV t alg b c d l.length] H R:=by
 refine ql tok Tryz.call50 Tryz.func50 rfl Tryz.ntmps50 rfl (by simp) ?_
 refine qm (HS.start H none') (fun H1 b1 e1 l1 hs=>?_)
 refine qo (fun _ hKs=>hKs _ _ ?_);clear hKs
 clear e1 l1
 repeat' (first|refine nX ?_|refine nY (fun K0 hK0=>?_)|refine bH ?_|refine bM ?_|refine iS hs ?_|refine rS hs ?_|refine eI _ (aI rfl ?_)|refine qg ?_|refine qf ?_|refine qc ?_|refine oJ ?_|refine nN hs (fun _ _ hs=>?_)|refine nS hs (fun _ _ hs=>?_)|refine sX hs (fun _ hs=>?_)|(refine hK0 _ _ ?_;clear hK0)|fail)
 refine c30 (gr.up (qh hs)) (hst.up (qh hs)) hl hw hll (fun H2 hn=>?_)
 have hs:=qA hs hn
 clear hn
 by_cases h0:sndF t l=0
 ·obtain ⟨hchk,hok⟩:=snd_ok h0
  have kt:=tk_ok hchk
  have hpr:=kt.pr
  have hbr:=wC kt
  have hsl:sltF t=blkF t*t.pa:=by unfold sltF;rw[if_pos hchk]
  obtain ⟨p,hp⟩ : ∃ p:Nat,t.pr=p:=⟨t.pr.toNat,by omega⟩
  obtain ⟨n,hN⟩ : ∃ n:Nat,sltF t=n:=⟨(sltF t).toNat,by omega⟩
  rw[h0] at h ⊢
  rw[decide_eq_true rfl,Bool.true_and] at h
  repeat' (first|refine nX ?_|refine nY (fun K0 hK0=>?_)|refine bH ?_|refine bM ?_|refine iS hs ?_|refine rS hs ?_|refine eI _ (aI rfl ?_)|refine qg ?_|refine qf ?_|refine qc ?_|refine oJ ?_|refine nN hs (fun _ _ hs=>?_)|refine nS hs (fun _ _ hs=>?_)|refine sX hs (fun _ hs=>?_)|(refine dI (fun hc=>?_) (fun hc=>?_) <;> try (exfalso;omega))|(refine hK0 _ _ ?_;clear hK0)|fail)
  refine c49 (gr.up (qh hs)) (hst.up (qh hs)) hl hw hll (fun H3 z hn hz hzz=>?_) (fun H3 ob rows M hn hlf hdm _ htr=>?_)
  ·have hs:=qA hs hn
   clear hn
   have hr:rgtR t l=false:=by
    unfold rgtR
    rcases hzz with e | ⟨_,e,_⟩
    ·exact absurd (e.trans h0) hz
    ·rw[e]
   rw[hr] at h
   repeat' (first|refine nX ?_|refine nY (fun K0 hK0=>?_)|refine bH ?_|refine bM ?_|refine iS hs ?_|refine rS hs ?_|refine eI _ (aI rfl ?_)|refine qg ?_|refine qf ?_|refine qc ?_|refine oJ ?_|refine nN hs (fun _ _ hs=>?_)|refine nS hs (fun _ _ hs=>?_)|refine sX hs (fun _ hs=>?_)|(refine dI (fun hc=>?_) (fun hc=>?_) <;> try (exfalso;omega))|(refine hK0 _ _ ?_;clear hK0)|fail)
   exact h _ (qh hs)
  ·have hs:=(hs.call hn (by rw[List.all_cons,List.all_append,rwL_all,lfL_all];rfl))
   have hs:HS H none' ((true,ob, .cells true 1 (outC rows 0))::(true,b1,shB t alg b c d l.length)::(rwL rows++lfL M)) H3:=hs.perm ((List.perm_append_comm (l₁ := rwL rows++lfL M) (l₂ := [_])).cons _)
   clear hn
   have hrk:=trc_rk htr
   rw[hp,hN,Int.toNat_natCast,Int.toNat_natCast] at hdm
   have hrg:rgtR t l=finH t (cont rows):=by unfold rgtR;rw[htr]
   rw[hrg] at h
   rw[hdm.p]
   rw[hp,Int.toNat_natCast] at hrk
   repeat' (first|refine nX ?_|refine nY (fun K0 hK0=>?_)|refine bH ?_|refine bM ?_|refine iS hs ?_|refine rS hs ?_|refine eI _ (aI rfl ?_)|refine qg ?_|refine qf ?_|refine qc ?_|refine oJ ?_|refine nN hs (fun _ _ hs=>?_)|refine nS hs (fun _ _ hs=>?_)|refine sX hs (fun _ hs=>?_)|(refine dI (fun hc=>?_) (fun hc=>?_) <;> try (exfalso;omega))|(refine hK0 _ _ ?_;clear hK0)|fail)
   refine qQ (α := List Blk × Nat) tok (fun z=>HS H none' ((true,ob, .cells true 1 (outC rows 0))::(true,b1,shB t alg b c d l.length)::(rwL rows++lfL M)) z.1/\z.2<=p/\∀ r:Nat,r<z.2->∀ i,i<(finR t (r:Int)).length->holF t (r:Int) (finR t (r:Int))[i]! (tget (cont rows) (r:Int) (finR t (r:Int))[i]!)=true)
    (fun z=>[(1, .pointer (some ⟨b1,0,none⟩)),(5,sv ob p),(6, .int .i64 (z.2:Int))]) (fun z=>z.1) (fun z=>p-z.2)
    (H3,0) ⟨hs,Nat.zero_le _,fun r hr=>absurd hr (by omega)⟩ (Or.inl ⟨⟨rfl,rfl,rfl,trivial⟩,rfl⟩) ?_
   clear hs
   rintro ⟨H4,r⟩ ⟨hs,hr,hgd⟩
   dsimp only at hs hr hgd ⊢
   repeat' (first|refine nX ?_|refine nY (fun K0 hK0=>?_)|refine bH ?_|refine bM ?_|refine iS hs ?_|refine rS hs ?_|refine eI _ (aI rfl ?_)|refine qg ?_|refine qf ?_|refine qc ?_|refine oJ ?_|refine nN hs (fun _ _ hs=>?_)|refine nS hs (fun _ _ hs=>?_)|refine sX hs (fun _ hs=>?_)|(refine hK0 _ _ ?_;clear hK0)|fail)
   refine And.intro (fun hc=>?_) (fun hc=>?_)
   ·have hrp:r<p:=by simp at hc;omega
    clear hc
    have hri:isF t r=0:=by
     unfold isF
     rw[if_neg (by rw[hchk];simp),if_neg (by omega)]
    have hfs:finS t r=finR t r:=by unfold finS;rw[if_pos hri,fin_s kt]
    repeat' (first|refine nX ?_|refine nY (fun K0 hK0=>?_)|refine bH ?_|refine bM ?_|refine iS hs ?_|refine rS hs ?_|refine eI _ (aI rfl ?_)|refine qg ?_|refine qf ?_|refine qc ?_|refine oJ ?_|refine nN hs (fun _ _ hs=>?_)|refine nS hs (fun _ _ hs=>?_)|refine sX hs (fun _ hs=>?_)|(refine hK0 _ _ ?_;clear hK0)|fail)
    refine c40 (gr.up (qh hs)) (gw.up (qh hs)) hl hw (fun H5 kf hn=>?_)
    have hs:=(hs.call hn rfl).pickR (A := [_,_,_]) [0,1,2] (by decide) (A' := [_,_,_]) rfl
    clear hn
    rw[hfs] at hs ⊢
    have hln:=hal_len kt (r:Int)
    rw[<- List.length_map (f:=Fi.s),fin_s kt] at hln
    have hfr:=fun x=>@finR_range t kt (r:Int) x (by omega)
    have hfh:=fun hop x=>@finR_halo t kt (r:Int) x hop
    repeat' (first|refine nX ?_|refine nY (fun K0 hK0=>?_)|refine bH ?_|refine bM ?_|refine iS hs ?_|refine rS hs ?_|refine eI _ (aI rfl ?_)|refine qg ?_|refine qf ?_|refine qc ?_|refine oJ ?_|refine nN hs (fun _ _ hs=>?_)|refine nS hs (fun _ _ hs=>?_)|refine sX hs (fun _ hs=>?_)|(refine hK0 _ _ ?_;clear hK0)|fail)
    refine qQ (α := List Blk × Nat) tok (fun z=>HS H none' ((true,kf,rw' (finR t (r:Int)))::(true,ob, .cells true 1 (outC rows 0))::(true,b1,shB t alg b c d l.length)::(rwL rows++lfL M)) z.1/\z.2<=(finR t (r:Int)).length/\∀ i,i<z.2->holF t (r:Int) (finR t (r:Int))[i]! (tget (cont rows) (r:Int) (finR t (r:Int))[i]!)=true)
     (fun z=>[(1, .pointer (some ⟨b1,0,none⟩)),(5,sv ob p),(6, .int .i64 (r:Int)),(7,sv kf (finR t (r:Int)).length),(9, .int .i64 (z.2:Int))]) (fun z=>z.1) (fun z=>(finR t (r:Int)).length-z.2)
     (H5,0) ⟨hs,Nat.zero_le _,fun i hi=>absurd hi (by omega)⟩ (Or.inl ⟨⟨rfl,rfl,rfl,rfl,rfl,trivial⟩,rfl⟩) ?_
    clear hs
    rintro ⟨H6,i⟩ ⟨hs,hi,hgi⟩
    dsimp only at hs hi hgi ⊢
    repeat' (first|refine nX ?_|refine nY (fun K0 hK0=>?_)|refine bH ?_|refine bM ?_|refine iS hs ?_|refine rS hs ?_|refine eI _ (aI rfl ?_)|refine qg ?_|refine qf ?_|refine qc ?_|refine oJ ?_|refine nN hs (fun _ _ hs=>?_)|refine nS hs (fun _ _ hs=>?_)|refine sX hs (fun _ hs=>?_)|(refine hK0 _ _ ?_;clear hK0)|fail)
    refine And.intro (fun hc=>?_) (fun hc=>?_)
    ·have hil:i<(finR t (r:Int)).length:=by simp at hc;omega
     clear hc
     have hmem:(finR t (r:Int))[i]! ∈ finR t (r:Int):=getElem!_pos (finR t (r:Int)) i hil ▸ List.getElem_mem hil
     have hws:=hfr _ hmem
     have hwh:=fun hop=>hfh hop _ hmem
     have hbad := @finH_bad t (cont rows) p r i hp hrp hil
     obtain ⟨s,hw2⟩ : ∃ s:Nat,(finR t (r:Int))[i]! = s:=⟨((finR t (r:Int))[i]!).toNat,by omega⟩
     rw[hw2] at hws hwh hbad
     obtain ⟨q,e,a1,a2,a3,a4,a5,a6,a7⟩:=hdm.at (r:=(r:Int)) (s:=(s:Int)) (by omega) (by rw[<- hN,hsl];exact hws)
     rw[Int.toNat_natCast] at a1 a2
     have ho2:=wS rows 0 r q a1
     rw[a5] at ho2
     have hsn:s<n:=by have:=hws.2;rw[<- hsl,hN] at this;omega
     have hr2:(rowC q.2)[s]? = some (lfV e.1 e.2):=by unfold rowC;rw[List.getElem?_map,a2];rfl
     have hro:RkL t.pr e.2:=by rw[hp,<- a7];exact rk_get hrk _ _
     rw[a7] at hbad
     repeat' (first|refine nX ?_|refine nY (fun K0 hK0=>?_)|refine bH ?_|refine bM ?_|refine iS hs ?_|refine rS hs ?_|refine eI _ (aI rfl ?_)|refine qg ?_|refine qf ?_|refine qc ?_|refine oJ ?_|refine nN hs (fun _ _ hs=>?_)|refine nS hs (fun _ _ hs=>?_)|refine sX hs (fun _ hs=>?_)|(refine hK0 _ _ ?_;clear hK0)|fail)
     have hb2:=hs.mem (c:=true) (b:=q.1) (B:=rowB q.2) (List.mem_cons_of_mem _ (List.mem_cons_of_mem _ (List.mem_cons_of_mem _ (List.mem_append_left _ (zJ a3)))))
     refine qL tok mx [0,1,0,0,0,24,56,0,0,384,896,0,0,6144,14336,32640,65408,131071,262143] [false,false,true,true,true,true,true,true,true,true,true,true,true,true,true,true,true,false,false] (.first 0 (.first 1 (.first 2 (.first 3 (.first 4 (.first 5 (.first 6 (.first 7 (.first 8 (.first 9 (.first 10 (.first 11 (.first 12 (.first 13 (.first 14 (.first 15 (.first 16 (.first 17 (.first 18 .done))))))))))))))))))) (by kernel_rfl) ?_
     refine qP (fun K0 hK0=>?_)
     repeat' (first|refine nX ?_|refine nY (fun K0 hK0=>?_)|refine bH ?_|refine bM ?_|refine iS hs ?_|refine rS hs ?_|refine eI _ (aI rfl ?_)|refine qg ?_|refine qf ?_|refine qc ?_|refine oJ ?_|refine nN hs (fun _ _ hs=>?_)|refine nS hs (fun _ _ hs=>?_)|refine sX hs (fun _ hs=>?_)|(refine hK0 _ _ ?_;clear hK0)|fail)
     iterate 12 (
      all_goals try exact trivial
      all_goals try (first | refine vZ ho2 ?_ | refine vZ hr2 ?_ | refine qj hb2 ?_ | refine qi hb2 ?_ | refine Ld_ak hil hw2 ?_)
      all_goals try (first | refine And.intro ?_ trivial | refine And.intro ?_ (And.intro ?_ trivial) | refine And.intro ?_ (And.intro ?_ (And.intro ?_ trivial)))
      all_goals try (
       repeat' (first|refine nX ?_|refine nY (fun K0 hK0=>?_)|refine bH ?_|refine bM ?_|refine iS hs ?_|refine rS hs ?_|refine eI _ (aI rfl ?_)|refine qg ?_|refine qf ?_|refine qc ?_|refine oJ ?_|refine nN hs (fun _ _ hs=>?_)|refine nS hs (fun _ _ hs=>?_)|refine sX hs (fun _ hs=>?_)|(refine hK0 _ _ ?_;clear hK0)|fail)
       ))
     all_goals (
      refine c105 kt (gr.up (qh hs)) (gw.up (qh hs)) (by omega) hws hwh (Lf_of hs (fun h=>List.mem_cons_of_mem _ (List.mem_cons_of_mem _ (List.mem_cons_of_mem _ (List.mem_append_right _ (yh (hlf q a3 e a4 h))))))) a6 hro (fun H7 hn=>?_)
      have hs:=qA hs hn
      clear hn
      cases hh:holF t r s e.2 with
      | false =>
        repeat' (first|refine nX ?_|refine nY (fun K0 hK0=>?_)|refine bH ?_|refine bM ?_|refine iS hs ?_|refine rS hs ?_|refine eI _ (aI rfl ?_)|refine qg ?_|refine qf ?_|refine qc ?_|refine oJ ?_|refine nN hs (fun _ _ hs=>?_)|refine nS hs (fun _ _ hs=>?_)|refine sX hs (fun _ hs=>?_)|(refine dI (fun hc=>?_) (fun hc=>?_) <;> try (exfalso;omega))|(refine hK0 _ _ ?_;clear hK0)|fail)
        rw[hbad hh] at h
        exact h _ (qh hs)
      | true =>
        repeat' (first|refine nX ?_|refine nY (fun K0 hK0=>?_)|refine bH ?_|refine bM ?_|refine iS hs ?_|refine rS hs ?_|refine eI _ (aI rfl ?_)|refine qg ?_|refine qf ?_|refine qc ?_|refine oJ ?_|refine nN hs (fun _ _ hs=>?_)|refine nS hs (fun _ _ hs=>?_)|refine sX hs (fun _ hs=>?_)|(refine dI (fun hc=>?_) (fun hc=>?_) <;> try (exfalso;omega))|(refine hK0 _ _ ?_;clear hK0)|fail)
        exact⟨(H7,i+1),⟨hs,hil,fun i2 hi2=>by
         by_cases hii:i2=i
         ·rw[hii,hw2,a7];exact hh
         ·exact hgi i2 (by dsimp only at hi2;omega)⟩,by dsimp only;omega,Or.inl ⟨⟨rfl,rfl,rfl,rfl,rfl,trivial⟩,rfl⟩⟩)
    ·have hie:i=(finR t (r:Int)).length:=by simp at hc;omega
     subst hie
     repeat' (first|refine nX ?_|refine nY (fun K0 hK0=>?_)|refine bH ?_|refine bM ?_|refine iS hs ?_|refine rS hs ?_|refine eI _ (aI rfl ?_)|refine qg ?_|refine qf ?_|refine qc ?_|refine oJ ?_|refine nN hs (fun _ _ hs=>?_)|refine nS hs (fun _ _ hs=>?_)|refine sX hs (fun _ hs=>?_)|(refine dI (fun hc=>?_) (fun hc=>?_) <;> try (exfalso;omega))|(refine hK0 _ _ ?_;clear hK0)|fail)
     exact⟨(H6,r+1),⟨hs.pickR (A := [_,_,_]) [1,2] (by decide) (A' := [_,_]) rfl,hrp,fun r2 hr2=>by
      by_cases hrr:r2=r
      ·rw[hrr];exact hgi
      ·exact hgd r2 (by dsimp only at hr2;omega)⟩,by dsimp only;omega,Or.inl ⟨⟨rfl,rfl,rfl,trivial⟩,rfl⟩⟩
   ·have hre:r=p:=by simp at hc;omega
    subst hre
    rw[finH_good hp hgd] at h
    repeat' (first|refine nX ?_|refine nY (fun K0 hK0=>?_)|refine bH ?_|refine bM ?_|refine iS hs ?_|refine rS hs ?_|refine eI _ (aI rfl ?_)|refine qg ?_|refine qf ?_|refine qc ?_|refine oJ ?_|refine nN hs (fun _ _ hs=>?_)|refine nS hs (fun _ _ hs=>?_)|refine sX hs (fun _ hs=>?_)|(refine dI (fun hc=>?_) (fun hc=>?_) <;> try (exfalso;omega))|(refine hK0 _ _ ?_;clear hK0)|fail)
    exact h _ (qh hs)
 ·rw[decide_eq_false h0,Bool.false_and] at h
  generalize sndF t l=z at h0 h ⊢
  repeat' (first|refine nX ?_|refine nY (fun K0 hK0=>?_)|refine bH ?_|refine bM ?_|refine iS hs ?_|refine rS hs ?_|refine eI _ (aI rfl ?_)|refine qg ?_|refine qf ?_|refine qc ?_|refine oJ ?_|refine nN hs (fun _ _ hs=>?_)|refine nS hs (fun _ _ hs=>?_)|refine sX hs (fun _ hs=>?_)|(refine dI (fun hc=>?_) (fun hc=>?_) <;> try (exfalso;omega))|(refine hK0 _ _ ?_;clear hK0)|fail)
  exact h _ (qh hs)
end Go.Af.Tryz
