/- A part of the proof. -/
import Derived.Test.YtmnjcogpchodhaaGreatMGI
import Derived.Test.YtmnjcogpchodhaaGreatMGG
import Derived.Test.YtmnjcogpchodhaaGreatMCA
import Derived.Test.YtmnjcogpchodhaaGreatMGK
set_option linter.all false
set_option maxHeartbeats 4000000
set_option maxRecDepth 100000
namespace Go.Af.Tryz
open Go Go.Proofs
attribute [local irreducible] awp qj qJ qL qC qo isCells qx qp qA qw qh roundEnd

theorem ht105:Tryz.prog.underlying 105=some (.struct (Tryz.prog.fieldsOf 105)):=by kernel_rfl
theorem YA:MKey Tryz.prog 105 [.i64, .i64]:=uP ht105 (by kernel_rfl) (by kernel_rfl) (yO (by kernel_rfl))
def cntL (l:List Og) (r:Int):Int:=(l.countP (fun o=>decide (o.1=r)):Nat)
def badK (t:Tk) (u r k:Int):Bool:=decide ((u<r/\0<k)\/(r<=u/\k=0)\/(1<k/\t.op≠10))
def hasF (t:Tk) (w:Fi) (l:List Og):Bool :=
 if w.u<0 then decide (l = [(w.r,w.f)])
 else l.all (fun o=>decide (o.2=w.s))&&(List.range t.pr.toNat).all (fun r:Nat => !(badK t w.u r (cntL l r)))
def cntR (p:Nat) (l:List Og):List Int:=(List.range p).map (fun r:Nat=>cntL l r)
theorem uq (p:Nat) (l:List Og):(cntR p l).length=p:=by simp[cntR]
theorem Xe (p:Nat) (l:List Og) {r:Nat} (h:r<p):(cntR p l)[r]! = cntL l r:=by
 rw[getElem!_pos _ r (by rw[uq];exact h)];simp[cntR]
theorem cntR_set (p:Nat) (l:List Og) (o:Og) {r:Nat} (ho:o.1=r):(cntR p l).set r (cntL l r+1)=cntR p (l ++ [o]):=by
 apply List.ext_getElem
 ·simp[uq]
 ·intro i h1 h2
  rw[List.getElem_set];simp only[cntR,List.getElem_map,List.getElem_range,cntL,List.countP_append,List.countP_singleton];split
  ·rename_i e
   subst e;simp[ho]
  ·rename_i e
   have : ¬ o.1=(i:Int):=by omega
   simp[this]
theorem cnt_le (l:List Og) (r:Int):0<=cntL l r/\cntL l r<=l.length:=by
 unfold cntL;have:=List.countP_le_length (p:=fun o:Og=>decide (o.1=r)) (l:=l);omega
theorem Uf : ∀ (l:List Og) (i:Nat),i<l.length->(orgC l)[2*i]? = some (.int .i64 l[i]!.1)/\(orgC l)[2*i+1]? = some (.int .i64 l[i]!.2)
 | [],i,h=>by simp at h
 | o::r,0,h=>by
   rw[orgC];exact⟨rfl,rfl⟩
 | o::r,i+1,h=>by
   have ih:=Uf r i (by simpa using h);rw[orgC];have e:(o::r)[i+1]! = r[i]! := by simp
   rw[e];exact⟨ih.1,ih.2⟩
theorem seg_og {l:List Og} {i:Nat} {K:List Value->Prop} (hi:i<l.length) (h:K [.int .i64 l[i]!.1, .int .i64 l[i]!.2]):segK (orgC l) (0+i*2) 2 K:=by
 have g:=Uf l i hi;refine⟨_,by rw[show 0+i*2=2*i by omega];exact g.1, ?_⟩;refine⟨_,by rw[show 0+i*2+1=2*i+1 by omega];exact g.2, ?_⟩;exact h
theorem take_snoc {l:List Og} {j:Nat} (h:j<l.length):l.take (j+1)=l.take j ++ [l[j]!]:=by
 rw[List.take_succ_eq_append_getElem h,getElem!_pos l j h]
theorem zr_cnt (p:Nat):vg p [.int .i64 0]=ints (cntR p []):=by
 have:cntR p []=List.replicate p 0:=by
  apply List.ext_getElem
  ·simp[cntR]
  ·intro i h1 h2
   simp[cntR,cntL]
 rw[this];simp[vg,ints]
theorem has_bad {t:Tk} {w:Fi} {l:List Og} {p j:Nat} (hu : ¬ w.u<0) (hp:t.pr=p) (hj:j<p) (hb:badK t w.u (j:Int) (cntL l j)=true):hasF t w l=false:=by
 unfold hasF;rw[if_neg hu,hp,Int.toNat_natCast,Bool.and_eq_false_iff]
 right
 rw[List.all_eq_false];exact⟨j,List.mem_range.2 hj,by rw[hb];simp⟩
theorem has_slot {t:Tk} {w:Fi} {l:List Og} {j:Nat} (hu : ¬ w.u<0) (hj:j<l.length) (hb:l[j]!.2≠w.s):hasF t w l=false:=by
 unfold hasF;rw[if_neg hu,Bool.and_eq_false_iff]
 left
 rw[List.all_eq_false];rw[getElem!_pos l j hj] at hb;exact⟨l[j],List.getElem_mem hj,by simpa using hb⟩
theorem Us {t:Tk} {w:Fi} {l:List Og} {p:Nat} (hu : ¬ w.u<0) (hp:t.pr=p) (hsl : ∀ i,i<l.length->l[i]!.2=w.s) (hb : ∀ j,j<p->badK t w.u (j:Int) (cntL l j)=false):hasF t w l=true:=by
 unfold hasF;rw[if_neg hu,hp,Int.toNat_natCast,Bool.and_eq_true];refine⟨List.all_eq_true.2 (fun o ho=>?_),List.all_eq_true.2 (fun r hr=>?_)⟩
 ·obtain ⟨i,hi,rfl⟩:=List.getElem_of_mem ho
  have:=hsl i hi;rw[getElem!_pos l i hi] at this
  simpa using this
 ·rw[hb r (List.mem_range.1 hr)]
  rfl
theorem one_eq {l:List Og} (h1:l.length=1) (a b:Int):decide (l = [(a,b)])=decide ([l[0]!.1,l[0]!.2] = [a,b]):=by
 match l,h1 with
 | [o],_ =>
   obtain ⟨x,y⟩:=o;rw[decide_eq_decide];simp
theorem cntR_at {p:Nat} {l:List Og} {j r:Nat} {s:Int} (ht:l.take (j+1)=l.take j ++ [((r:Int),s)]):(ints (cntR p (l.take j))).set (0+r*1) (.int .i64 (cntL (l.take j) (r:Int)+1))=ints (cntR p (l.take (j+1))):=by
 rw[Nat.zero_add,Nat.mul_one,ints_set,ht,cntR_set p (l.take j) ((r:Int),s) rfl]
theorem c154 {H:List Blk} {t:Tk} {w:Fi} {b c k:Nat} {l:List Og} {R:Value->List Blk->Prop} (kt:TkOk t) (hk:Lf H k l) (hl:l.length<=128) (hrk:RkL t.pr l) (h : ∀ H',HS H none' [] H' -> R (.bool (hasF t w l)) H'):qj Tryz.prog 154 [tkV t b c, .agg ⟨fiC w⟩,lfV k l] H R:=by
 have hpr:=kt.pr;obtain ⟨p,hp⟩ : ∃ p:Nat,t.pr=p:=⟨t.pr.toNat,by omega⟩;refine qf tok Tryz.call154 Tryz.func154 rfl Tryz.ntmps154 rfl (by simp) ?_;by_cases hn:l = []
 ·subst hn
  refine qi (HS.start H none') (fun H1 tb e1 l1 hs=>?_);refine qi hs (fun H2 wb e2 l2 hs=>?_);refine qg (fun _ hKs=>hKs _ _ ?_);clear hKs;clear e1 l1 e2 l2;by_cases hu:w.u<0
  ·unfold hasF at h
   rw[if_pos hu,decide_eq_false (by simp)] at h
   repeat' (first|refine nY (fun K0 hK0=>?_)|refine zBw ?_|refine zNw (fun _ _ hs=>?_)|(refine dI (fun hc=>?_) (fun hc=>?_) <;> try (exfalso;omega))|(refine hK0 _ _ ?_;clear hK0)|fail)
   refine qm tok mx [0,1,3,7,15,31,63,15,143,511,1023,2047] [false,false,false,false,false,false,false,true,true,false,false,false] (.first 0 (.first 1 (.first 2 (.first 3 (.first 4 (.first 5 (.first 6 (.first 7 (.first 8 (.first 9 (.first 10 (.first 11 .done)))))))))))) (by kernel_rfl) ?_;refine ql (fun K0 hK0=>?_)
   repeat' (first|refine nY (fun K0 hK0=>?_)|refine zBw ?_|refine zNw (fun _ _ hs=>?_)|(refine dI (fun hc=>?_) (fun hc=>?_) <;> try (exfalso;omega))|(refine hK0 _ _ ?_;clear hK0)|fail)
   iterate 4 (
    all_goals try exact trivial
    all_goals try (first | refine And.intro ?_ trivial | refine And.intro ?_ (And.intro ?_ trivial))
    all_goals try (
     repeat' (first|refine nY (fun K0 hK0=>?_)|refine zBw ?_|refine zNw (fun _ _ hs=>?_)|(refine dI (fun hc=>?_) (fun hc=>?_) <;> try (exfalso;omega))|(refine hK0 _ _ ?_;clear hK0)|fail)
     ))
   all_goals exact h _ (qc hs)
  ·have hsl : ∀ i,i<([]:List Og).length->([]:List Og)[i]!.2=w.s:=fun i hi=>by simp at hi
   repeat' (first|refine nY (fun K0 hK0=>?_)|refine zBw ?_|refine zNw (fun _ _ hs=>?_)|(refine dI (fun hc=>?_) (fun hc=>?_) <;> try (exfalso;omega))|(refine hK0 _ _ ?_;clear hK0)|fail)
   refine⟨p,p,⟨hp,hp⟩,⟨Nat.le_refl _,by show _*(8+1)<=_;omega⟩,ints (cntR p []),zr_cnt p, ?_⟩;refine qi hs (fun H3 nb e3 l3 hs=>?_);clear e3 l3
   repeat' (first|refine nY (fun K0 hK0=>?_)|refine zBw ?_|refine zNw (fun _ _ hs=>?_)|(refine dI (fun hc=>?_) (fun hc=>?_) <;> try (exfalso;omega))|(refine hK0 _ _ ?_;clear hK0)|fail)
   refine wQ tok 1 ?_;change vcg _ _ _ _ _ _ _ _ _
   repeat' (first|refine nY (fun K0 hK0=>?_)|refine zBw ?_|refine zNw (fun _ _ hs=>?_)|(refine dI (fun hc=>?_) (fun hc=>?_) <;> try (exfalso;omega))|(refine hK0 _ _ ?_;clear hK0)|fail)
   have hs:=hs.pick [0,1,2] (by decide) rfl (L' := [(true,nb,rw' (cntR p [])),(true,wb, .cells true 1 (fiC w)),(true,tb, .cells true 1 (tkC t b c))])
   refine qE (α := List Blk × Nat) tok (fun z=>HS H none' [(true,nb,rw' (cntR p [])),(true,wb, .cells true 1 (fiC w)),(true,tb, .cells true 1 (tkC t b c))] z.1/\z.2<=p/\∀ i,i<z.2->badK t w.u (i:Int) (cntL [] i)=false)
    (fun z=>[(3, .pointer (some ⟨tb,0,none⟩)),(4, .pointer (some ⟨wb,0,none⟩)),(48,sv nb p),(49, .int .i64 (p:Int)),(50, .int .i64 (z.2:Int))]) (fun z=>z.1) (fun z=>p-z.2)
    (_,0) ⟨hs,Nat.zero_le _,fun i hi=>absurd hi (by omega)⟩ (Or.inl ⟨⟨rfl,rfl,rfl,rfl,rfl,trivial⟩,rfl⟩) ?_
   clear hs;rintro ⟨H9,j⟩ ⟨hs,hj,hgd⟩;dsimp only at hs hj hgd ⊢
   repeat' (first|refine nY (fun K0 hK0=>?_)|refine zBw ?_|refine zNw (fun _ _ hs=>?_)|(refine hK0 _ _ ?_;clear hK0)|fail)
   refine And.intro (fun hc=>?_) (fun hc=>?_)
   ·have hjp:j<p:=by simp at hc;omega
    clear hc;have hjl:j<(cntR p []).length:=by rw[uq];exact hjp
    have hcl:=cnt_le [] (j:Int)
    repeat' (first|refine nY (fun K0 hK0=>?_)|refine zBw ?_|refine zNw (fun _ _ hs=>?_)|(refine dI (fun hc=>?_) (fun hc=>?_) <;> try (exfalso;omega))|(refine hK0 _ _ ?_;clear hK0)|fail)
    refine Ld_ak hjl (Xe p [] hjp) ?_;generalize hck:cntL [] (j:Int)=ck at hcl ⊢
    repeat' (first|refine nY (fun K0 hK0=>?_)|refine zBw ?_|refine zNw (fun _ _ hs=>?_)|(refine dI (fun hc=>?_) (fun hc=>?_) <;> try (exfalso;omega))|(refine hK0 _ _ ?_;clear hK0)|fail)
    all_goals first
     | (have hb:badK t w.u (j:Int) (cntL [] j)=true:=by rw[hck];unfold badK;exact decide_eq_true (by omega)
        rw[has_bad hu hp hjp hb] at h
        exact h _ (qc hs))
     | (have hb:badK t w.u (j:Int) (cntL [] j)=false:=by rw[hck];unfold badK;exact decide_eq_false (by omega)
        exact⟨(H9,j+1),⟨hs,hjp,fun i hi=>by
         by_cases hij:i=j
         ·rw[hij];exact hb
         ·exact hgd i (by dsimp only at hi;omega)⟩,by dsimp only;omega,Or.inl ⟨⟨rfl,rfl,rfl,rfl,rfl,trivial⟩,rfl⟩⟩)
   ·have hje:j=p:=by simp at hc;omega
    rw[Us hu hp hsl (fun i hi=>hgd i (by omega))] at h
    repeat' (first|refine nY (fun K0 hK0=>?_)|refine zBw ?_|refine zNw (fun _ _ hs=>?_)|(refine dI (fun hc=>?_) (fun hc=>?_) <;> try (exfalso;omega))|(refine hK0 _ _ ?_;clear hK0)|fail)
    exact h _ (qc hs)
 ·obtain ⟨wr,hkb⟩:=hk.elim (fun e=>absurd e hn) (fun e=>e)
  rw[zL hn];have hlp:0<l.length:=List.length_pos_iff.2 hn;refine qi ((HS.start H none').add (c:=false) hkb (fun i p hi=>by simp at hi) (fun h=>by cases h)) (fun H1 tb e1 l1 hs=>?_);refine qi hs (fun H2 wb e2 l2 hs=>?_);refine qg (fun _ hKs=>hKs _ _ ?_);clear hKs;clear e1 l1 e2 l2;by_cases hu:w.u<0
  ·have hF:hasF t w l=decide (l = [(w.r,w.f)]):=by unfold hasF;rw[if_pos hu]
   rw[hF] at h;clear hF
   repeat' (first|refine nY (fun K0 hK0=>?_)|refine zBw ?_|refine zNw (fun _ _ hs=>?_)|(refine dI (fun hc=>?_) (fun hc=>?_) <;> try (exfalso;omega))|(refine hK0 _ _ ?_;clear hK0)|fail)
   refine qm tok mx [0,1,3,7,15,31,63,15,143,511,1023,2047] [false,false,false,false,false,false,false,true,true,false,false,false] (.first 0 (.first 1 (.first 2 (.first 3 (.first 4 (.first 5 (.first 6 (.first 7 (.first 8 (.first 9 (.first 10 (.first 11 .done)))))))))))) (by kernel_rfl) ?_;refine ql (fun K0 hK0=>?_)
   repeat' (first|refine nY (fun K0 hK0=>?_)|refine zBw ?_|refine zNw (fun _ _ hs=>?_)|(refine dI (fun hc=>?_) (fun hc=>?_) <;> try (exfalso;omega))|(refine hK0 _ _ ?_;clear hK0)|fail)
   ·refine seg_og (i:=0) hlp ?_
    repeat' (first|refine nY (fun K0 hK0=>?_)|refine zBw ?_|refine zNw (fun _ _ hs=>?_)|(refine dI (fun hc=>?_) (fun hc=>?_) <;> try (exfalso;omega))|(refine hK0 _ _ ?_;clear hK0)|fail)
    refine⟨_,YA.1, ?_⟩
    repeat' (first|refine nY (fun K0 hK0=>?_)|refine zBw ?_|refine zNw (fun _ _ hs=>?_)|(refine dI (fun hc=>?_) (fun hc=>?_) <;> try (exfalso;omega))|(refine hK0 _ _ ?_;clear hK0)|fail)
    rw[one_eq (by omega)] at h;exact h _ (qc hs)
   ·rw[decide_eq_false (fun e=>by rw[e] at hc;exact hc rfl)] at h
    exact h _ (qc hs)
  ·skip
   repeat' (first|refine nY (fun K0 hK0=>?_)|refine zBw ?_|refine zNw (fun _ _ hs=>?_)|(refine dI (fun hc=>?_) (fun hc=>?_) <;> try (exfalso;omega))|(refine hK0 _ _ ?_;clear hK0)|fail)
   refine⟨p,p,⟨hp,hp⟩,⟨Nat.le_refl _,by show _*(8+1)<=_;omega⟩,ints (cntR p []),zr_cnt p, ?_⟩;refine qi hs (fun H3 nb e3 l3 hs=>?_);clear e3 l3
   repeat' (first|refine nY (fun K0 hK0=>?_)|refine zBw ?_|refine zNw (fun _ _ hs=>?_)|(refine dI (fun hc=>?_) (fun hc=>?_) <;> try (exfalso;omega))|(refine hK0 _ _ ?_;clear hK0)|fail)
   refine qE (α := List Blk × Nat) tok (fun z=>HS H none' [(true,nb,rw' (cntR p (l.take z.2))),(true,wb, .cells true 1 (fiC w)),(true,tb, .cells true 1 (tkC t b c)),(false,k, .cells wr 2 (orgC l))] z.1/\z.2<=l.length/\∀ i,i<z.2->l[i]!.2=w.s)
    (fun z=>[(3, .pointer (some ⟨tb,0,none⟩)),(4, .pointer (some ⟨wb,0,none⟩)),(7,sv nb p),(29,sv k l.length),(30, .int .i64 (l.length:Int)),(31, .int .i64 (z.2:Int))]) (fun z=>z.1) (fun z=>l.length-z.2)
    (_,0) ⟨hs,Nat.zero_le _,fun i hi=>absurd hi (by omega)⟩ (Or.inl ⟨⟨rfl,rfl,rfl,rfl,rfl,rfl,trivial⟩,rfl⟩) ?_
   clear hs;rintro ⟨H8,j⟩ ⟨hs,hj,hgo⟩;dsimp only at hs hj hgo ⊢
   repeat' (first|refine nY (fun K0 hK0=>?_)|refine zBw ?_|refine zNw (fun _ _ hs=>?_)|(refine hK0 _ _ ?_;clear hK0)|fail)
   refine And.intro (fun hc=>?_) (fun hc=>?_)
   ·have hjl:j<l.length:=by simp at hc;omega
    clear hc;have hro:=hrk l[j]! (getElem!_pos l j hjl ▸ List.getElem_mem hjl);have htk:=take_snoc hjl;have hslot := @has_slot t w l j hu hjl
    repeat' (first|refine nY (fun K0 hK0=>?_)|refine zBw ?_|refine zNw (fun _ _ hs=>?_)|(refine dI (fun hc=>?_) (fun hc=>?_) <;> try (exfalso;omega))|(refine hK0 _ _ ?_;clear hK0)|fail)
    refine seg_og hjl ?_;have hcl:=cnt_le (l.take j);generalize hoj:l[j]! = o at hro htk hslot ⊢;obtain ⟨ork,osl⟩:=o;dsimp only at hro hslot ⊢;obtain ⟨r,rfl⟩ : ∃ r:Nat,ork=r:=⟨ork.toNat,by omega⟩;have hrp:r<p:=by omega
    have hcl:=hcl (r:Int);rw[List.length_take] at hcl
    repeat' (first|refine nY (fun K0 hK0=>?_)|refine zBw ?_|refine zNw (fun _ _ hs=>?_)|(refine dI (fun hc=>?_) (fun hc=>?_) <;> try (exfalso;omega))|(refine hK0 _ _ ?_;clear hK0)|fail)
    ·rw[hslot hc] at h
     exact h _ (qc hs)
    ·refine Ld_ak (by rw[uq];exact hrp) (Xe p (l.take j) hrp) ?_
     repeat' (first|refine nY (fun K0 hK0=>?_)|refine zBw ?_|refine zNw (fun _ _ hs=>?_)|(refine dI (fun hc=>?_) (fun hc=>?_) <;> try (exfalso;omega))|(refine hK0 _ _ ?_;clear hK0)|fail)
     refine vz hs 1 rfl _ rfl rfl (by rw[vN,uq];show 0+r*1+1<=_;omega) (cntR_at htk) (fun H9 e9 hs=>?_);clear e9
     repeat' (first|refine nY (fun K0 hK0=>?_)|refine zBw ?_|refine zNw (fun _ _ hs=>?_)|(refine dI (fun hc=>?_) (fun hc=>?_) <;> try (exfalso;omega))|(refine hK0 _ _ ?_;clear hK0)|fail)
     exact⟨(H9,j+1),⟨hs.pick [1,2,3,4] (by decide) rfl,hjl,fun i hi=>by
      by_cases hij:i=j
      ·rw[hij,hoj];omega
      ·exact hgo i (by dsimp only at hi;omega)⟩,by dsimp only;omega,Or.inl ⟨⟨rfl,rfl,rfl,rfl,rfl,rfl,trivial⟩,rfl⟩⟩
   ·have hje:j=l.length:=by simp at hc;omega
    subst hje;rw[List.take_length] at hs;have hsl:=hgo
    repeat' (first|refine nY (fun K0 hK0=>?_)|refine zBw ?_|refine zNw (fun _ _ hs=>?_)|(refine dI (fun hc=>?_) (fun hc=>?_) <;> try (exfalso;omega))|(refine hK0 _ _ ?_;clear hK0)|fail)
    have hs:=hs.pick [0,1,2] (by decide) rfl (L' := [(true,nb,rw' (cntR p l)),(true,wb, .cells true 1 (fiC w)),(true,tb, .cells true 1 (tkC t b c))])
    refine qE (α := List Blk × Nat) tok (fun z=>HS H none' [(true,nb,rw' (cntR p l)),(true,wb, .cells true 1 (fiC w)),(true,tb, .cells true 1 (tkC t b c))] z.1/\z.2<=p/\∀ i,i<z.2->badK t w.u (i:Int) (cntL l i)=false)
     (fun z=>[(3, .pointer (some ⟨tb,0,none⟩)),(4, .pointer (some ⟨wb,0,none⟩)),(48,sv nb p),(49, .int .i64 (p:Int)),(50, .int .i64 (z.2:Int))]) (fun z=>z.1) (fun z=>p-z.2)
     (_,0) ⟨hs,Nat.zero_le _,fun i hi=>absurd hi (by omega)⟩ (Or.inl ⟨⟨rfl,rfl,rfl,rfl,rfl,trivial⟩,rfl⟩) ?_
    clear hs;rintro ⟨H9,j⟩ ⟨hs,hj,hgd⟩;dsimp only at hs hj hgd ⊢
    repeat' (first|refine nY (fun K0 hK0=>?_)|refine zBw ?_|refine zNw (fun _ _ hs=>?_)|(refine hK0 _ _ ?_;clear hK0)|fail)
    refine And.intro (fun hc=>?_) (fun hc=>?_)
    ·have hjp:j<p:=by simp at hc;omega
     clear hc;have hjl:j<(cntR p l).length:=by rw[uq];exact hjp
     have hcl:=cnt_le l (j:Int)
     repeat' (first|refine nY (fun K0 hK0=>?_)|refine zBw ?_|refine zNw (fun _ _ hs=>?_)|(refine dI (fun hc=>?_) (fun hc=>?_) <;> try (exfalso;omega))|(refine hK0 _ _ ?_;clear hK0)|fail)
     refine Ld_ak hjl (Xe p l hjp) ?_;generalize hck:cntL l (j:Int)=ck at hcl ⊢
     repeat' (first|refine nY (fun K0 hK0=>?_)|refine zBw ?_|refine zNw (fun _ _ hs=>?_)|(refine dI (fun hc=>?_) (fun hc=>?_) <;> try (exfalso;omega))|(refine hK0 _ _ ?_;clear hK0)|fail)
     all_goals first
      | (have hb:badK t w.u (j:Int) (cntL l j)=true:=by rw[hck];unfold badK;exact decide_eq_true (by omega)
         rw[has_bad hu hp hjp hb] at h
         exact h _ (qc hs))
      | (have hb:badK t w.u (j:Int) (cntL l j)=false:=by rw[hck];unfold badK;exact decide_eq_false (by omega)
         exact⟨(H9,j+1),⟨hs,hjp,fun i hi=>by
          by_cases hij:i=j
          ·rw[hij];exact hb
          ·exact hgd i (by dsimp only at hi;omega)⟩,by dsimp only;omega,Or.inl ⟨⟨rfl,rfl,rfl,rfl,rfl,trivial⟩,rfl⟩⟩)
    ·have hje:j=p:=by simp at hc;omega
     rw[Us hu hp hsl (fun i hi=>hgd i (by omega))] at h
     repeat' (first|refine nY (fun K0 hK0=>?_)|refine zBw ?_|refine zNw (fun _ _ hs=>?_)|(refine dI (fun hc=>?_) (fun hc=>?_) <;> try (exfalso;omega))|(refine hK0 _ _ ?_;clear hK0)|fail)
     exact h _ (qc hs)
end Go.Af.Tryz
namespace Go.Af.Tryz
open Go Go.Proofs
attribute [local irreducible] awp qj qJ qL qC qo isCells qx qp qA qw qh roundEnd

theorem finR_range {t:Tk} (kt:TkOk t) {r x:Int} (hr:0<=r/\r<t.pr) (h:x∈finR t r):0<=x/\x<blkF t*t.pa:=by
 have hpa:=kt.pa;have hpr:=kt.pr;have hb:=ww kt;have hop:=kt.op
 have key : ∀ f g:Int,0<=f->g<=blkF t->x∈spnF t f g->0<=x/\x<blkF t*t.pa:=fun f g h1 h2 h3=>by
  have a:=Ym h3;have b:0<=f*t.pa:=Int.mul_nonneg h1 (by omega);have c:g*t.pa<=blkF t*t.pa:=Int.mul_le_mul_of_nonneg_right h2 (by omega);omega
 unfold finR at h;split at h
 ·split at h
  ·exact key 0 (blkF t) (Int.le_refl 0) (Int.le_refl _) h
  ·cases h
 ·split at h
  ·refine key r (r+1) hr.1 ?_ h
   unfold blkF;rw[if_pos (by omega)];omega
  ·split at h
   ·refine key t.pr (2*t.pr) (by omega) ?_ h
    unfold blkF;rw[if_neg (by omega),if_pos (by omega)];omega
   ·split at h
    ·obtain ⟨d,hd,hx⟩:=List.mem_flatMap.1 h
     have hd:=List.mem_range.1 hd;have hbe:blkF t=1+2*(t.sz.length:Int):=by unfold blkF;rw[if_neg (by omega),if_neg (by omega),if_pos (by omega)]
     unfold hvS at hx;rcases List.mem_append.1 hx with hx | hx
     ·split at hx
      ·cases hx
      ·exact key _ _ (by omega) (by omega) hx
     ·split at hx
      ·cases hx
      ·exact key _ _ (by omega) (by omega) hx
    ·exact key 0 (blkF t) (Int.le_refl 0) (Int.le_refl _) h
theorem XP {t:Tk} (kt:TkOk t) {r:Int} (hr:0<=r/\r<t.pr) {w:Fi} (h:w∈finF t r):0<=w.s/\w.s<blkF t*t.pa :=
 finR_range kt hr (by rw[<- fin_s kt];exact List.mem_map.2 ⟨w,h,rfl⟩)
def finG (t:Tk) (tr:Tr):Bool:=(List.range t.pr.toNat).all (fun r:Nat=>(finF t (r:Int)).all (fun w=>hasF t w (tget tr (r:Int) w.s)))
theorem finG_bad {t:Tk} {tr:Tr} {p r i:Nat} (hp:t.pr=p) (hr:r<p) (hi:i<(finF t (r:Int)).length) (h:hasF t (finF t (r:Int))[i]! (tget tr (r:Int) (finF t (r:Int))[i]!.s)=false):finG t tr=false:=by
 unfold finG;rw[hp,Int.toNat_natCast,List.all_eq_false];refine⟨r,List.mem_range.2 hr, ?_⟩;rw[Bool.not_eq_true,List.all_eq_false];rw[getElem!_pos _ i hi] at h;exact⟨_,List.getElem_mem hi,by rw[h];simp⟩
theorem finG_good {t:Tk} {tr:Tr} {p:Nat} (hp:t.pr=p) (h : ∀ r:Nat,r<p->∀ i,i<(finF t (r:Int)).length->hasF t (finF t (r:Int))[i]! (tget tr (r:Int) (finF t (r:Int))[i]!.s)=true):finG t tr=true:=by
 unfold finG;rw[hp,Int.toNat_natCast,List.all_eq_true];intro r hr;rw[List.all_eq_true];intro w hw;obtain ⟨i,hi,rfl⟩:=List.getElem_of_mem hw;have:=h r (List.mem_range.1 hr) i hi;rw[getElem!_pos _ i hi] at this;exact this
theorem c74 {H:List Blk} {t:Tk} {alg:Int} {l:List Coll.St} {b c d:Nat} {R:Value->List Blk->Prop} (gr:Gr H t.sz b) (gw:Gw H t.ws b c) (hst:Sts H l d) (hl:t.sz.length<=9223372036854775807) (hll:l.length<=9223372036854775807) (h0:sndF t l=0)
 (he:(∀ tr,trcF t l=some tr->finG t tr=false)->∀ H',HS H none' [] H' -> R (.tuple ⟨[.slice none 0 0, .bool false]⟩) H')
 (h : ∀ H' ob rows M,HS H none' ((true,ob, .cells true 1 (outC rows 0))::(rwL rows++lfL M)) H' -> LfIn rows M->Dim rows t.pr.toNat (sltF t).toNat->trcF t l=some (cont rows)->finG t (cont rows)=true->R (.tuple ⟨[sv ob rows.length, .bool true]⟩) H') :
 qj Tryz.prog 74 [schV t alg b c d l.length] H R:=by
 obtain ⟨hchk,hok⟩:=snd_ok h0;have kt:=yz hchk;have hpr:=kt.pr;have hbr:=ww kt;have hsl:sltF t=blkF t*t.pa:=by unfold sltF;rw[if_pos hchk]
 obtain ⟨p,hp⟩ : ∃ p:Nat,t.pr=p:=⟨t.pr.toNat,by omega⟩;obtain ⟨n,hN⟩ : ∃ n:Nat,sltF t=n:=⟨(sltF t).toNat,by omega⟩;refine qf tok Tryz.call74 Tryz.func74 rfl Tryz.ntmps74 rfl (by simp) ?_;refine qi (HS.start H none') (fun H1 b1 e1 l1 hs=>?_);refine qg (fun _ hKs=>hKs _ _ ?_);clear hKs;clear e1 l1
 repeat' (first|refine nY (fun K0 hK0=>?_)|refine zAw ?_|refine zNw (fun _ _ hs=>?_)|fail)
 refine c102 (gr.up (qc hs)) (hst.up (qc hs)) hl hll h0 (fun hno H2 hn=>?_) (fun H2 ob rows M hn hlf hdm htr=>?_)
 ·have hs:=qK hs hn
  clear hn
  repeat' (first|refine nY (fun K0 hK0=>?_)|refine zAw ?_|refine zNw (fun _ _ hs=>?_)|(refine dI (fun hc=>?_) (fun hc=>?_) <;> try (exfalso;omega))|fail)
  exact he (fun tr e=>by rw[hno] at e;cases e) _ (qc hs)
 ·have hs:=(hs.call hn (by rw[List.all_cons,List.all_append,Yr,YE];rfl))
  have hs:HS H none' ((true,ob, .cells true 1 (outC rows 0))::(true,b1,shB t alg b c d l.length)::(rwL rows++lfL M)) H2:=hs.perm ((List.perm_append_comm (l₁ := rwL rows++lfL M) (l₂ := [_])).cons _);clear hn;have hrk:=trc_rk htr;rw[hp,hN,Int.toNat_natCast,Int.toNat_natCast] at hdm;rw[hdm.p];rw[hp,Int.toNat_natCast] at hrk
  repeat' (first|refine nY (fun K0 hK0=>?_)|refine zAw ?_|refine zNw (fun _ _ hs=>?_)|(refine dI (fun hc=>?_) (fun hc=>?_) <;> try (exfalso;omega))|fail)
  refine qE (α := List Blk × Nat) tok (fun z=>HS H none' ((true,ob, .cells true 1 (outC rows 0))::(true,b1,shB t alg b c d l.length)::(rwL rows++lfL M)) z.1/\z.2<=p/\∀ r:Nat,r<z.2->∀ i,i<(finF t (r:Int)).length->hasF t (finF t (r:Int))[i]! (tget (cont rows) (r:Int) (finF t (r:Int))[i]!.s)=true)
   (fun z=>[(1, .pointer (some ⟨b1,0,none⟩)),(4,sv ob p),(17, .int .i64 (p:Int)),(18, .int .i64 (z.2:Int))]) (fun z=>z.1) (fun z=>p-z.2)
   (H2,0) ⟨hs,Nat.zero_le _,fun r hr=>absurd hr (by omega)⟩ (Or.inl ⟨⟨rfl,rfl,rfl,rfl,trivial⟩,rfl⟩) ?_
  clear hs;rintro ⟨H3,r⟩ ⟨hs,hr,hgd⟩;dsimp only at hs hr hgd ⊢
  repeat' (first|refine nY (fun K0 hK0=>?_)|refine zAw ?_|refine zNw (fun _ _ hs=>?_)|fail)
  refine And.intro (fun hc=>?_) (fun hc=>?_)
  ·have hrp:r<p:=by simp at hc;omega
   clear hc
   repeat' (first|refine nY (fun K0 hK0=>?_)|refine zAw ?_|refine zNw (fun _ _ hs=>?_)|fail)
   refine c77 kt (gr.up (qc hs)) (gw.up (qc hs)) (by omega) (fun H4 kf hn=>?_);have hs:=(hs.call hn rfl).pickR (A := [_,_,_]) [0,1,2] (by decide) (A' := [_,_,_]) rfl;clear hn;have hln:=hal_len kt (r:Int);have hfr:=fun w=>@XP t kt (r:Int) (by omega) w
   rw[<- hsl,hN] at hfr
   repeat' (first|refine nY (fun K0 hK0=>?_)|refine zAw ?_|refine zNw (fun _ _ hs=>?_)|fail)
   refine qE (α := List Blk × Nat) tok (fun z=>HS H none' ((true,kf, .cells true 4 (fisC (finF t (r:Int))))::(true,ob, .cells true 1 (outC rows 0))::(true,b1,shB t alg b c d l.length)::(rwL rows++lfL M)) z.1/\z.2<=(finF t (r:Int)).length/\∀ i,i<z.2->hasF t (finF t (r:Int))[i]! (tget (cont rows) (r:Int) (finF t (r:Int))[i]!.s)=true)
    (fun z=>[(1, .pointer (some ⟨b1,0,none⟩)),(4,sv ob p),(6, .int .i64 (r:Int)),(17, .int .i64 (p:Int)),(18, .int .i64 (r:Int)),(24,sv kf (finF t (r:Int)).length),(25, .int .i64 ((finF t (r:Int)).length:Int)),(26, .int .i64 (z.2:Int))]) (fun z=>z.1) (fun z=>(finF t (r:Int)).length-z.2)
    (H4,0) ⟨hs,Nat.zero_le _,fun i hi=>absurd hi (by omega)⟩ (Or.inl ⟨⟨rfl,rfl,rfl,rfl,rfl,rfl,rfl,rfl,trivial⟩,rfl⟩) ?_
   clear hs;rintro ⟨H5,i⟩ ⟨hs,hi,hgi⟩;dsimp only at hs hi hgi ⊢
   repeat' (first|refine nY (fun K0 hK0=>?_)|refine zAw ?_|refine zNw (fun _ _ hs=>?_)|fail)
   refine And.intro (fun hc=>?_) (fun hc=>?_)
   ·have hil:i<(finF t (r:Int)).length:=by simp at hc;omega
    clear hc;have hws:=hfr _ (getElem!_pos (finF t (r:Int)) i hil ▸ List.getElem_mem hil);have hbad := @finG_bad t (cont rows) p r i hp hrp hil
    repeat' (first|refine nY (fun K0 hK0=>?_)|refine zAw ?_|refine zNw (fun _ _ hs=>?_)|fail)
    refine seg_fi hil ?_;generalize hw:(finF t (r:Int))[i]! = w at hws hbad ⊢;obtain ⟨ws,wr,wf,wu⟩:=w;dsimp only at hws hbad ⊢;obtain ⟨s,rfl⟩ : ∃ s:Nat,ws=s:=⟨ws.toNat,by omega⟩;obtain ⟨q,e,a1,a2,a3,a4,a5,a6,a7⟩:=hdm.at (r:=(r:Int)) (s:=(s:Int)) (by omega) hws;rw[Int.toNat_natCast] at a1 a2;have ho2:=xZ rows 0 r q a1;rw[a5] at ho2;have hr2:(rowC q.2)[s]? = some (lfV e.1 e.2):=by unfold rowC;rw[List.getElem?_map,a2];rfl
    have hro:RkL t.pr e.2:=by rw[hp,<- a7];exact Xy hrk _ _
    rw[a7] at hbad
    repeat' (first|refine nY (fun K0 hK0=>?_)|refine zAw ?_|refine zNw (fun _ _ hs=>?_)|fail)
    have hs:=hs.pickR (A := [_,_,_,_]) [0,1,2,3] (by decide) (A' := [_,_,_,_]) rfl;have hb2:=hs.mem (c:=true) (b:=q.1) (B:=rowB q.2) (List.mem_append_right _ (List.mem_append_left _ (QF a3)));refine qm tok mx [0,1,0,0,0,24,56,0,128,504,1016,2047,4095] [false,false,true,true,true,true,true,true,true,true,true,false,false] (.first 0 (.first 1 (.first 2 (.first 3 (.first 4 (.first 5 (.first 6 (.first 7 (.first 8 (.first 9 (.first 10 (.first 11 (.first 12 .done))))))))))))) (by kernel_rfl) ?_;refine ql (fun K0 hK0=>?_)
    repeat' (first|refine nY (fun K0 hK0=>?_)|refine zAw ?_|refine zNw (fun _ _ hs=>?_)|fail)
    iterate 10 (
     all_goals try exact trivial
     all_goals try (first | refine xu ho2 ?_ | refine xu hr2 ?_ | refine qH hb2 ?_ | refine qG hb2 ?_)
     all_goals try (first | refine And.intro ?_ trivial | refine And.intro ?_ (And.intro ?_ trivial) | refine And.intro ?_ (And.intro ?_ (And.intro ?_ trivial)))
     all_goals try (
      repeat' (first|refine nY (fun K0 hK0=>?_)|refine zAw ?_|refine zNw (fun _ _ hs=>?_)|fail)
      ))
    all_goals (
     refine c154 (w:=⟨s,wr,wf,wu⟩) kt (Lf_of hs (fun h=>List.mem_append_right _ (List.mem_append_right _ (ZR (hlf q a3 e a4 h))))) a6 hro (kNo hs (fun H6 hs=>?_))
     cases hh:hasF t ⟨s,wr,wf,wu⟩ e.2 with
     | false =>
       repeat' (first|refine nY (fun K0 hK0=>?_)|refine zAw ?_|refine zNw (fun _ _ hs=>?_)|(refine dI (fun hc=>?_) (fun hc=>?_) <;> try (exfalso;omega))|fail)
       exact he (fun tr e2=>by rw[htr] at e2;cases e2;exact hbad hh) _ (qc hs)
     | true =>
       repeat' (first|refine nY (fun K0 hK0=>?_)|refine zAw ?_|refine zNw (fun _ _ hs=>?_)|(refine dI (fun hc=>?_) (fun hc=>?_) <;> try (exfalso;omega))|fail)
       exact⟨(H6,i+1),⟨hs.pickR (A := [_,_,_,_]) [1,2,3] (by decide) (A' := [_,_,_]) rfl,hil,fun i2 hi2=>by
        by_cases hii:i2=i
        ·rw[hii,hw];dsimp only;rw[a7];exact hh
        ·exact hgi i2 (by dsimp only at hi2;omega)⟩,by dsimp only;omega,Or.inl ⟨⟨rfl,rfl,rfl,rfl,rfl,rfl,rfl,rfl,trivial⟩,rfl⟩⟩)
   ·have hie:i=(finF t (r:Int)).length:=by simp at hc;omega
    subst hie
    repeat' (first|refine nY (fun K0 hK0=>?_)|refine zAw ?_|refine zNw (fun _ _ hs=>?_)|(refine dI (fun hc=>?_) (fun hc=>?_) <;> try (exfalso;omega))|fail)
    exact⟨(H5,r+1),⟨hs.pickR (A := [_,_,_]) [1,2] (by decide) (A' := [_,_]) rfl,hrp,fun r2 hr2=>by
     by_cases hrr:r2=r
     ·rw[hrr];exact hgi
     ·exact hgd r2 (by dsimp only at hr2;omega)⟩,by dsimp only;omega,Or.inl ⟨⟨rfl,rfl,rfl,rfl,trivial⟩,rfl⟩⟩
  ·have hre:r=p:=by simp at hc;omega
   subst hre
   repeat' (first|refine nY (fun K0 hK0=>?_)|refine zAw ?_|refine zNw (fun _ _ hs=>?_)|(refine dI (fun hc=>?_) (fun hc=>?_) <;> try (exfalso;omega))|fail)
   have hs:=(hs.pickR (A := [_,_]) [0] (by decide) (A' := [_]) rfl);rw[<- hdm.p];exact h _ ob rows M hs hlf (by rw[hp,hN,Int.toNat_natCast,Int.toNat_natCast];exact hdm) htr (finG_good hp hgd)
end Go.Af.Tryz
namespace Go.Af.Tryz
open Go Go.Proofs
attribute [local irreducible] awp qj qJ qL qC qo isCells qx qp qA qw qh roundEnd

def rgtF (t:Tk) (l:List Coll.St):Bool:=match trcF t l with
 | some tr=>finG t tr
 | none=>false
theorem c26 {H:List Blk} {t:Tk} {alg:Int} {l:List Coll.St} {b c d:Nat} {R:Value->List Blk->Prop} (gr:Gr H t.sz b) (gw:Gw H t.ws b c) (hst:Sts H l d) (hl:t.sz.length<=9223372036854775807) (hw:t.ws.length<=9223372036854775807) (hll:l.length<=9223372036854775807)
 (h : ∀ H',HS H none' [] H' -> R (.tuple ⟨[.bool (decide (sndF t l=0)&&rgtF t l), .int .i64 (sndF t l)]⟩) H') :
 qj Tryz.prog 26 [schV t alg b c d l.length] H R:=by
 refine qf tok Tryz.call26 Tryz.func26 rfl Tryz.ntmps26 rfl (by simp) ?_;refine qi (HS.start H none') (fun H1 b1 e1 l1 hs=>?_);refine qg (fun _ hKs=>hKs _ _ ?_);clear hKs;clear e1 l1
 repeat' (first|refine nY (fun K0 hK0=>?_)|refine zAw ?_|refine zNw (fun _ _ hs=>?_)|fail)
 refine c29 (gr.up (qc hs)) (hst.up (qc hs)) hl hw hll (kNo hs (fun H2 hs=>?_));by_cases h0:sndF t l=0
 ·rw[h0] at h ⊢
  rw[decide_eq_true rfl,Bool.true_and] at h
  repeat' (first|refine nY (fun K0 hK0=>?_)|refine zAw ?_|refine zNw (fun _ _ hs=>?_)|(refine dI (fun hc=>?_) (fun hc=>?_) <;> try (exfalso;omega))|fail)
  refine c74 (gr.up (qc hs)) (gw.up (qc hs)) (hst.up (qc hs)) hl hll h0 (fun hno H3 hn=>?_) (fun H3 ob rows M hn hlf hdm htr hfg=>?_)
  ·have hs:=qK hs hn
   clear hn
   have hr:rgtF t l=false:=by
    unfold rgtF
    cases ht:trcF t l with
    | none=>rfl
    | some tr=>exact hno tr ht
   rw[hr] at h
   repeat' (first|refine nY (fun K0 hK0=>?_)|refine zAw ?_|refine zNw (fun _ _ hs=>?_)|(refine dI (fun hc=>?_) (fun hc=>?_) <;> try (exfalso;omega))|fail)
   exact h _ (qc hs)
  ·have hs:=(hs.call hn (by rw[List.all_cons,List.all_append,Yr,YE];rfl)).left
   clear hn
   have hr:rgtF t l=true:=by
    unfold rgtF;rw[htr];exact hfg
   rw[hr] at h
   repeat' (first|refine nY (fun K0 hK0=>?_)|refine zAw ?_|refine zNw (fun _ _ hs=>?_)|(refine dI (fun hc=>?_) (fun hc=>?_) <;> try (exfalso;omega))|fail)
   exact h _ (qc hs)
 ·rw[decide_eq_false h0,Bool.false_and] at h
  generalize sndF t l=z at h0 h ⊢
  repeat' (first|refine nY (fun K0 hK0=>?_)|refine zAw ?_|refine zNw (fun _ _ hs=>?_)|(refine dI (fun hc=>?_) (fun hc=>?_) <;> try (exfalso;omega))|fail)
  exact h _ (qc hs)
end Go.Af.Tryz
namespace Go.Af.Tryz
open Go Go.Proofs
attribute [local irreducible] awp qj qJ qL qC qo isCells qx qp qA qw qh roundEnd

def joiF (op:Int):Bool:=decide (op=2\/op=3\/op=4\/op=9\/op=10)
end Go.Af.Tryz
