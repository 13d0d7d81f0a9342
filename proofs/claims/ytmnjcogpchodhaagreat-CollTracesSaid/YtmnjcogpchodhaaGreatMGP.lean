/-
  The law CollTraces as a call.
-/
import Derived.Test.YtmnjcogpchodhaaGreatMGN
import Derived.Test.YtmnjcogpchodhaaGreatMWA
set_option linter.all false
namespace Go.Af.Tryz
open Go Go.Proofs
set_option maxRecDepth 100000
set_option maxHeartbeats 4000000
attribute [local irreducible] awp qC vK vS vH qJ isCells qy qp qW qN qw roundEnd rdMap xW keyK zt

theorem rgt_eq (t:Tk) (l:List Coll.St):(decide (sndF t l=0)&&rgtF t l)=(decide (sndF t l=0)&&rgtR t l):=by
 by_cases h:sndF t l=0
 ·rw[rgt_same (tk_ok (snd_ok h).1) l]
 ·rw[decide_eq_false h];rfl
theorem ord_eq (t:Tk) (l:List Coll.St):(decide (sndF t l=0)&&orF t l)=(decide (sndF t l=0)&&orR t l):=by
 by_cases h:sndF t l=0
 ·rw[ord_same (tk_ok (snd_ok h).1) l]
 ·rw[decide_eq_false h];rfl
theorem cont_at {rows rows2:List (Nat × Rw)} (h:cont rows=cont rows2) {r s:Nat} {q q2:Nat × Rw} {e e2:Nat × List Og} (h1:rows[r]? = some q) (h2:rows2[r]? = some q2) (h3:q.2[s]? = some e) (h4:q2.2[s]? = some e2):e.2=e2.2:=by
 have a:(cont rows)[r]? = some (q.2.map Prod.snd):=by unfold cont;rw[List.getElem?_map,h1];rfl
 have b:(cont rows2)[r]? = some (q2.2.map Prod.snd):=by unfold cont;rw[List.getElem?_map,h2];rfl
 rw[h,b] at a
 have a:q2.2.map Prod.snd=q.2.map Prod.snd:=Option.some.inj a
 have c:(q.2.map Prod.snd)[s]? = some e.2:=by rw[List.getElem?_map,h3];rfl
 rw[<- a,List.getElem?_map,h4] at c
 exact (Option.some.inj c).symm
theorem wk12 (t:Tk) (alg:Int) (l:List Coll.St) {m:LM} {argsR:Array Value} {w:World}
 (ha:LRel m [schV t alg 0 1 2 l.length] argsR.toList) (hr:HRel m [ro t.sz, .cells false 1 (bls t.ws), .cells false 6 (stsC l)] w) :
 Calls Tryz.prog 12 argsR w fun e w' => ∃ vR,e = .returned vR/\xx m [ro t.sz, .cells false 1 (bls t.ws), .cells false 6 (stsC l)] w (fun v _=>v = .bool true) vR w' := by
 refine calls_vcg tok Tryz.func12 rfl Tryz.ntmps12 rfl (by simp) ?_ ha hr
 generalize hH0 : [ro t.sz,Blk.cells false 1 (bls t.ws),Blk.cells false 6 (stsC l)]=H0
 have g0:Gr H0 t.sz 0:=⟨_,by rw[<- hH0];rfl⟩
 have w0:Gw H0 t.ws 0 1:=⟨by decide,_,by rw[<- hH0];rfl⟩
 have s0:Sts H0 l 2:=⟨_,by rw[<- hH0];rfl⟩
 clear hH0 ha hr
 refine qm (HS.start H0 none') (fun H1 b1 e1 l1 hs=>?_)
 refine qo (fun _ hKs=>hKs _ _ ?_);clear hKs
 clear e1 l1
 repeat' (first|with_reducible (first|refine qU ?_|refine ve (fun K0 hK0=>?_)|refine vg ?_|refine vk ?_|refine qE ?_|refine qK ?_|refine qF ?_|refine qx ?_|refine vw (fun K0 hK0=>?_)|refine vC ?_|refine vU ?_|refine qZ ?_|refine vT ?_|refine vz ?_|refine qR ?_|refine qH ?_|refine vF ?_|refine vG rfl ?_|refine qV rfl ?_)|refine iS hs ?_|refine rS hs ?_|refine eI _ (aI rfl ?_)|refine qg ?_|refine qf ?_|refine qc ?_|refine oJ ?_|refine qm hs (fun _ _ _ _ hs=>?_)|refine vJ hs (fun _ _ _ _ hs=>?_)|refine sS hs 0 (fun _ _ hs=>?_)|refine sS hs 1 (fun _ _ hs=>?_)|refine sS hs 2 (fun _ _ hs=>?_)|(refine hK0 _ _ ?_;clear hK0)|fail)
 refine c14 (fun H2 hn=>?_)
 have hs:=qA hs hn
 clear hn
 have works : ∀ (H:List Blk) {R:Value->List Blk->Prop} (_:R (.bool true) H),qC Tryz.prog 15 [] H R:=fun H _ h=>(W.worksX H h).call
 by_cases q:t.sz.length<=10/\t.ws.length<=10/\(t.pr<=16\/64<t.pr)
 ·rw[decide_eq_true q]
  obtain ⟨hl,hw, -⟩:=q
  repeat' (first|with_reducible (first|refine qU ?_|refine ve (fun K0 hK0=>?_)|refine vg ?_|refine vk ?_|refine qE ?_|refine qK ?_|refine qF ?_|refine qx ?_|refine vw (fun K0 hK0=>?_)|refine vC ?_|refine vU ?_|refine qZ ?_|refine vT ?_|refine vz ?_|refine qR ?_|refine qH ?_|refine vF ?_|refine vG rfl ?_|refine qV rfl ?_)|refine iS hs ?_|refine rS hs ?_|refine eI _ (aI rfl ?_)|refine qg ?_|refine qf ?_|refine qc ?_|refine oJ ?_|refine qm hs (fun _ _ _ _ hs=>?_)|refine vJ hs (fun _ _ _ _ hs=>?_)|refine sS hs 0 (fun _ _ hs=>?_)|refine sS hs 1 (fun _ _ hs=>?_)|refine sS hs 2 (fun _ _ hs=>?_)|((refine aI (fun hc=>?_) (fun hc=>?_)) <;> (try simp only[decide_eq_true_eq,decide_eq_false_iff_not,Bool.not_eq_true',Bool.not_eq_false',Bool.not_false,Bool.not_true,bne_iff_ne,ne_eq,Decidable.not_not,Int.not_lt,Int.not_le] at hc) <;> (try (exfalso;omega)))|(refine hK0 _ _ ?_;clear hK0)|fail)
  ·refine works _ ?_
   repeat' (first|with_reducible (first|refine qU ?_|refine ve (fun K0 hK0=>?_)|refine vg ?_|refine vk ?_|refine qE ?_|refine qK ?_|refine qF ?_|refine qx ?_|refine vw (fun K0 hK0=>?_)|refine vC ?_|refine vU ?_|refine qZ ?_|refine vT ?_|refine vz ?_|refine qR ?_|refine qH ?_|refine vF ?_|refine vG rfl ?_|refine qV rfl ?_)|refine iS hs ?_|refine rS hs ?_|refine eI _ (aI rfl ?_)|refine qg ?_|refine qf ?_|refine qc ?_|refine oJ ?_|refine qm hs (fun _ _ _ _ hs=>?_)|refine vJ hs (fun _ _ _ _ hs=>?_)|refine sS hs 0 (fun _ _ hs=>?_)|refine sS hs 1 (fun _ _ hs=>?_)|refine sS hs 2 (fun _ _ hs=>?_)|((refine aI (fun hc=>?_) (fun hc=>?_)) <;> (try simp only[decide_eq_true_eq,decide_eq_false_iff_not,Bool.not_eq_true',Bool.not_eq_false',Bool.not_false,Bool.not_true,bne_iff_ne,ne_eq,Decidable.not_not,Int.not_lt,Int.not_le] at hc) <;> (try (exfalso;omega)))|(refine hK0 _ _ ?_;clear hK0)|fail)
   rfl
  ·have hll:l.length<=1000000:=by omega
   by_cases hT:sndF t l=0/\trcF t l≠none
   refine c48 (g0.up (qh hs)) (s0.up (qh hs)) (by omega) (by omega) (by omega) (fun H3 z hn hz hzz=>?_) (fun H3 ob rows M hn hlf hdm hs0 htr=>?_)
   ·exfalso
    rcases hzz with e | ⟨_,e,_⟩
    ·exact hz (e.trans hT.1)
    ·exact hT.2 e
   have hs:=(hs.call hn (by rw[List.all_cons,List.all_append,rwL_all,lfL_all];rfl))
   have hs:HS H0 none' ((true,ob, .cells true 1 (outC rows 0))::(true,b1,shB t alg 0 1 2 l.length)::(rwL rows++lfL M)) H3:=hs.perm ((List.perm_append_comm (l₁ := rwL rows++lfL M) (l₂ := [_])).cons _)
   clear hn
   repeat' (first|with_reducible (first|refine qU ?_|refine ve (fun K0 hK0=>?_)|refine vg ?_|refine vk ?_|refine qE ?_|refine qK ?_|refine qF ?_|refine qx ?_|refine vw (fun K0 hK0=>?_)|refine vC ?_|refine vU ?_|refine qZ ?_|refine vT ?_|refine vz ?_|refine qR ?_|refine qH ?_|refine vF ?_|refine vG rfl ?_|refine qV rfl ?_)|refine iS hs ?_|refine rS hs ?_|refine eI _ (aI rfl ?_)|refine qg ?_|refine qf ?_|refine qc ?_|refine oJ ?_|refine qm hs (fun _ _ _ _ hs=>?_)|refine vJ hs (fun _ _ _ _ hs=>?_)|refine sS hs 0 (fun _ _ hs=>?_)|refine sS hs 1 (fun _ _ hs=>?_)|refine sS hs 2 (fun _ _ hs=>?_)|((refine aI (fun hc=>?_) (fun hc=>?_)) <;> (try simp only[decide_eq_true_eq,decide_eq_false_iff_not,Bool.not_eq_true',Bool.not_eq_false',Bool.not_false,Bool.not_true,bne_iff_ne,ne_eq,Decidable.not_not,Int.not_lt,Int.not_le] at hc) <;> (try (exfalso;omega)))|(refine hK0 _ _ ?_;clear hK0)|fail)
   refine c23 (s0.up (qh hs)) hll (fun H4 k hn=>?_)
   have sk:Sts H4 l k:=⟨_,hn.get 0 rfl⟩
   have hs:=qA hs (qh hn)
   clear hn
   repeat' (first|with_reducible (first|refine qU ?_|refine ve (fun K0 hK0=>?_)|refine vg ?_|refine vk ?_|refine qE ?_|refine qK ?_|refine qF ?_|refine qx ?_|refine vw (fun K0 hK0=>?_)|refine vC ?_|refine vU ?_|refine qZ ?_|refine vT ?_|refine vz ?_|refine qR ?_|refine qH ?_|refine vF ?_|refine vG rfl ?_|refine qV rfl ?_)|refine iS hs ?_|refine rS hs ?_|refine eI _ (aI rfl ?_)|refine qg ?_|refine qf ?_|refine qc ?_|refine oJ ?_|refine qm hs (fun _ _ _ _ hs=>?_)|refine vJ hs (fun _ _ _ _ hs=>?_)|refine sS hs 0 (fun _ _ hs=>?_)|refine sS hs 1 (fun _ _ hs=>?_)|refine sS hs 2 (fun _ _ hs=>?_)|((refine aI (fun hc=>?_) (fun hc=>?_)) <;> (try simp only[decide_eq_true_eq,decide_eq_false_iff_not,Bool.not_eq_true',Bool.not_eq_false',Bool.not_false,Bool.not_true,bne_iff_ne,ne_eq,Decidable.not_not,Int.not_lt,Int.not_le] at hc) <;> (try (exfalso;omega)))|(refine hK0 _ _ ?_;clear hK0)|fail)
   refine c49 (g0.up (qh hs)) sk hl hw hll (fun H5 z hn hz hzz=>?_) (fun H5 ob2 rows2 M2 hn hlf2 hdm2 _ htr2=>?_)
   ·exfalso
    rcases hzz with e | ⟨_,e,_⟩
    ·exact hz (e.trans hT.1)
    ·exact hT.2 e
   have hs:=(hs.call hn (by rw[List.all_cons,List.all_append,rwL_all,lfL_all];rfl))
   have hs:HS H0 none' ((true,ob2, .cells true 1 (outC rows2 0))::(true,ob, .cells true 1 (outC rows 0))::(true,b1,shB t alg 0 1 2 l.length)::((rwL rows++lfL M)++(rwL rows2++lfL M2))) H5:=hs.perm ((List.perm_append_comm (l₁ := rwL rows2++lfL M2) (l₂ := _::_::(rwL rows++lfL M))).cons _)
   clear hn sk
   have hct:cont rows=cont rows2:=Option.some.inj (htr.symm.trans htr2)
   have kt:=tk_ok (snd_ok hT.1).1
   have hpp:t.pr.toNat<=64:=by have:=kt.pr;omega
   have hnn:(sltF t).toNat<=2048:=by
    have:=wC kt
    have e:sltF t=blkF t*t.pa:=by unfold sltF;rw[if_pos (snd_ok hT.1).1]
    rw[e];omega
   clear hT hs0 htr htr2
   generalize t.pr.toNat=p at hdm hdm2 hpp
   generalize (sltF t).toNat=n at hdm hdm2 hnn
   have hp1:=hdm.p
   have hp2:=hdm2.p
   rw[hp1,hp2]
   repeat' (first|with_reducible (first|refine qU ?_|refine ve (fun K0 hK0=>?_)|refine vg ?_|refine vk ?_|refine qE ?_|refine qK ?_|refine qF ?_|refine qx ?_|refine vw (fun K0 hK0=>?_)|refine vC ?_|refine vU ?_|refine qZ ?_|refine vT ?_|refine vz ?_|refine qR ?_|refine qH ?_|refine vF ?_|refine vG rfl ?_|refine qV rfl ?_)|refine iS hs ?_|refine rS hs ?_|refine eI _ (aI rfl ?_)|refine qg ?_|refine qf ?_|refine qc ?_|refine oJ ?_|refine qm hs (fun _ _ _ _ hs=>?_)|refine vJ hs (fun _ _ _ _ hs=>?_)|refine sS hs 0 (fun _ _ hs=>?_)|refine sS hs 1 (fun _ _ hs=>?_)|refine sS hs 2 (fun _ _ hs=>?_)|((refine aI (fun hc=>?_) (fun hc=>?_)) <;> (try simp only[decide_eq_true_eq,decide_eq_false_iff_not,Bool.not_eq_true',Bool.not_eq_false',Bool.not_false,Bool.not_true,bne_iff_ne,ne_eq,Decidable.not_not,Int.not_lt,Int.not_le] at hc) <;> (try (exfalso;omega)))|(refine hK0 _ _ ?_;clear hK0)|fail)
   all_goals try (first | exact absurd rfl hc | exact absurd trivial hc | (simp at hc;done) | contradiction)
   generalize hL:(true,ob2,Blk.cells true 1 (outC rows2 0))::(true,ob,Blk.cells true 1 (outC rows 0))::(true,b1,shB t alg 0 1 2 l.length)::((rwL rows++lfL M)++(rwL rows2++lfL M2))=L at hs
   have ob1m:(true,ob,Blk.cells true 1 (outC rows 0))∈L:=by rw[<- hL];exact List.mem_cons_of_mem _ List.mem_cons_self
   have ob2m:(true,ob2,Blk.cells true 1 (outC rows2 0))∈L:=by rw[<- hL];exact List.mem_cons_self
   have rw1 : ∀ q∈rows,(true,q.1,rowB q.2)∈L:=fun q hq=>by rw[<- hL];exact List.mem_cons_of_mem _ (List.mem_cons_of_mem _ (List.mem_cons_of_mem _ (List.mem_append_left _ (List.mem_append_left _ (zJ hq)))))
   have rw2 : ∀ q∈rows2,(true,q.1,rowB q.2)∈L:=fun q hq=>by rw[<- hL];exact List.mem_cons_of_mem _ (List.mem_cons_of_mem _ (List.mem_cons_of_mem _ (List.mem_append_right _ (List.mem_append_left _ (zJ hq)))))
   have lf1 : ∀ e∈M,(true,e.1,ogB e.2)∈L:=fun e he=>by rw[<- hL];exact List.mem_cons_of_mem _ (List.mem_cons_of_mem _ (List.mem_cons_of_mem _ (List.mem_append_left _ (List.mem_append_right _ (yh he)))))
   have lf2 : ∀ e∈M2,(true,e.1,ogB e.2)∈L:=fun e he=>by rw[<- hL];exact List.mem_cons_of_mem _ (List.mem_cons_of_mem _ (List.mem_cons_of_mem _ (List.mem_append_right _ (List.mem_append_right _ (yh he)))))
   have hst : ∀ H,HS H0 none' L H->HS H0 none' [(true,b1,shB t alg 0 1 2 l.length)] H:=fun H hs=>by
    rw[<- hL] at hs
    exact (hs.pickR (A := [_,_,_]) [2] (by decide) (A' := [_]) rfl).left
   clear hL
   refine qQ (α := List Blk × Nat) tok (fun z=>HS H0 none' L z.1/\z.2<=p)
    (fun z=>[(1, .pointer (some ⟨b1,0,none⟩)),(3,sv ob p),(5,sv ob2 p),(7, .int .i64 (z.2:Int))]) (fun z=>z.1) (fun z=>p-z.2)
    (H5,0) ⟨hs,Nat.zero_le _⟩ (Or.inl ⟨⟨rfl,rfl,rfl,rfl,trivial⟩,rfl⟩) ?_
   clear hs
   rintro ⟨H6,r⟩ ⟨hs,hr⟩
   dsimp only at hs hr ⊢
   repeat' (first|with_reducible (first|refine qU ?_|refine ve (fun K0 hK0=>?_)|refine vg ?_|refine vk ?_|refine qE ?_|refine qK ?_|refine qF ?_|refine qx ?_|refine vw (fun K0 hK0=>?_)|refine vC ?_|refine vU ?_|refine qZ ?_|refine vT ?_|refine vz ?_|refine qR ?_|refine qH ?_|refine vF ?_|refine vG rfl ?_|refine qV rfl ?_)|refine iS hs ?_|refine rS hs ?_|refine eI _ (aI rfl ?_)|refine qg ?_|refine qf ?_|refine qc ?_|refine oJ ?_|refine qm hs (fun _ _ _ _ hs=>?_)|refine vJ hs (fun _ _ _ _ hs=>?_)|refine sS hs 0 (fun _ _ hs=>?_)|refine sS hs 1 (fun _ _ hs=>?_)|refine sS hs 2 (fun _ _ hs=>?_)|(refine hK0 _ _ ?_;clear hK0)|fail)
   refine And.intro (fun hc=>?_) (fun hc=>?_)
   ·have hrp:r<p:=by simp at hc;omega
    clear hc
    obtain ⟨q,a1⟩ : ∃ q,rows[r]? = some q:=⟨_,List.getElem?_eq_getElem (by omega)⟩
    obtain ⟨q2,a2⟩ : ∃ q,rows2[r]? = some q:=⟨_,List.getElem?_eq_getElem (by omega)⟩
    have m1:=List.mem_of_getElem? a1
    have m2:=List.mem_of_getElem? a2
    have ho1:=wS rows 0 r q a1
    have ho2:=wS rows2 0 r q2 a2
    have n1:=hdm.n q m1
    have n2:=hdm2.n q2 m2
    rw[n1] at ho1
    rw[n2] at ho2
    have hk1:=hs.mem ob1m
    have hk2:=hs.mem ob2m
    refine zo tok mx [0,0,3,7,15,0,0,96,224,480,1023] [false,false,false,false,false,true,true,true,true,true,false] [0,1,2,3,4,5,6,7,8,9,10] (by kernel_rfl) ?_
    refine zf (fun K0 hK0=>?_)
    iterate 6 (
     all_goals try exact trivial
     all_goals try (first | refine vZ ho1 ?_ | refine vZ ho2 ?_ | refine vZ hr1 ?_ | refine vZ hr2 ?_ | refine qj hb1 ?_ | refine qj hb2 ?_ | refine qi hb1 ?_ | refine qi hb2 ?_ | refine qj hk1 ?_ | refine qj hk2 ?_ | refine qi hk1 ?_ | refine qi hk2 ?_ | refine qj g1 ?_ | refine qj g2 ?_ | refine qi g1 ?_ | refine qi g2 ?_ | refine yl hkl ?_ | refine⟨_,mkey104.1, ?_⟩)
     all_goals try (first | refine And.intro ?_ trivial | refine And.intro ?_ (And.intro ?_ trivial) | refine And.intro ?_ (And.intro ?_ (And.intro ?_ trivial)))
     all_goals try (
      repeat' (first|with_reducible (first|refine qU ?_|refine ve (fun K0 hK0=>?_)|refine vg ?_|refine vk ?_|refine qE ?_|refine qK ?_|refine qF ?_|refine qx ?_|refine vw (fun K0 hK0=>?_)|refine vC ?_|refine vU ?_|refine qZ ?_|refine vT ?_|refine vz ?_|refine qR ?_|refine qH ?_|refine vF ?_|refine vG rfl ?_|refine qV rfl ?_)|refine iS hs ?_|refine rS hs ?_|refine eI _ (aI rfl ?_)|refine qg ?_|refine qf ?_|refine qc ?_|refine oJ ?_|refine qm hs (fun _ _ _ _ hs=>?_)|refine vJ hs (fun _ _ _ _ hs=>?_)|refine sS hs 0 (fun _ _ hs=>?_)|refine sS hs 1 (fun _ _ hs=>?_)|refine sS hs 2 (fun _ _ hs=>?_)|((refine aI (fun hc=>?_) (fun hc=>?_)) <;> (try simp only[decide_eq_true_eq,decide_eq_false_iff_not,Bool.not_eq_true',Bool.not_eq_false',Bool.not_false,Bool.not_true,bne_iff_ne,ne_eq,Decidable.not_not,Int.not_lt,Int.not_le] at hc) <;> (try (exfalso;omega)))|(refine hK0 _ _ ?_;clear hK0)|fail)
      )
     all_goals try (first | exact absurd rfl hc | exact absurd trivial hc | (simp at hc;done) | contradiction)
     )
    refine qQ (α := List Blk × Nat) tok (fun z=>HS H0 none' L z.1/\z.2<=n)
     (fun z=>[(1, .pointer (some ⟨b1,0,none⟩)),(3,sv ob p),(5,sv ob2 p),(7, .int .i64 (r:Int)),(8, .int .i64 (z.2:Int))]) (fun z=>z.1) (fun z=>n-z.2)
     (H6,0) ⟨hs,Nat.zero_le _⟩ (Or.inl ⟨⟨rfl,rfl,rfl,rfl,rfl,trivial⟩,rfl⟩) ?_
    clear hs hk1 hk2
    rintro ⟨H7,i⟩ ⟨hs,hi⟩
    dsimp only at hs hi ⊢
    have hk1:=hs.mem ob1m
    have hk2:=hs.mem ob2m
    have hb1:=hs.mem (rw1 q m1)
    have hb2:=hs.mem (rw2 q2 m2)
    repeat' (first|with_reducible (first|refine qU ?_|refine ve (fun K0 hK0=>?_)|refine vg ?_|refine vk ?_|refine qE ?_|refine qK ?_|refine qF ?_|refine qx ?_|refine vw (fun K0 hK0=>?_)|refine vC ?_|refine vU ?_|refine qZ ?_|refine vT ?_|refine vz ?_|refine qR ?_|refine qH ?_|refine vF ?_|refine vG rfl ?_|refine qV rfl ?_)|refine iS hs ?_|refine rS hs ?_|refine eI _ (aI rfl ?_)|refine qg ?_|refine qf ?_|refine qc ?_|refine oJ ?_|refine qm hs (fun _ _ _ _ hs=>?_)|refine vJ hs (fun _ _ _ _ hs=>?_)|refine sS hs 0 (fun _ _ hs=>?_)|refine sS hs 1 (fun _ _ hs=>?_)|refine sS hs 2 (fun _ _ hs=>?_)|(refine hK0 _ _ ?_;clear hK0)|fail)
    iterate 3 (
     all_goals try exact trivial
     all_goals try (first | refine vZ ho1 ?_ | refine vZ ho2 ?_ | refine vZ hr1 ?_ | refine vZ hr2 ?_ | refine qj hb1 ?_ | refine qj hb2 ?_ | refine qi hb1 ?_ | refine qi hb2 ?_ | refine qj hk1 ?_ | refine qj hk2 ?_ | refine qi hk1 ?_ | refine qi hk2 ?_ | refine qj g1 ?_ | refine qj g2 ?_ | refine qi g1 ?_ | refine qi g2 ?_ | refine yl hkl ?_ | refine⟨_,mkey104.1, ?_⟩)
     all_goals try (first | refine And.intro ?_ trivial | refine And.intro ?_ (And.intro ?_ trivial) | refine And.intro ?_ (And.intro ?_ (And.intro ?_ trivial)))
     all_goals try (
      repeat' (first|with_reducible (first|refine qU ?_|refine ve (fun K0 hK0=>?_)|refine vg ?_|refine vk ?_|refine qE ?_|refine qK ?_|refine qF ?_|refine qx ?_|refine vw (fun K0 hK0=>?_)|refine vC ?_|refine vU ?_|refine qZ ?_|refine vT ?_|refine vz ?_|refine qR ?_|refine qH ?_|refine vF ?_|refine vG rfl ?_|refine qV rfl ?_)|refine iS hs ?_|refine rS hs ?_|refine eI _ (aI rfl ?_)|refine qg ?_|refine qf ?_|refine qc ?_|refine oJ ?_|refine qm hs (fun _ _ _ _ hs=>?_)|refine vJ hs (fun _ _ _ _ hs=>?_)|refine sS hs 0 (fun _ _ hs=>?_)|refine sS hs 1 (fun _ _ hs=>?_)|refine sS hs 2 (fun _ _ hs=>?_)|(refine hK0 _ _ ?_;clear hK0)|fail)
      )
     )
    refine And.intro (fun hc=>?_) (fun hc=>?_)
    ·have hin:i<n:=by simp at hc;omega
     clear hc
     obtain ⟨e,c1⟩ : ∃ e,q.2[i]? = some e:=⟨_,List.getElem?_eq_getElem (by omega)⟩
     obtain ⟨e2,c2⟩ : ∃ e,q2.2[i]? = some e:=⟨_,List.getElem?_eq_getElem (by omega)⟩
     have hee:=cont_at hct a1 a2 c1 c2
     have d1:=List.mem_of_getElem? c1
     have d2:=List.mem_of_getElem? c2
     have hr1:(rowC q.2)[i]? = some (lfV e.1 e.2):=by unfold rowC;rw[List.getElem?_map,c1];rfl
     have hr2:(rowC q2.2)[i]? = some (lfV e2.1 e.2):=by unfold rowC;rw[List.getElem?_map,c2,hee];rfl
     have hll:=hdm.l q m1 e d1
     by_cases hnl:e.2 = []
     ·have hr1:(rowC q.2)[i]? = some (.slice none 0 0):=by rw[hr1,hnl];rfl
      have hr2:(rowC q2.2)[i]? = some (.slice none 0 0):=by rw[hr2,hnl];rfl
      repeat' (first|with_reducible (first|refine qU ?_|refine ve (fun K0 hK0=>?_)|refine vg ?_|refine vk ?_|refine qE ?_|refine qK ?_|refine qF ?_|refine qx ?_|refine vw (fun K0 hK0=>?_)|refine vC ?_|refine vU ?_|refine qZ ?_|refine vT ?_|refine vz ?_|refine qR ?_|refine qH ?_|refine vF ?_|refine vG rfl ?_|refine qV rfl ?_)|refine iS hs ?_|refine rS hs ?_|refine eI _ (aI rfl ?_)|refine qg ?_|refine qf ?_|refine qc ?_|refine oJ ?_|refine qm hs (fun _ _ _ _ hs=>?_)|refine vJ hs (fun _ _ _ _ hs=>?_)|refine sS hs 0 (fun _ _ hs=>?_)|refine sS hs 1 (fun _ _ hs=>?_)|refine sS hs 2 (fun _ _ hs=>?_)|(refine hK0 _ _ ?_;clear hK0)|fail)
      refine zo tok mx [0,0,3,7,0,31,63,127,0,0,768,1792,0,7936,16128,32512,65535] [false,false,false,false,true,false,false,false,true,true,true,true,true,true,true,true,false] [0,1,2,3,4,5,6,7,8,9,10,11,12,13,14,15,16] (by kernel_rfl) ?_
      refine zf (fun K0 hK0=>?_)
      iterate 14 (
       all_goals try exact trivial
       all_goals try (first | refine vZ ho1 ?_ | refine vZ ho2 ?_ | refine vZ hr1 ?_ | refine vZ hr2 ?_ | refine qj hb1 ?_ | refine qj hb2 ?_ | refine qi hb1 ?_ | refine qi hb2 ?_ | refine qj hk1 ?_ | refine qj hk2 ?_ | refine qi hk1 ?_ | refine qi hk2 ?_ | refine qj g1 ?_ | refine qj g2 ?_ | refine qi g1 ?_ | refine qi g2 ?_ | refine yl hkl ?_ | refine⟨_,mkey104.1, ?_⟩)
       all_goals try (first | refine And.intro ?_ trivial | refine And.intro ?_ (And.intro ?_ trivial) | refine And.intro ?_ (And.intro ?_ (And.intro ?_ trivial)))
       all_goals try (
        repeat' (first|with_reducible (first|refine qU ?_|refine ve (fun K0 hK0=>?_)|refine vg ?_|refine vk ?_|refine qE ?_|refine qK ?_|refine qF ?_|refine qx ?_|refine vw (fun K0 hK0=>?_)|refine vC ?_|refine vU ?_|refine qZ ?_|refine vT ?_|refine vz ?_|refine qR ?_|refine qH ?_|refine vF ?_|refine vG rfl ?_|refine qV rfl ?_)|refine iS hs ?_|refine rS hs ?_|refine eI _ (aI rfl ?_)|refine qg ?_|refine qf ?_|refine qc ?_|refine oJ ?_|refine qm hs (fun _ _ _ _ hs=>?_)|refine vJ hs (fun _ _ _ _ hs=>?_)|refine sS hs 0 (fun _ _ hs=>?_)|refine sS hs 1 (fun _ _ hs=>?_)|refine sS hs 2 (fun _ _ hs=>?_)|((refine aI (fun hc=>?_) (fun hc=>?_)) <;> (try simp only[decide_eq_true_eq,decide_eq_false_iff_not,Bool.not_eq_true',Bool.not_eq_false',Bool.not_false,Bool.not_true,bne_iff_ne,ne_eq,Decidable.not_not,Int.not_lt,Int.not_le] at hc) <;> (try (exfalso;omega)))|(refine hK0 _ _ ?_;clear hK0)|fail)
        )
       all_goals try (first | exact absurd rfl hc | exact absurd trivial hc | (simp at hc;done) | contradiction)
       )
      refine wH tok 1 ?_
      change vcg _ _ _ _ _ _ _ _ _
      repeat' (first|with_reducible (first|refine qU ?_|refine ve (fun K0 hK0=>?_)|refine vg ?_|refine vk ?_|refine qE ?_|refine qK ?_|refine qF ?_|refine qx ?_|refine vw (fun K0 hK0=>?_)|refine vC ?_|refine vU ?_|refine qZ ?_|refine vT ?_|refine vz ?_|refine qR ?_|refine qH ?_|refine vF ?_|refine vG rfl ?_|refine qV rfl ?_)|refine iS hs ?_|refine rS hs ?_|refine eI _ (aI rfl ?_)|refine qg ?_|refine qf ?_|refine qc ?_|refine oJ ?_|refine qm hs (fun _ _ _ _ hs=>?_)|refine vJ hs (fun _ _ _ _ hs=>?_)|refine sS hs 0 (fun _ _ hs=>?_)|refine sS hs 1 (fun _ _ hs=>?_)|refine sS hs 2 (fun _ _ hs=>?_)|(refine hK0 _ _ ?_;clear hK0)|fail)
      iterate 6 (
       all_goals try exact trivial
       all_goals try (first | refine vZ ho1 ?_ | refine vZ ho2 ?_ | refine vZ hr1 ?_ | refine vZ hr2 ?_ | refine qj hb1 ?_ | refine qj hb2 ?_ | refine qi hb1 ?_ | refine qi hb2 ?_ | refine qj hk1 ?_ | refine qj hk2 ?_ | refine qi hk1 ?_ | refine qi hk2 ?_ | refine qj g1 ?_ | refine qj g2 ?_ | refine qi g1 ?_ | refine qi g2 ?_ | refine yl hkl ?_ | refine⟨_,mkey104.1, ?_⟩)
       all_goals try (first | refine And.intro ?_ trivial | refine And.intro ?_ (And.intro ?_ trivial) | refine And.intro ?_ (And.intro ?_ (And.intro ?_ trivial)))
       all_goals try (
        repeat' (first|with_reducible (first|refine qU ?_|refine ve (fun K0 hK0=>?_)|refine vg ?_|refine vk ?_|refine qE ?_|refine qK ?_|refine qF ?_|refine qx ?_|refine vw (fun K0 hK0=>?_)|refine vC ?_|refine vU ?_|refine qZ ?_|refine vT ?_|refine vz ?_|refine qR ?_|refine qH ?_|refine vF ?_|refine vG rfl ?_|refine qV rfl ?_)|refine iS hs ?_|refine rS hs ?_|refine eI _ (aI rfl ?_)|refine qg ?_|refine qf ?_|refine qc ?_|refine oJ ?_|refine qm hs (fun _ _ _ _ hs=>?_)|refine vJ hs (fun _ _ _ _ hs=>?_)|refine sS hs 0 (fun _ _ hs=>?_)|refine sS hs 1 (fun _ _ hs=>?_)|refine sS hs 2 (fun _ _ hs=>?_)|((refine aI (fun hc=>?_) (fun hc=>?_)) <;> (try simp only[decide_eq_true_eq,decide_eq_false_iff_not,Bool.not_eq_true',Bool.not_eq_false',Bool.not_false,Bool.not_true,bne_iff_ne,ne_eq,Decidable.not_not,Int.not_lt,Int.not_le] at hc) <;> (try (exfalso;omega)))|(refine hK0 _ _ ?_;clear hK0)|fail)
        )
       all_goals try (first | exact absurd rfl hc | exact absurd trivial hc | (simp at hc;done) | contradiction)
       )
      exact⟨(H7,i+1),⟨hs,hin⟩,by dsimp only;omega,Or.inl ⟨⟨rfl,rfl,rfl,rfl,rfl,trivial⟩,rfl⟩⟩
     ·have hr1:(rowC q.2)[i]? = some (sv e.1 e.2.length):=by rw[hr1,wX hnl]
      have hr2:(rowC q2.2)[i]? = some (sv e2.1 e.2.length):=by rw[hr2,wX hnl]
      have f1:=lf1 e (hlf q m1 e d1 hnl)
      have f2:=lf2 e2 (hlf2 q2 m2 e2 d2 (by rw[<- hee];exact hnl))
      rw[<- hee] at f2
      repeat' (first|with_reducible (first|refine qU ?_|refine ve (fun K0 hK0=>?_)|refine vg ?_|refine vk ?_|refine qE ?_|refine qK ?_|refine qF ?_|refine qx ?_|refine vw (fun K0 hK0=>?_)|refine vC ?_|refine vU ?_|refine qZ ?_|refine vT ?_|refine vz ?_|refine qR ?_|refine qH ?_|refine vF ?_|refine vG rfl ?_|refine qV rfl ?_)|refine iS hs ?_|refine rS hs ?_|refine eI _ (aI rfl ?_)|refine qg ?_|refine qf ?_|refine qc ?_|refine oJ ?_|refine qm hs (fun _ _ _ _ hs=>?_)|refine vJ hs (fun _ _ _ _ hs=>?_)|refine sS hs 0 (fun _ _ hs=>?_)|refine sS hs 1 (fun _ _ hs=>?_)|refine sS hs 2 (fun _ _ hs=>?_)|(refine hK0 _ _ ?_;clear hK0)|fail)
      refine zo tok mx [0,0,3,7,0,31,63,127,0,0,768,1792,0,7936,16128,32512,65535] [false,false,false,false,true,false,false,false,true,true,true,true,true,true,true,true,false] [0,1,2,3,4,5,6,7,8,9,10,11,12,13,14,15,16] (by kernel_rfl) ?_
      refine zf (fun K0 hK0=>?_)
      iterate 14 (
       all_goals try exact trivial
       all_goals try (first | refine vZ ho1 ?_ | refine vZ ho2 ?_ | refine vZ hr1 ?_ | refine vZ hr2 ?_ | refine qj hb1 ?_ | refine qj hb2 ?_ | refine qi hb1 ?_ | refine qi hb2 ?_ | refine qj hk1 ?_ | refine qj hk2 ?_ | refine qi hk1 ?_ | refine qi hk2 ?_ | refine qj g1 ?_ | refine qj g2 ?_ | refine qi g1 ?_ | refine qi g2 ?_ | refine yl hkl ?_ | refine⟨_,mkey104.1, ?_⟩)
       all_goals try (first | refine And.intro ?_ trivial | refine And.intro ?_ (And.intro ?_ trivial) | refine And.intro ?_ (And.intro ?_ (And.intro ?_ trivial)))
       all_goals try (
        repeat' (first|with_reducible (first|refine qU ?_|refine ve (fun K0 hK0=>?_)|refine vg ?_|refine vk ?_|refine qE ?_|refine qK ?_|refine qF ?_|refine qx ?_|refine vw (fun K0 hK0=>?_)|refine vC ?_|refine vU ?_|refine qZ ?_|refine vT ?_|refine vz ?_|refine qR ?_|refine qH ?_|refine vF ?_|refine vG rfl ?_|refine qV rfl ?_)|refine iS hs ?_|refine rS hs ?_|refine eI _ (aI rfl ?_)|refine qg ?_|refine qf ?_|refine qc ?_|refine oJ ?_|refine qm hs (fun _ _ _ _ hs=>?_)|refine vJ hs (fun _ _ _ _ hs=>?_)|refine sS hs 0 (fun _ _ hs=>?_)|refine sS hs 1 (fun _ _ hs=>?_)|refine sS hs 2 (fun _ _ hs=>?_)|((refine aI (fun hc=>?_) (fun hc=>?_)) <;> (try simp only[decide_eq_true_eq,decide_eq_false_iff_not,Bool.not_eq_true',Bool.not_eq_false',Bool.not_false,Bool.not_true,bne_iff_ne,ne_eq,Decidable.not_not,Int.not_lt,Int.not_le] at hc) <;> (try (exfalso;omega)))|(refine hK0 _ _ ?_;clear hK0)|fail)
        )
       all_goals try (first | exact absurd rfl hc | exact absurd trivial hc | (simp at hc;done) | contradiction)
       )
      refine qQ (α := List Blk × Nat) tok (fun z=>HS H0 none' L z.1/\z.2<=e.2.length)
       (fun z=>[(1, .pointer (some ⟨b1,0,none⟩)),(3,sv ob p),(5,sv ob2 p),(7, .int .i64 (r:Int)),(8, .int .i64 (i:Int)),(9, .int .i64 (z.2:Int))]) (fun z=>z.1) (fun z=>e.2.length-z.2)
       (H7,0) ⟨hs,Nat.zero_le _⟩ (Or.inl ⟨⟨rfl,rfl,rfl,rfl,rfl,rfl,trivial⟩,rfl⟩) ?_
      clear hs hk1 hk2 hb1 hb2
      rintro ⟨H8,j⟩ ⟨hs,hj⟩
      dsimp only at hs hj ⊢
      have hk1:=hs.mem ob1m
      have hk2:=hs.mem ob2m
      have hb1:=hs.mem (rw1 q m1)
      have hb2:=hs.mem (rw2 q2 m2)
      repeat' (first|with_reducible (first|refine qU ?_|refine ve (fun K0 hK0=>?_)|refine vg ?_|refine vk ?_|refine qE ?_|refine qK ?_|refine qF ?_|refine qx ?_|refine vw (fun K0 hK0=>?_)|refine vC ?_|refine vU ?_|refine qZ ?_|refine vT ?_|refine vz ?_|refine qR ?_|refine qH ?_|refine vF ?_|refine vG rfl ?_|refine qV rfl ?_)|refine iS hs ?_|refine rS hs ?_|refine eI _ (aI rfl ?_)|refine qg ?_|refine qf ?_|refine qc ?_|refine oJ ?_|refine qm hs (fun _ _ _ _ hs=>?_)|refine vJ hs (fun _ _ _ _ hs=>?_)|refine sS hs 0 (fun _ _ hs=>?_)|refine sS hs 1 (fun _ _ hs=>?_)|refine sS hs 2 (fun _ _ hs=>?_)|(refine hK0 _ _ ?_;clear hK0)|fail)
      iterate 6 (
       all_goals try exact trivial
       all_goals try (first | refine vZ ho1 ?_ | refine vZ ho2 ?_ | refine vZ hr1 ?_ | refine vZ hr2 ?_ | refine qj hb1 ?_ | refine qj hb2 ?_ | refine qi hb1 ?_ | refine qi hb2 ?_ | refine qj hk1 ?_ | refine qj hk2 ?_ | refine qi hk1 ?_ | refine qi hk2 ?_ | refine qj g1 ?_ | refine qj g2 ?_ | refine qi g1 ?_ | refine qi g2 ?_ | refine yl hkl ?_ | refine⟨_,mkey104.1, ?_⟩)
       all_goals try (first | refine And.intro ?_ trivial | refine And.intro ?_ (And.intro ?_ trivial) | refine And.intro ?_ (And.intro ?_ (And.intro ?_ trivial)))
       all_goals try (
        repeat' (first|with_reducible (first|refine qU ?_|refine ve (fun K0 hK0=>?_)|refine vg ?_|refine vk ?_|refine qE ?_|refine qK ?_|refine qF ?_|refine qx ?_|refine vw (fun K0 hK0=>?_)|refine vC ?_|refine vU ?_|refine qZ ?_|refine vT ?_|refine vz ?_|refine qR ?_|refine qH ?_|refine vF ?_|refine vG rfl ?_|refine qV rfl ?_)|refine iS hs ?_|refine rS hs ?_|refine eI _ (aI rfl ?_)|refine qg ?_|refine qf ?_|refine qc ?_|refine oJ ?_|refine qm hs (fun _ _ _ _ hs=>?_)|refine vJ hs (fun _ _ _ _ hs=>?_)|refine sS hs 0 (fun _ _ hs=>?_)|refine sS hs 1 (fun _ _ hs=>?_)|refine sS hs 2 (fun _ _ hs=>?_)|(refine hK0 _ _ ?_;clear hK0)|fail)
        )
       )
      refine And.intro (fun hc=>?_) (fun hc=>?_)
      ·have hkl:j<e.2.length:=by simp at hc;omega
       clear hc
       have g1:=hs.mem f1
       have g2:=hs.mem f2
       repeat' (first|with_reducible (first|refine qU ?_|refine ve (fun K0 hK0=>?_)|refine vg ?_|refine vk ?_|refine qE ?_|refine qK ?_|refine qF ?_|refine qx ?_|refine vw (fun K0 hK0=>?_)|refine vC ?_|refine vU ?_|refine qZ ?_|refine vT ?_|refine vz ?_|refine qR ?_|refine qH ?_|refine vF ?_|refine vG rfl ?_|refine qV rfl ?_)|refine iS hs ?_|refine rS hs ?_|refine eI _ (aI rfl ?_)|refine qg ?_|refine qf ?_|refine qc ?_|refine oJ ?_|refine qm hs (fun _ _ _ _ hs=>?_)|refine vJ hs (fun _ _ _ _ hs=>?_)|refine sS hs 0 (fun _ _ hs=>?_)|refine sS hs 1 (fun _ _ hs=>?_)|refine sS hs 2 (fun _ _ hs=>?_)|(refine hK0 _ _ ?_;clear hK0)|fail)
       refine zo tok mx [0,0,3,7,0,31,63,0,255,511,0,0,3072,7168,0,31744,64512,0,261120,523264,1048575] [false,false,false,false,true,false,false,true,false,false,true,true,true,true,true,true,true,true,true,true,false] [0,1,2,3,4,5,6,7,8,9,10,11,12,13,14,15,16,17,18,19,20] (by kernel_rfl) ?_
       refine zf (fun K0 hK0=>?_)
       iterate 16 (
        all_goals try exact trivial
        all_goals try (first | refine vZ ho1 ?_ | refine vZ ho2 ?_ | refine vZ hr1 ?_ | refine vZ hr2 ?_ | refine qj hb1 ?_ | refine qj hb2 ?_ | refine qi hb1 ?_ | refine qi hb2 ?_ | refine qj hk1 ?_ | refine qj hk2 ?_ | refine qi hk1 ?_ | refine qi hk2 ?_ | refine qj g1 ?_ | refine qj g2 ?_ | refine qi g1 ?_ | refine qi g2 ?_ | refine yl hkl ?_ | refine⟨_,mkey104.1, ?_⟩)
        all_goals try (first | refine And.intro ?_ trivial | refine And.intro ?_ (And.intro ?_ trivial) | refine And.intro ?_ (And.intro ?_ (And.intro ?_ trivial)))
        all_goals try (
         repeat' (first|with_reducible (first|refine qU ?_|refine ve (fun K0 hK0=>?_)|refine vg ?_|refine vk ?_|refine qE ?_|refine qK ?_|refine qF ?_|refine qx ?_|refine vw (fun K0 hK0=>?_)|refine vC ?_|refine vU ?_|refine qZ ?_|refine vT ?_|refine vz ?_|refine qR ?_|refine qH ?_|refine vF ?_|refine vG rfl ?_|refine qV rfl ?_)|refine iS hs ?_|refine rS hs ?_|refine eI _ (aI rfl ?_)|refine qg ?_|refine qf ?_|refine qc ?_|refine oJ ?_|refine qm hs (fun _ _ _ _ hs=>?_)|refine vJ hs (fun _ _ _ _ hs=>?_)|refine sS hs 0 (fun _ _ hs=>?_)|refine sS hs 1 (fun _ _ hs=>?_)|refine sS hs 2 (fun _ _ hs=>?_)|((refine aI (fun hc=>?_) (fun hc=>?_)) <;> (try simp only[decide_eq_true_eq,decide_eq_false_iff_not,Bool.not_eq_true',Bool.not_eq_false',Bool.not_false,Bool.not_true,bne_iff_ne,ne_eq,Decidable.not_not,Int.not_lt,Int.not_le] at hc) <;> (try (exfalso;omega)))|(refine hK0 _ _ ?_;clear hK0)|fail)
         )
        all_goals try (first | exact absurd rfl hc | exact absurd trivial hc | (simp at hc;done) | contradiction)
        )
       all_goals try (refine qi g2 ?_)
       all_goals try (refine yl hkl ?_)
       all_goals try (
        repeat' (first|with_reducible (first|refine qU ?_|refine ve (fun K0 hK0=>?_)|refine vg ?_|refine vk ?_|refine qE ?_|refine qK ?_|refine qF ?_|refine qx ?_|refine vw (fun K0 hK0=>?_)|refine vC ?_|refine vU ?_|refine qZ ?_|refine vT ?_|refine vz ?_|refine qR ?_|refine qH ?_|refine vF ?_|refine vG rfl ?_|refine qV rfl ?_)|refine iS hs ?_|refine rS hs ?_|refine eI _ (aI rfl ?_)|refine qg ?_|refine qf ?_|refine qc ?_|refine oJ ?_|refine qm hs (fun _ _ _ _ hs=>?_)|refine vJ hs (fun _ _ _ _ hs=>?_)|refine sS hs 0 (fun _ _ hs=>?_)|refine sS hs 1 (fun _ _ hs=>?_)|refine sS hs 2 (fun _ _ hs=>?_)|(refine hK0 _ _ ?_;clear hK0)|fail)
        )
       all_goals try (refine⟨_,mkey104.1, ?_⟩)
       all_goals try (
        repeat' (first|with_reducible (first|refine qU ?_|refine ve (fun K0 hK0=>?_)|refine vg ?_|refine vk ?_|refine qE ?_|refine qK ?_|refine qF ?_|refine qx ?_|refine vw (fun K0 hK0=>?_)|refine vC ?_|refine vU ?_|refine qZ ?_|refine vT ?_|refine vz ?_|refine qR ?_|refine qH ?_|refine vF ?_|refine vG rfl ?_|refine qV rfl ?_)|refine iS hs ?_|refine rS hs ?_|refine eI _ (aI rfl ?_)|refine qg ?_|refine qf ?_|refine qc ?_|refine oJ ?_|refine qm hs (fun _ _ _ _ hs=>?_)|refine vJ hs (fun _ _ _ _ hs=>?_)|refine sS hs 0 (fun _ _ hs=>?_)|refine sS hs 1 (fun _ _ hs=>?_)|refine sS hs 2 (fun _ _ hs=>?_)|((refine aI (fun hc=>?_) (fun hc=>?_)) <;> (try simp only[decide_eq_true_eq,decide_eq_false_iff_not,Bool.not_eq_true',Bool.not_eq_false',Bool.not_false,Bool.not_true,bne_iff_ne,ne_eq,Decidable.not_not,Int.not_lt,Int.not_le] at hc) <;> (try (exfalso;omega)))|(refine hK0 _ _ ?_;clear hK0)|fail)
        )
       all_goals try (first | exact absurd rfl hc | exact absurd trivial hc | (simp at hc;done) | contradiction)
       exact⟨(H8,j+1),⟨hs,hkl⟩,by dsimp only;omega,Or.inl ⟨⟨rfl,rfl,rfl,rfl,rfl,rfl,trivial⟩,rfl⟩⟩
      ·have hje:j=e.2.length:=by simp at hc;omega
       repeat' (first|with_reducible (first|refine qU ?_|refine ve (fun K0 hK0=>?_)|refine vg ?_|refine vk ?_|refine qE ?_|refine qK ?_|refine qF ?_|refine qx ?_|refine vw (fun K0 hK0=>?_)|refine vC ?_|refine vU ?_|refine qZ ?_|refine vT ?_|refine vz ?_|refine qR ?_|refine qH ?_|refine vF ?_|refine vG rfl ?_|refine qV rfl ?_)|refine iS hs ?_|refine rS hs ?_|refine eI _ (aI rfl ?_)|refine qg ?_|refine qf ?_|refine qc ?_|refine oJ ?_|refine qm hs (fun _ _ _ _ hs=>?_)|refine vJ hs (fun _ _ _ _ hs=>?_)|refine sS hs 0 (fun _ _ hs=>?_)|refine sS hs 1 (fun _ _ hs=>?_)|refine sS hs 2 (fun _ _ hs=>?_)|((refine aI (fun hc=>?_) (fun hc=>?_)) <;> (try simp only[decide_eq_true_eq,decide_eq_false_iff_not,Bool.not_eq_true',Bool.not_eq_false',Bool.not_false,Bool.not_true,bne_iff_ne,ne_eq,Decidable.not_not,Int.not_lt,Int.not_le] at hc) <;> (try (exfalso;omega)))|(refine hK0 _ _ ?_;clear hK0)|fail)
       exact⟨(H8,i+1),⟨hs,hin⟩,by dsimp only;omega,Or.inl ⟨⟨rfl,rfl,rfl,rfl,rfl,trivial⟩,rfl⟩⟩
    ·have hie:i=n:=by simp at hc;omega
     repeat' (first|with_reducible (first|refine qU ?_|refine ve (fun K0 hK0=>?_)|refine vg ?_|refine vk ?_|refine qE ?_|refine qK ?_|refine qF ?_|refine qx ?_|refine vw (fun K0 hK0=>?_)|refine vC ?_|refine vU ?_|refine qZ ?_|refine vT ?_|refine vz ?_|refine qR ?_|refine qH ?_|refine vF ?_|refine vG rfl ?_|refine qV rfl ?_)|refine iS hs ?_|refine rS hs ?_|refine eI _ (aI rfl ?_)|refine qg ?_|refine qf ?_|refine qc ?_|refine oJ ?_|refine qm hs (fun _ _ _ _ hs=>?_)|refine vJ hs (fun _ _ _ _ hs=>?_)|refine sS hs 0 (fun _ _ hs=>?_)|refine sS hs 1 (fun _ _ hs=>?_)|refine sS hs 2 (fun _ _ hs=>?_)|((refine aI (fun hc=>?_) (fun hc=>?_)) <;> (try simp only[decide_eq_true_eq,decide_eq_false_iff_not,Bool.not_eq_true',Bool.not_eq_false',Bool.not_false,Bool.not_true,bne_iff_ne,ne_eq,Decidable.not_not,Int.not_lt,Int.not_le] at hc) <;> (try (exfalso;omega)))|(refine hK0 _ _ ?_;clear hK0)|fail)
     exact⟨(H7,r+1),⟨hs,hrp⟩,by dsimp only;omega,Or.inl ⟨⟨rfl,rfl,rfl,rfl,trivial⟩,rfl⟩⟩
   have hre:r=p:=by simp at hc;omega
   have hs:=hst _ hs
   repeat' (first|with_reducible (first|refine qU ?_|refine ve (fun K0 hK0=>?_)|refine vg ?_|refine vk ?_|refine qE ?_|refine qK ?_|refine qF ?_|refine qx ?_|refine vw (fun K0 hK0=>?_)|refine vC ?_|refine vU ?_|refine qZ ?_|refine vT ?_|refine vz ?_|refine qR ?_|refine qH ?_|refine vF ?_|refine vG rfl ?_|refine qV rfl ?_)|refine iS hs ?_|refine rS hs ?_|refine eI _ (aI rfl ?_)|refine qg ?_|refine qf ?_|refine qc ?_|refine oJ ?_|refine qm hs (fun _ _ _ _ hs=>?_)|refine vJ hs (fun _ _ _ _ hs=>?_)|refine sS hs 0 (fun _ _ hs=>?_)|refine sS hs 1 (fun _ _ hs=>?_)|refine sS hs 2 (fun _ _ hs=>?_)|((refine aI (fun hc=>?_) (fun hc=>?_)) <;> (try simp only[decide_eq_true_eq,decide_eq_false_iff_not,Bool.not_eq_true',Bool.not_eq_false',Bool.not_false,Bool.not_true,bne_iff_ne,ne_eq,Decidable.not_not,Int.not_lt,Int.not_le] at hc) <;> (try (exfalso;omega)))|(refine hK0 _ _ ?_;clear hK0)|fail)
   rotate_left
   refine c48 (g0.up (qh hs)) (s0.up (qh hs)) (by omega) (by omega) (by omega) (fun H3 z hn hz hzz=>?_) (fun H3 ob rows M hn hlf hdm hs0 htr=>?_)
   rotate_left
   ·exact absurd ⟨hs0,by rw[htr];simp⟩ hT
   rotate_left
   have hs:=qA hs hn
   clear hn
   repeat' (first|with_reducible (first|refine qU ?_|refine ve (fun K0 hK0=>?_)|refine vg ?_|refine vk ?_|refine qE ?_|refine qK ?_|refine qF ?_|refine qx ?_|refine vw (fun K0 hK0=>?_)|refine vC ?_|refine vU ?_|refine qZ ?_|refine vT ?_|refine vz ?_|refine qR ?_|refine qH ?_|refine vF ?_|refine vG rfl ?_|refine qV rfl ?_)|refine iS hs ?_|refine rS hs ?_|refine eI _ (aI rfl ?_)|refine qg ?_|refine qf ?_|refine qc ?_|refine oJ ?_|refine qm hs (fun _ _ _ _ hs=>?_)|refine vJ hs (fun _ _ _ _ hs=>?_)|refine sS hs 0 (fun _ _ hs=>?_)|refine sS hs 1 (fun _ _ hs=>?_)|refine sS hs 2 (fun _ _ hs=>?_)|((refine aI (fun hc=>?_) (fun hc=>?_)) <;> (try simp only[decide_eq_true_eq,decide_eq_false_iff_not,Bool.not_eq_true',Bool.not_eq_false',Bool.not_false,Bool.not_true,bne_iff_ne,ne_eq,Decidable.not_not,Int.not_lt,Int.not_le] at hc) <;> (try (exfalso;omega)))|(refine hK0 _ _ ?_;clear hK0)|fail)
   refine c23 (s0.up (qh hs)) hll (fun H4 k hn=>?_)
   have sk:Sts H4 l k:=⟨_,hn.get 0 rfl⟩
   have hs:=qA hs (qh hn)
   clear hn
   repeat' (first|with_reducible (first|refine qU ?_|refine ve (fun K0 hK0=>?_)|refine vg ?_|refine vk ?_|refine qE ?_|refine qK ?_|refine qF ?_|refine qx ?_|refine vw (fun K0 hK0=>?_)|refine vC ?_|refine vU ?_|refine qZ ?_|refine vT ?_|refine vz ?_|refine qR ?_|refine qH ?_|refine vF ?_|refine vG rfl ?_|refine qV rfl ?_)|refine iS hs ?_|refine rS hs ?_|refine eI _ (aI rfl ?_)|refine qg ?_|refine qf ?_|refine qc ?_|refine oJ ?_|refine qm hs (fun _ _ _ _ hs=>?_)|refine vJ hs (fun _ _ _ _ hs=>?_)|refine sS hs 0 (fun _ _ hs=>?_)|refine sS hs 1 (fun _ _ hs=>?_)|refine sS hs 2 (fun _ _ hs=>?_)|((refine aI (fun hc=>?_) (fun hc=>?_)) <;> (try simp only[decide_eq_true_eq,decide_eq_false_iff_not,Bool.not_eq_true',Bool.not_eq_false',Bool.not_false,Bool.not_true,bne_iff_ne,ne_eq,Decidable.not_not,Int.not_lt,Int.not_le] at hc) <;> (try (exfalso;omega)))|(refine hK0 _ _ ?_;clear hK0)|fail)
   refine c49 (g0.up (qh hs)) sk hl hw hll (fun H5 z2 hn hz2 hzz2=>?_) (fun H5 ob2 rows2 M2 hn hlf2 hdm2 hs0 htr2=>?_)
   rotate_left
   ·exact absurd ⟨hs0,by rw[htr2];simp⟩ hT
   rotate_left
   have hs:=qA hs hn
   clear hn sk
   have hzz:z2=z:=by
    rcases hzz with e | ⟨e0,_,e⟩ <;> rcases hzz2 with e2 | ⟨e20,_,e2⟩ <;> omega
   clear hzz2
   subst hzz
   repeat' (first|with_reducible (first|refine qU ?_|refine ve (fun K0 hK0=>?_)|refine vg ?_|refine vk ?_|refine qE ?_|refine qK ?_|refine qF ?_|refine qx ?_|refine vw (fun K0 hK0=>?_)|refine vC ?_|refine vU ?_|refine qZ ?_|refine vT ?_|refine vz ?_|refine qR ?_|refine qH ?_|refine vF ?_|refine vG rfl ?_|refine qV rfl ?_)|refine iS hs ?_|refine rS hs ?_|refine eI _ (aI rfl ?_)|refine qg ?_|refine qf ?_|refine qc ?_|refine oJ ?_|refine qm hs (fun _ _ _ _ hs=>?_)|refine vJ hs (fun _ _ _ _ hs=>?_)|refine sS hs 0 (fun _ _ hs=>?_)|refine sS hs 1 (fun _ _ hs=>?_)|refine sS hs 2 (fun _ _ hs=>?_)|((refine aI (fun hc=>?_) (fun hc=>?_)) <;> (try simp only[decide_eq_true_eq,decide_eq_false_iff_not,Bool.not_eq_true',Bool.not_eq_false',Bool.not_false,Bool.not_true,bne_iff_ne,ne_eq,Decidable.not_not,Int.not_lt,Int.not_le] at hc) <;> (try (exfalso;omega)))|(refine hK0 _ _ ?_;clear hK0)|fail)
   all_goals try (first | exact absurd rfl hc | exact absurd trivial hc | (simp at hc;done) | contradiction)
   refine wH tok 1 ?_
   change vcg _ _ _ _ _ _ _ _ _
   repeat' (first|with_reducible (first|refine qU ?_|refine ve (fun K0 hK0=>?_)|refine vg ?_|refine vk ?_|refine qE ?_|refine qK ?_|refine qF ?_|refine qx ?_|refine vw (fun K0 hK0=>?_)|refine vC ?_|refine vU ?_|refine qZ ?_|refine vT ?_|refine vz ?_|refine qR ?_|refine qH ?_|refine vF ?_|refine vG rfl ?_|refine qV rfl ?_)|refine iS hs ?_|refine rS hs ?_|refine eI _ (aI rfl ?_)|refine qg ?_|refine qf ?_|refine qc ?_|refine oJ ?_|refine qm hs (fun _ _ _ _ hs=>?_)|refine vJ hs (fun _ _ _ _ hs=>?_)|refine sS hs 0 (fun _ _ hs=>?_)|refine sS hs 1 (fun _ _ hs=>?_)|refine sS hs 2 (fun _ _ hs=>?_)|((refine aI (fun hc=>?_) (fun hc=>?_)) <;> (try simp only[decide_eq_true_eq,decide_eq_false_iff_not,Bool.not_eq_true',Bool.not_eq_false',Bool.not_false,Bool.not_true,bne_iff_ne,ne_eq,Decidable.not_not,Int.not_lt,Int.not_le] at hc) <;> (try (exfalso;omega)))|(refine hK0 _ _ ?_;clear hK0)|fail)
   all_goals (
    refine c26 (g0.up (qh hs)) (w0.up (qh hs)) (s0.up (qh hs)) (by omega) (by omega) (by omega) (fun H5 hn=>?_)
    have hs:=qA hs hn
    clear hn
    repeat' (first|with_reducible (first|refine qU ?_|refine ve (fun K0 hK0=>?_)|refine vg ?_|refine vk ?_|refine qE ?_|refine qK ?_|refine qF ?_|refine qx ?_|refine vw (fun K0 hK0=>?_)|refine vC ?_|refine vU ?_|refine qZ ?_|refine vT ?_|refine vz ?_|refine qR ?_|refine qH ?_|refine vF ?_|refine vG rfl ?_|refine qV rfl ?_)|refine iS hs ?_|refine rS hs ?_|refine eI _ (aI rfl ?_)|refine qg ?_|refine qf ?_|refine qc ?_|refine oJ ?_|refine qm hs (fun _ _ _ _ hs=>?_)|refine vJ hs (fun _ _ _ _ hs=>?_)|refine sS hs 0 (fun _ _ hs=>?_)|refine sS hs 1 (fun _ _ hs=>?_)|refine sS hs 2 (fun _ _ hs=>?_)|((refine aI (fun hc=>?_) (fun hc=>?_)) <;> (try simp only[decide_eq_true_eq,decide_eq_false_iff_not,Bool.not_eq_true',Bool.not_eq_false',Bool.not_false,Bool.not_true,bne_iff_ne,ne_eq,Decidable.not_not,Int.not_lt,Int.not_le] at hc) <;> (try (exfalso;omega)))|(refine hK0 _ _ ?_;clear hK0)|fail)
    refine c23 (s0.up (qh hs)) hll (fun H5 k hn=>?_)
    have sk:Sts H5 l k:=⟨_,hn.get 0 rfl⟩
    have hs:=qA hs (qh hn)
    clear hn
    repeat' (first|with_reducible (first|refine qU ?_|refine ve (fun K0 hK0=>?_)|refine vg ?_|refine vk ?_|refine qE ?_|refine qK ?_|refine qF ?_|refine qx ?_|refine vw (fun K0 hK0=>?_)|refine vC ?_|refine vU ?_|refine qZ ?_|refine vT ?_|refine vz ?_|refine qR ?_|refine qH ?_|refine vF ?_|refine vG rfl ?_|refine qV rfl ?_)|refine iS hs ?_|refine rS hs ?_|refine eI _ (aI rfl ?_)|refine qg ?_|refine qf ?_|refine qc ?_|refine oJ ?_|refine qm hs (fun _ _ _ _ hs=>?_)|refine vJ hs (fun _ _ _ _ hs=>?_)|refine sS hs 0 (fun _ _ hs=>?_)|refine sS hs 1 (fun _ _ hs=>?_)|refine sS hs 2 (fun _ _ hs=>?_)|((refine aI (fun hc=>?_) (fun hc=>?_)) <;> (try simp only[decide_eq_true_eq,decide_eq_false_iff_not,Bool.not_eq_true',Bool.not_eq_false',Bool.not_false,Bool.not_true,bne_iff_ne,ne_eq,Decidable.not_not,Int.not_lt,Int.not_le] at hc) <;> (try (exfalso;omega)))|(refine hK0 _ _ ?_;clear hK0)|fail)
    refine c50 (g0.up (qh hs)) (w0.up (qh hs)) sk hl hw hll (fun H6 hn=>?_)
    have hs:=qA hs hn
    clear hn sk
    repeat' (first|with_reducible (first|refine qU ?_|refine ve (fun K0 hK0=>?_)|refine vg ?_|refine vk ?_|refine qE ?_|refine qK ?_|refine qF ?_|refine qx ?_|refine vw (fun K0 hK0=>?_)|refine vC ?_|refine vU ?_|refine qZ ?_|refine vT ?_|refine vz ?_|refine qR ?_|refine qH ?_|refine vF ?_|refine vG rfl ?_|refine qV rfl ?_)|refine iS hs ?_|refine rS hs ?_|refine eI _ (aI rfl ?_)|refine qg ?_|refine qf ?_|refine qc ?_|refine oJ ?_|refine qm hs (fun _ _ _ _ hs=>?_)|refine vJ hs (fun _ _ _ _ hs=>?_)|refine sS hs 0 (fun _ _ hs=>?_)|refine sS hs 1 (fun _ _ hs=>?_)|refine sS hs 2 (fun _ _ hs=>?_)|((refine aI (fun hc=>?_) (fun hc=>?_)) <;> (try simp only[decide_eq_true_eq,decide_eq_false_iff_not,Bool.not_eq_true',Bool.not_eq_false',Bool.not_false,Bool.not_true,bne_iff_ne,ne_eq,Decidable.not_not,Int.not_lt,Int.not_le] at hc) <;> (try (exfalso;omega)))|(refine hK0 _ _ ?_;clear hK0)|fail)
    refine c51 (g0.up (qh hs)) (w0.up (qh hs)) (s0.up (qh hs)) (by omega) (by omega) (by omega) (fun H7 hn=>?_)
    have hs:=qA hs hn
    clear hn
    repeat' (first|with_reducible (first|refine qU ?_|refine ve (fun K0 hK0=>?_)|refine vg ?_|refine vk ?_|refine qE ?_|refine qK ?_|refine qF ?_|refine qx ?_|refine vw (fun K0 hK0=>?_)|refine vC ?_|refine vU ?_|refine qZ ?_|refine vT ?_|refine vz ?_|refine qR ?_|refine qH ?_|refine vF ?_|refine vG rfl ?_|refine qV rfl ?_)|refine iS hs ?_|refine rS hs ?_|refine eI _ (aI rfl ?_)|refine qg ?_|refine qf ?_|refine qc ?_|refine oJ ?_|refine qm hs (fun _ _ _ _ hs=>?_)|refine vJ hs (fun _ _ _ _ hs=>?_)|refine sS hs 0 (fun _ _ hs=>?_)|refine sS hs 1 (fun _ _ hs=>?_)|refine sS hs 2 (fun _ _ hs=>?_)|((refine aI (fun hc=>?_) (fun hc=>?_)) <;> (try simp only[decide_eq_true_eq,decide_eq_false_iff_not,Bool.not_eq_true',Bool.not_eq_false',Bool.not_false,Bool.not_true,bne_iff_ne,ne_eq,Decidable.not_not,Int.not_lt,Int.not_le] at hc) <;> (try (exfalso;omega)))|(refine hK0 _ _ ?_;clear hK0)|fail)
    refine c23 (s0.up (qh hs)) hll (fun H8 k2 hn=>?_)
    have sk:Sts H8 l k2:=⟨_,hn.get 0 rfl⟩
    have hs:=qA hs (qh hn)
    clear hn
    repeat' (first|with_reducible (first|refine qU ?_|refine ve (fun K0 hK0=>?_)|refine vg ?_|refine vk ?_|refine qE ?_|refine qK ?_|refine qF ?_|refine qx ?_|refine vw (fun K0 hK0=>?_)|refine vC ?_|refine vU ?_|refine qZ ?_|refine vT ?_|refine vz ?_|refine qR ?_|refine qH ?_|refine vF ?_|refine vG rfl ?_|refine qV rfl ?_)|refine iS hs ?_|refine rS hs ?_|refine eI _ (aI rfl ?_)|refine qg ?_|refine qf ?_|refine qc ?_|refine oJ ?_|refine qm hs (fun _ _ _ _ hs=>?_)|refine vJ hs (fun _ _ _ _ hs=>?_)|refine sS hs 0 (fun _ _ hs=>?_)|refine sS hs 1 (fun _ _ hs=>?_)|refine sS hs 2 (fun _ _ hs=>?_)|((refine aI (fun hc=>?_) (fun hc=>?_)) <;> (try simp only[decide_eq_true_eq,decide_eq_false_iff_not,Bool.not_eq_true',Bool.not_eq_false',Bool.not_false,Bool.not_true,bne_iff_ne,ne_eq,Decidable.not_not,Int.not_lt,Int.not_le] at hc) <;> (try (exfalso;omega)))|(refine hK0 _ _ ?_;clear hK0)|fail)
    refine c52 (g0.up (qh hs)) (w0.up (qh hs)) sk hl hw hll (fun H9 hn=>?_)
    have hs:=qA hs hn
    clear hn sk
    rw[rgt_eq,ord_eq]
    generalize (decide (sndF t l=0)&&rgtR t l)=x1
    generalize (decide (sndF t l=0)&&orR t l)=x2
    generalize sndF t l=sn
    cases x1 <;> cases x2
    all_goals (
     repeat' (first|with_reducible (first|refine qU ?_|refine ve (fun K0 hK0=>?_)|refine vg ?_|refine vk ?_|refine qE ?_|refine qK ?_|refine qF ?_|refine qx ?_|refine vw (fun K0 hK0=>?_)|refine vC ?_|refine vU ?_|refine qZ ?_|refine vT ?_|refine vz ?_|refine qR ?_|refine qH ?_|refine vF ?_|refine vG rfl ?_|refine qV rfl ?_)|refine iS hs ?_|refine rS hs ?_|refine eI _ (aI rfl ?_)|refine qg ?_|refine qf ?_|refine qc ?_|refine oJ ?_|refine qm hs (fun _ _ _ _ hs=>?_)|refine vJ hs (fun _ _ _ _ hs=>?_)|refine sS hs 0 (fun _ _ hs=>?_)|refine sS hs 1 (fun _ _ hs=>?_)|refine sS hs 2 (fun _ _ hs=>?_)|((refine aI (fun hc=>?_) (fun hc=>?_)) <;> (try simp only[decide_eq_true_eq,decide_eq_false_iff_not,Bool.not_eq_true',Bool.not_eq_false',Bool.not_false,Bool.not_true,bne_iff_ne,ne_eq,Decidable.not_not,Int.not_lt,Int.not_le] at hc) <;> (try (exfalso;omega)))|(refine hK0 _ _ ?_;clear hK0)|fail)
     )
    all_goals try (first | exact absurd rfl hc | exact absurd trivial hc | (simp at hc;done) | contradiction)
    all_goals (
     refine works _ ?_
     repeat' (first|with_reducible (first|refine qU ?_|refine ve (fun K0 hK0=>?_)|refine vg ?_|refine vk ?_|refine qE ?_|refine qK ?_|refine qF ?_|refine qx ?_|refine vw (fun K0 hK0=>?_)|refine vC ?_|refine vU ?_|refine qZ ?_|refine vT ?_|refine vz ?_|refine qR ?_|refine qH ?_|refine vF ?_|refine vG rfl ?_|refine qV rfl ?_)|refine iS hs ?_|refine rS hs ?_|refine eI _ (aI rfl ?_)|refine qg ?_|refine qf ?_|refine qc ?_|refine oJ ?_|refine qm hs (fun _ _ _ _ hs=>?_)|refine vJ hs (fun _ _ _ _ hs=>?_)|refine sS hs 0 (fun _ _ hs=>?_)|refine sS hs 1 (fun _ _ hs=>?_)|refine sS hs 2 (fun _ _ hs=>?_)|((refine aI (fun hc=>?_) (fun hc=>?_)) <;> (try simp only[decide_eq_true_eq,decide_eq_false_iff_not,Bool.not_eq_true',Bool.not_eq_false',Bool.not_false,Bool.not_true,bne_iff_ne,ne_eq,Decidable.not_not,Int.not_lt,Int.not_le] at hc) <;> (try (exfalso;omega)))|(refine hK0 _ _ ?_;clear hK0)|fail)
     rfl)
    )
 ·rw[decide_eq_false q]
  repeat' (first|with_reducible (first|refine qU ?_|refine ve (fun K0 hK0=>?_)|refine vg ?_|refine vk ?_|refine qE ?_|refine qK ?_|refine qF ?_|refine qx ?_|refine vw (fun K0 hK0=>?_)|refine vC ?_|refine vU ?_|refine qZ ?_|refine vT ?_|refine vz ?_|refine qR ?_|refine qH ?_|refine vF ?_|refine vG rfl ?_|refine qV rfl ?_)|refine iS hs ?_|refine rS hs ?_|refine eI _ (aI rfl ?_)|refine qg ?_|refine qf ?_|refine qc ?_|refine oJ ?_|refine qm hs (fun _ _ _ _ hs=>?_)|refine vJ hs (fun _ _ _ _ hs=>?_)|refine sS hs 0 (fun _ _ hs=>?_)|refine sS hs 1 (fun _ _ hs=>?_)|refine sS hs 2 (fun _ _ hs=>?_)|((refine aI (fun hc=>?_) (fun hc=>?_)) <;> (try simp only[decide_eq_true_eq,decide_eq_false_iff_not,Bool.not_eq_true',Bool.not_eq_false',Bool.not_false,Bool.not_true,bne_iff_ne,ne_eq,Decidable.not_not,Int.not_lt,Int.not_le] at hc) <;> (try (exfalso;omega)))|(refine hK0 _ _ ?_;clear hK0)|fail)
  refine works _ ?_
  repeat' (first|with_reducible (first|refine qU ?_|refine ve (fun K0 hK0=>?_)|refine vg ?_|refine vk ?_|refine qE ?_|refine qK ?_|refine qF ?_|refine qx ?_|refine vw (fun K0 hK0=>?_)|refine vC ?_|refine vU ?_|refine qZ ?_|refine vT ?_|refine vz ?_|refine qR ?_|refine qH ?_|refine vF ?_|refine vG rfl ?_|refine qV rfl ?_)|refine iS hs ?_|refine rS hs ?_|refine eI _ (aI rfl ?_)|refine qg ?_|refine qf ?_|refine qc ?_|refine oJ ?_|refine qm hs (fun _ _ _ _ hs=>?_)|refine vJ hs (fun _ _ _ _ hs=>?_)|refine sS hs 0 (fun _ _ hs=>?_)|refine sS hs 1 (fun _ _ hs=>?_)|refine sS hs 2 (fun _ _ hs=>?_)|((refine aI (fun hc=>?_) (fun hc=>?_)) <;> (try simp only[decide_eq_true_eq,decide_eq_false_iff_not,Bool.not_eq_true',Bool.not_eq_false',Bool.not_false,Bool.not_true,bne_iff_ne,ne_eq,Decidable.not_not,Int.not_lt,Int.not_le] at hc) <;> (try (exfalso;omega)))|(refine hK0 _ _ ?_;clear hK0)|fail)
  rfl
end Go.Af.Tryz
