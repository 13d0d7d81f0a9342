/-
  What is in the slots at the end: the reference.
-/
import Derived.Test.YtmnjcogpchodhaaGreatMGI
import Derived.Test.YtmnjcogpchodhaaGreatMGC3
set_option linter.all false
namespace Go.Af.Tryz
open Go Go.Proofs
set_option maxRecDepth 100000
set_option maxHeartbeats 4000000
attribute [local irreducible] awp qC vK vS vH qJ isCells qy qp qW qN qw roundEnd

abbrev shB (t:Tk) (alg:Int) (b c d n:Nat):Blk := .cells true 1 (schC t alg b c d n)
structure T0 where
 H:List Blk
 i:Nat
 ob:Nat
 rows:List (Nat × Rw)
 M:Rw
structure T1 where
 H:List Blk
 rows:List (Nat × Rw)
structure T2 where
 H:List Blk
 j:Nat
 rows:List (Nat × Rw)
 M:Rw
theorem zJ {rows:List (Nat × Rw)} {q:Nat × Rw} (h:q∈rows):(true,q.1,rowB q.2)∈rwL rows:=List.mem_map.2 ⟨q,h,rfl⟩
theorem copy_cont {a b:List (Nat × Rw)} (h:a.map Prod.snd=b.map Prod.snd):cont a=cont b:=by
 have e : ∀ r:List (Nat × Rw),cont r=(r.map Prod.snd).map (fun es=>es.map Prod.snd):=fun r=>by unfold cont;rw[List.map_map];rfl
 rw[e,e,h]
theorem copy_mem {a b:List (Nat × Rw)} (h:a.map Prod.snd=b.map Prod.snd) {q:Nat × Rw} (hq:q∈a) : ∃ q' ∈ b,q'.2=q.2:=by
 have:q.2∈b.map Prod.snd:=by rw[<- h];exact List.mem_map.2 ⟨q,hq,rfl⟩
 obtain ⟨q',h1,h2⟩:=List.mem_map.1 this
 exact⟨q',h1,h2⟩
theorem copy_dim {a b:List (Nat × Rw)} {p n:Nat} (h:a.map Prod.snd=b.map Prod.snd) (d:Dim b p n):Dim a p n:=by
 refine⟨?_,fun q hq=>?_,fun q hq=>?_⟩
 ·have:=congrArg List.length h
  simp only[List.length_map] at this
  rw[this];exact d.p
 ·obtain ⟨q',h1,h2⟩:=copy_mem h hq
  rw[<- h2];exact d.n q' h1
 ·obtain ⟨q',h1,h2⟩:=copy_mem h hq
  rw[<- h2];exact d.l q' h1
theorem copy_in {a b:List (Nat × Rw)} {M:Rw} (h:a.map Prod.snd=b.map Prod.snd) (d:LfIn b M):LfIn a M:=fun q hq=>by
 obtain ⟨q',h1,h2⟩:=copy_mem h hq
 rw[<- h2];exact d q' h1
theorem drop_at {l:List Coll.St} {i:Nat} (h:i<l.length):l.drop i=l[i]! :: l.drop (i+1):=by
 rw[List.drop_eq_getElem_cons h,getElem!_pos l i h]
theorem hs_mid {H0 H:List Blk} {o:Nat->Prop} {A X Y Z:List (Bool × Nat × Blk)} (h:HS H0 o (A++(X++(Y++Z))) H):HS H0 o (A++(X++Z)) H:=by
 have p:(A++(X++(Y++Z))).Perm ((A++(X++Z))++Y):=by
  rw[List.append_assoc,List.append_assoc]
  exact List.Perm.append_left A (List.Perm.append_left X List.perm_append_comm)
 exact (h.perm p).left
theorem at_row {A Y:List (Bool × Nat × Blk)} {rows:List (Nat × Rw)} {i:Nat} {q:Nat × Rw} (hq:rows[i]? = some q):(A++(rwL rows++Y))[A.length+i]? = some (true,q.1,rowB q.2):=by
 have hl:=(List.getElem?_eq_some_iff.1 hq).1
 rw[List.getElem?_append_right (by omega),Nat.add_sub_cancel_left,List.getElem?_append_left (by unfold rwL;rw[List.length_map];exact hl)]
 unfold rwL
 rw[List.getElem?_map,hq]
 rfl
theorem set_row {A Y:List (Bool × Nat × Blk)} {rows:List (Nat × Rw)} {i b:Nat} {es:Rw} (hl:i<rows.length):(A++(rwL rows++Y)).set (A.length+i) (true,b,rowB es)=A++(rwL (rows.set i (b,es))++Y):=by
 rw[List.set_append,if_neg (by omega),Nat.add_sub_cancel_left,List.set_append,if_pos (by unfold rwL;rw[List.length_map];exact hl),rwL_set]
theorem hs_row {H0 H:List Blk} {o:Nat->Prop} {A Y:List (Bool × Nat × Blk)} {rows:List (Nat × Rw)} {i b:Nat} {es:Rw} (hl:i<rows.length) (hs:HS H0 o ((A++(rwL rows++Y)).set (A.length+i) (true,b,rowB es)) H):HS H0 o (A++(rwL (rows.set i (b,es))++Y)) H:=by
 rw[<- set_row hl];exact hs
theorem hs_toLf2 {H0 H:List Blk} {o:Nat->Prop} {A X Y:List (Bool × Nat × Blk)} {M:Rw} {k:Nat} {l:List Og} (h:HS H0 o (A++(true,k,ogB l)::(X++(Y++lfL M))) H):HS H0 o (A++(X++(Y++lfL ((k,l)::M)))) H:=by
 rw[<- List.append_assoc X] at h ⊢
 exact hs_toLf h
theorem rowC_atv {es:Rw} {x:Int} {i k:Nat} {l:List Og} {v:Value} (hx:x=i) (hv:v=lfV k l):(rowC es).set (0+i*1) v=rowC (es.set x.toNat (k,l)):=by
 subst hv
 exact rowC_at hx
theorem c49 {H:List Blk} {t:Tk} {alg:Int} {l:List Coll.St} {b c d:Nat} {R:Value->List Blk->Prop} (gr:Gr H t.sz b) (hst:Sts H l d) (hl:t.sz.length<=10) (hw:t.ws.length<=10) (hll:l.length<=1000000)
 (he : ∀ H' z,HS H none' [] H' -> z≠0->(z=sndF t l\/sndF t l=0/\trcF t l=none/\z=6)->R (.tuple ⟨[.slice none 0 0, .int .i64 z]⟩) H')
 (h : ∀ H' ob rows M,HS H none' ((true,ob, .cells true 1 (outC rows 0))::(rwL rows++lfL M)) H' -> LfIn rows M->Dim rows t.pr.toNat (sltF t).toNat->sndF t l=0->trcF t l=some (cont rows)->R (.tuple ⟨[sv ob rows.length, .int .i64 0]⟩) H') :
 qC Tryz.prog 49 [schV t alg b c d l.length] H R:=by
 obtain ⟨w1,hd0⟩:=hst.s
 refine ql tok Tryz.call49 Tryz.func49 rfl Tryz.ntmps49 rfl (by simp) ?_
 refine qm ((HS.start H none').add (c:=false) hd0 (fun i p hi=>by simp at hi) (fun h=>by cases h)) (fun H1 b1 e1 l1 hs=>?_)
 refine qo (fun _ hKs=>hKs _ _ ?_);clear hKs
 clear e1 l1
 repeat' (first|refine nX ?_|refine nY (fun K0 hK0=>?_)|refine bH ?_|refine bM ?_|refine iS hs ?_|refine rS hs ?_|refine eI _ (aI rfl ?_)|refine qg ?_|refine qf ?_|refine qc ?_|refine oJ ?_|refine nN hs (fun _ _ hs=>?_)|refine nS hs (fun _ _ hs=>?_)|refine sX hs (fun _ hs=>?_)|(refine hK0 _ _ ?_;clear hK0)|fail)
 refine c30 (gr.up (qh hs)) (hst.up (qh hs)) hl hw hll (fun H2 hn=>?_)
 have hs:=qA hs hn
 clear hn
 by_cases h0:sndF t l=0
 ·obtain ⟨hchk,hok⟩:=snd_ok h0
  have kt:=tk_ok hchk
  have hb:=wC kt
  have hpr:=kt.pr
  have hsl:sltF t=blkF t*t.pa:=by unfold sltF;rw[if_pos hchk]
  rw[<- hsl] at hb
  obtain ⟨n,hN⟩ : ∃ n:Nat,sltF t=n:=⟨(sltF t).toNat,by omega⟩
  obtain ⟨p,hp⟩ : ∃ p:Nat,t.pr=p:=⟨t.pr.toNat,by omega⟩
  rw[hN] at h hok hb
  rw[hp] at h hok
  rw[Int.toNat_natCast,Int.toNat_natCast] at h
  rw[h0]
  repeat' (first|refine nX ?_|refine nY (fun K0 hK0=>?_)|refine bH ?_|refine bM ?_|refine iS hs ?_|refine rS hs ?_|refine eI _ (aI rfl ?_)|refine qg ?_|refine qf ?_|refine qc ?_|refine oJ ?_|refine nN hs (fun _ _ hs=>?_)|refine nS hs (fun _ _ hs=>?_)|refine sX hs (fun _ hs=>?_)|(refine dI (fun hc=>?_) (fun hc=>?_) <;> try (exfalso;omega))|(refine hK0 _ _ ?_;clear hK0)|fail)
  refine c103 (gr.up (qh hs)) hl hw hchk (fun H3 ob rows M hn hlf hco=>?_)
  have hs:=(hs.call hn (by rw[List.all_cons,List.all_append,rwL_all,lfL_all];rfl))
  clear hn
  have hs:HS H none' ((true,ob, .cells true 1 (outC rows 0))::(true,b1,shB t alg b c d l.length)::(false,d, .cells w1 6 (stsC l))::(rwL rows++lfL M)) H3:=hs.perm ((List.perm_append_comm (l₁ := rwL rows++lfL M) (l₂ := [_,_])).cons _)
  have hdm:Dim rows p n:=dim_start hp hN hco
  rw[hdm.p]
  repeat' (first|refine nX ?_|refine nY (fun K0 hK0=>?_)|refine bH ?_|refine bM ?_|refine iS hs ?_|refine rS hs ?_|refine eI _ (aI rfl ?_)|refine qg ?_|refine qf ?_|refine qc ?_|refine oJ ?_|refine nN hs (fun _ _ hs=>?_)|refine nS hs (fun _ _ hs=>?_)|refine sX hs (fun _ hs=>?_)|(refine hK0 _ _ ?_;clear hK0)|fail)
  refine qQ (α := T0) tok (fun z=>HS H none' ((true,z.ob, .cells true 1 (outC z.rows 0))::(true,b1,shB t alg b c d l.length)::(false,d, .cells w1 6 (stsC l))::(rwL z.rows++lfL z.M)) z.H/\z.i<=l.length/\LfIn z.rows z.M/\Dim z.rows p n/\∃ r0 now0,trcF t l=goT r0 now0 (cont z.rows) (l.drop z.i)/\(z.i<l.length->r0≠some l[z.i]!.rd))
   (fun z=>[(1, .pointer (some ⟨b1,0,none⟩)),(5,sv z.ob p),(6, .int .i64 (z.i:Int))]) (fun z=>z.H) (fun z=>l.length-z.i)
   ⟨H3,0,ob,rows,M⟩ ⟨hs,Nat.zero_le _,hlf,hdm,none,stT t,by rw[hco];rfl,fun _ h=>by cases h⟩ (Or.inl ⟨⟨rfl,rfl,rfl,trivial⟩,rfl⟩) ?_
  clear hs hdm hlf hco
  rintro ⟨H4,i,ob,rows,M⟩ ⟨hs,hi,hlf,hdm,r0,now0,htr,hne⟩
  dsimp only at hs hi hlf hdm htr hne ⊢
  repeat' (first|refine nX ?_|refine nY (fun K0 hK0=>?_)|refine bH ?_|refine bM ?_|refine iS hs ?_|refine rS hs ?_|refine eI _ (aI rfl ?_)|refine qg ?_|refine qf ?_|refine qc ?_|refine oJ ?_|refine nN hs (fun _ _ hs=>?_)|refine nS hs (fun _ _ hs=>?_)|refine sX hs (fun _ hs=>?_)|(refine hK0 _ _ ?_;clear hK0)|fail)
  refine And.intro (fun hc=>?_) (fun hc=>?_)
  ·have hlt:i<l.length:=by simp at hc;omega
   clear hc
   have hne:=hne hlt
   have htr:trcF t l=goT (some l[i]!.rd) (cont rows) (cont rows) (l.drop i):=by
    rw[htr,drop_at hlt,goT_new hne]
   clear hne
   repeat' (first|refine nX ?_|refine nY (fun K0 hK0=>?_)|refine bH ?_|refine bM ?_|refine iS hs ?_|refine rS hs ?_|refine eI _ (aI rfl ?_)|refine qg ?_|refine qf ?_|refine qc ?_|refine oJ ?_|refine nN hs (fun _ _ hs=>?_)|refine nS hs (fun _ _ hs=>?_)|refine sX hs (fun _ hs=>?_)|(refine hK0 _ _ ?_;clear hK0)|fail)
   refine⟨p,p,⟨rfl,rfl⟩,⟨Nat.le_refl _,by show _*(24+1)<=_;omega⟩,List.replicate p (.slice none 0 0),nils_eq p, ?_⟩
   refine qm hs (fun H5 nb e5 l5 hs=>?_)
   clear e5 l5
   repeat' (first|refine nX ?_|refine nY (fun K0 hK0=>?_)|refine bH ?_|refine bM ?_|refine iS hs ?_|refine rS hs ?_|refine eI _ (aI rfl ?_)|refine qg ?_|refine qf ?_|refine qc ?_|refine oJ ?_|refine nN hs (fun _ _ hs=>?_)|refine nS hs (fun _ _ hs=>?_)|refine sX hs (fun _ hs=>?_)|(refine hK0 _ _ ?_;clear hK0)|fail)
   refine qQ (α := T1) tok (fun z=>HS H none' ((true,nb, .cells true 1 (outC z.rows (p-z.rows.length)))::(true,ob, .cells true 1 (outC rows 0))::(true,b1,shB t alg b c d l.length)::(false,d, .cells w1 6 (stsC l))::(rwL z.rows++(rwL rows++lfL M))) z.H/\z.rows.length<=p/\z.rows.map Prod.snd=(rows.take z.rows.length).map Prod.snd)
    (fun z=>[(1, .pointer (some ⟨b1,0,none⟩)),(5,sv ob p),(6, .int .i64 (i:Int)),(7,sv nb p),(8, .int .i64 (z.rows.length:Int))]) (fun z=>z.H) (fun z=>p-z.rows.length)
    ⟨H5,[]⟩ ⟨hs,Nat.zero_le _,rfl⟩ (Or.inl ⟨⟨rfl,rfl,rfl,rfl,rfl,trivial⟩,rfl⟩) ?_
   clear hs
   rintro ⟨H6,rows2⟩ ⟨hs,hr2,hcp⟩
   dsimp only at hs hr2 hcp ⊢
   generalize hr:rows2.length=r at *
   repeat' (first|refine nX ?_|refine nY (fun K0 hK0=>?_)|refine bH ?_|refine bM ?_|refine iS hs ?_|refine rS hs ?_|refine eI _ (aI rfl ?_)|refine qg ?_|refine qf ?_|refine qc ?_|refine oJ ?_|refine nN hs (fun _ _ hs=>?_)|refine nS hs (fun _ _ hs=>?_)|refine sX hs (fun _ hs=>?_)|(refine hK0 _ _ ?_;clear hK0)|fail)
   refine And.intro (fun hc=>?_) (fun hc=>?_)
   ·have hrp:r<p:=by simp at hc;omega
    clear hc
    obtain ⟨q,hq⟩ : ∃ q,rows[r]? = some q:=⟨_,List.getElem?_eq_getElem (by rw[hdm.p];omega)⟩
    have hqm:=List.mem_of_getElem? hq
    have hqn:=hdm.n q hqm
    repeat' (first|refine nX ?_|refine nY (fun K0 hK0=>?_)|refine bH ?_|refine bM ?_|refine iS hs ?_|refine rS hs ?_|refine eI _ (aI rfl ?_)|refine qg ?_|refine qf ?_|refine qc ?_|refine oJ ?_|refine nN hs (fun _ _ hs=>?_)|refine nS hs (fun _ _ hs=>?_)|refine sX hs (fun _ hs=>?_)|(refine hK0 _ _ ?_;clear hK0)|fail)
    refine vZ (wS rows 0 r q hq) ?_
    repeat' (first|refine nX ?_|refine nY (fun K0 hK0=>?_)|refine bH ?_|refine bM ?_|refine iS hs ?_|refine rS hs ?_|refine eI _ (aI rfl ?_)|refine qg ?_|refine qf ?_|refine qc ?_|refine oJ ?_|refine nN hs (fun _ _ hs=>?_)|refine nS hs (fun _ _ hs=>?_)|refine sX hs (fun _ hs=>?_)|(refine hK0 _ _ ?_;clear hK0)|fail)
    refine appm_hs hs 0 (us:=rowC q.2) rfl (by decide) (hs.mem (by (iterate 5 apply List.mem_cons_of_mem);exact List.mem_append_right _ (List.mem_append_left _ (zJ hqm)))) (by omega) (by rw[rowC_len];exact (Nat.mul_one _).symm) (rowC_one _) rfl (by show (0+_)*(24+1)<=_;omega) (fun H7 k7 e7 l7 hs=>?_)
    clear e7 l7
    rw[Nat.zero_add]
    repeat' (first|refine nX ?_|refine nY (fun K0 hK0=>?_)|refine bH ?_|refine bM ?_|refine iS hs ?_|refine rS hs ?_|refine eI _ (aI rfl ?_)|refine qg ?_|refine qf ?_|refine qc ?_|refine oJ ?_|refine nN hs (fun _ _ hs=>?_)|refine nS hs (fun _ _ hs=>?_)|refine sX hs (fun _ hs=>?_)|(refine hK0 _ _ ?_;clear hK0)|fail)
    refine vI hs 1 rfl (outC (rows2 ++ [(k7,q.2)]) (p-r-1)) rfl rfl (by rw[outC_len];show 0+r*1+1<=_;omega) (outC_at hr (by omega) rfl) (fun H8 e8 hs=>?_)
    clear e8
    have hs:=((hs.pickR (A := [_,_,_,_,_]) [1,2,3,4,0] (by decide) (A' := [_,_,_,_,_]) rfl)).toEnd (A := [_,_,_,_]) (R:=rwL rows2) (LL:=rwL rows++lfL M)
    repeat' (first|refine nX ?_|refine nY (fun K0 hK0=>?_)|refine bH ?_|refine bM ?_|refine iS hs ?_|refine rS hs ?_|refine eI _ (aI rfl ?_)|refine qg ?_|refine qf ?_|refine qc ?_|refine oJ ?_|refine nN hs (fun _ _ hs=>?_)|refine nS hs (fun _ _ hs=>?_)|refine sX hs (fun _ hs=>?_)|(refine hK0 _ _ ?_;clear hK0)|fail)
    refine⟨⟨H8,rows2 ++ [(k7,q.2)]⟩,⟨?_,by dsimp only;rw[List.length_append,hr];exact hrp, ?_⟩,by dsimp only;rw[List.length_append,hr,List.length_singleton];omega,Or.inl ⟨⟨rfl,rfl,rfl,rfl, ?_,trivial⟩,rfl⟩⟩
    ·dsimp only
     rw[List.length_append,hr,rwL_snoc]
     exact hs
    ·dsimp only
     rw[List.length_append,hr,List.map_append,hcp]
     show _=(rows.take (r+1)).map Prod.snd
     have hrl:=(List.getElem?_eq_some_iff.1 hq).1
     rw[List.take_succ_eq_append_getElem hrl,List.map_append,(List.getElem?_eq_some_iff.1 hq).2]
     rfl
    ·dsimp only
     rw[List.length_append,hr]
     rfl
   ·have hrp:r=p:=by simp at hc;omega
    subst hrp
    rw[List.take_of_length_le (by rw[hdm.p];exact Nat.le_refl _)] at hcp
    have hdm2:=copy_dim hcp hdm
    have hlf2:=copy_in hcp hlf
    have htr:trcF t l=goT (some l[i]!.rd) (cont rows) (cont rows2) (l.drop i):=by rw[copy_cont hcp];exact htr
    rw[Nat.sub_self] at hs
    repeat' (first|refine nX ?_|refine nY (fun K0 hK0=>?_)|refine bH ?_|refine bM ?_|refine iS hs ?_|refine rS hs ?_|refine eI _ (aI rfl ?_)|refine qg ?_|refine qf ?_|refine qc ?_|refine oJ ?_|refine nN hs (fun _ _ hs=>?_)|refine nS hs (fun _ _ hs=>?_)|refine sX hs (fun _ hs=>?_)|(refine hK0 _ _ ?_;clear hK0)|fail)
    refine Ld_st (k:=0) hlt (by decide) rfl ?_
    repeat' (first|refine nX ?_|refine nY (fun K0 hK0=>?_)|refine bH ?_|refine bM ?_|refine iS hs ?_|refine rS hs ?_|refine eI _ (aI rfl ?_)|refine qg ?_|refine qf ?_|refine qc ?_|refine oJ ?_|refine nN hs (fun _ _ hs=>?_)|refine nS hs (fun _ _ hs=>?_)|refine sX hs (fun _ hs=>?_)|(refine hK0 _ _ ?_;clear hK0)|fail)
    refine qQ (α := T2) tok (fun z=>HS H none' ((true,nb, .cells true 1 (outC z.rows 0))::(true,ob, .cells true 1 (outC rows 0))::(true,b1,shB t alg b c d l.length)::(false,d, .cells w1 6 (stsC l))::(rwL z.rows++(rwL rows++lfL z.M))) z.H/\(i<=z.j/\z.j<=l.length)/\LfIn rows z.M/\LfIn z.rows z.M/\Dim z.rows r n/\trcF t l=goT (some l[i]!.rd) (cont rows) (cont z.rows) (l.drop z.j))
     (fun z=>[(1, .pointer (some ⟨b1,0,none⟩)),(5,sv ob r),(6, .int .i64 (z.j:Int)),(7,sv nb r),(9, .int .i64 l[i]!.rd)]) (fun z=>z.H) (fun z=>l.length-z.j)
     ⟨H6,i,rows2,M⟩ ⟨hs,⟨Nat.le_refl _,hi⟩,hlf,hlf2,hdm2,htr⟩ (Or.inl ⟨⟨rfl,rfl,rfl,rfl,rfl,trivial⟩,rfl⟩) ?_
    clear hs hlf hlf2 hdm2 htr hcp hr
    rintro ⟨H7,j,rows3,M3⟩ ⟨hs,⟨hij,hj⟩,hlf,hlf3,hdm3,htr⟩
    dsimp only at hs hij hj hlf hlf3 hdm3 htr ⊢
    by_cases hjl:j<l.length
    ·by_cases hrd:l[j]!.rd=l[i]!.rd
     ·skip
      repeat' (first|refine nX ?_|refine nY (fun K0 hK0=>?_)|refine bH ?_|refine bM ?_|refine iS hs ?_|refine rS hs ?_|refine eI _ (aI rfl ?_)|refine qg ?_|refine qf ?_|refine qc ?_|refine oJ ?_|refine nN hs (fun _ _ hs=>?_)|refine nS hs (fun _ _ hs=>?_)|refine sX hs (fun _ hs=>?_)|(refine dI (fun hc=>?_) (fun hc=>?_) <;> try (exfalso;omega))|(refine hK0 _ _ ?_;clear hK0)|fail)
      refine Ld_st (k:=0) hjl (by decide) rfl ?_
      repeat' (first|refine nX ?_|refine nY (fun K0 hK0=>?_)|refine bH ?_|refine bM ?_|refine iS hs ?_|refine rS hs ?_|refine eI _ (aI rfl ?_)|refine qg ?_|refine qf ?_|refine qc ?_|refine oJ ?_|refine nN hs (fun _ _ hs=>?_)|refine nS hs (fun _ _ hs=>?_)|refine sX hs (fun _ hs=>?_)|(refine dI (fun hc=>?_) (fun hc=>?_) <;> try (exfalso;omega))|(refine hK0 _ _ ?_;clear hK0)|fail)
      have hy:=hok l[j]! (getElem!_pos l j hjl ▸ List.getElem_mem hjl)
      rw[drop_at hjl,<- hrd] at htr
      refine seg_st hjl ?_
      generalize l[j]! = y at hy hrd htr ⊢
      repeat' (first|refine nX ?_|refine nY (fun K0 hK0=>?_)|refine bH ?_|refine bM ?_|refine iS hs ?_|refine rS hs ?_|refine eI _ (aI rfl ?_)|refine qg ?_|refine qf ?_|refine qc ?_|refine oJ ?_|refine nN hs (fun _ _ hs=>?_)|refine nS hs (fun _ _ hs=>?_)|refine sX hs (fun _ hs=>?_)|(refine dI (fun hc=>?_) (fun hc=>?_) <;> try (exfalso;omega))|(refine hK0 _ _ ?_;clear hK0)|fail)
      have hs:=hs.pickR (A := [_,_,_,_,_]) [0,1,2,3,4] (by decide) (A' := [_,_,_,_,_]) rfl
      obtain ⟨yrd,yfr,yto,ysr,yds,yjn⟩:=y
      obtain ⟨y1,y2,y3,y4,y5⟩:=hy
      dsimp only at y1 y2 y3 y4 y5 hrd
      obtain ⟨fr,rfl⟩ : ∃ k:Nat,yfr=k:=⟨yfr.toNat,by omega⟩
      obtain ⟨to,rfl⟩ : ∃ k:Nat,yto=k:=⟨yto.toNat,by omega⟩
      obtain ⟨sr,rfl⟩ : ∃ k:Nat,ysr=k:=⟨ysr.toNat,by omega⟩
      obtain ⟨ds,rfl⟩ : ∃ k:Nat,yds=k:=⟨yds.toNat,by omega⟩
      obtain ⟨q1,e1,a1,a2,a3,a4,a5,a6,a7⟩:=hdm.at y1 y3
      obtain ⟨q2,e2,c1,c2,c3,c4,c5,c6,c7⟩:=hdm.at y2 y4
      obtain ⟨q3,e3,g1,g2,g3,g4,g5,g6,g7⟩:=hdm3.at y2 y4
      rw[Int.toNat_natCast] at a1 a2 c1 c2 g1 g2
      have ho1:=wS rows 0 fr q1 a1
      have ho2:=wS rows 0 to q2 c1
      rw[a5] at ho1
      rw[c5] at ho2
      have hr1:(rowC q1.2)[sr]? = some (lfV e1.1 e1.2):=by unfold rowC;rw[List.getElem?_map,a2];rfl
      have hr2:(rowC q2.2)[ds]? = some (lfV e2.1 e2.2):=by unfold rowC;rw[List.getElem?_map,c2];rfl
      have hb1:=hs.mem (c:=true) (b:=q1.1) (B:=rowB q1.2) (List.mem_append_right _ (List.mem_append_right _ (List.mem_append_left _ (zJ a3))))
      have hb2:=hs.mem (c:=true) (b:=q2.1) (B:=rowB q2.2) (List.mem_append_right _ (List.mem_append_right _ (List.mem_append_left _ (zJ c3))))
      have f1:e1.2≠[]->(true,e1.1,ogB e1.2)∈rwL rows3++(rwL rows++lfL M3):=fun h=>List.mem_append_right _ (List.mem_append_right _ (yh (hlf q1 a3 e1 a4 h)))
      have f2:e2.2≠[]->(true,e2.1,ogB e2.2)∈rwL rows3++(rwL rows++lfL M3):=fun h=>List.mem_append_right _ (List.mem_append_right _ (yh (hlf q2 c3 e2 c4 h)))
      refine qL tok mx [0,0,2,7,15,0,32,127,255,511] [false,false,false,false,false,true,true,false,false,false] (.first 0 (.first 1 (.first 2 (.first 3 (.first 4 (.first 5 (.first 6 (.first 7 (.first 8 (.first 9 .done)))))))))) (by kernel_rfl) ?_
      refine qP (fun K0 hK0=>?_)
      repeat' (first|refine nX ?_|refine nY (fun K0 hK0=>?_)|refine bH ?_|refine bM ?_|refine iS hs ?_|refine rS hs ?_|refine eI _ (aI rfl ?_)|refine qg ?_|refine qf ?_|refine qc ?_|refine oJ ?_|refine nN hs (fun _ _ hs=>?_)|refine nS hs (fun _ _ hs=>?_)|refine sX hs (fun _ hs=>?_)|(refine hK0 _ _ ?_;clear hK0)|fail)
      iterate 8 (
       all_goals try exact trivial
       all_goals try (first | refine vZ ho1 ?_ | refine vZ hr1 ?_ | refine qj hb1 ?_ | refine qi hb1 ?_ | refine vZ ho2 ?_ | refine vZ hr2 ?_ | refine qj hb2 ?_ | refine qi hb2 ?_)
       all_goals try (first | refine And.intro ?_ trivial | refine And.intro ?_ (And.intro ?_ trivial) | refine And.intro ?_ (And.intro ?_ (And.intro ?_ trivial)))
       all_goals try (
        repeat' (first|refine nX ?_|refine nY (fun K0 hK0=>?_)|refine bH ?_|refine bM ?_|refine iS hs ?_|refine rS hs ?_|refine eI _ (aI rfl ?_)|refine qg ?_|refine qf ?_|refine qc ?_|refine oJ ?_|refine nN hs (fun _ _ hs=>?_)|refine nS hs (fun _ _ hs=>?_)|refine sX hs (fun _ hs=>?_)|(refine hK0 _ _ ?_;clear hK0)|fail)
        ))
      all_goals (
       refine qL tok mx [0,0,2,7,15,0,32,127,255,0,0,1024,4095,8191] [false,false,false,false,false,true,true,false,false,true,true,true,false,false] (.first 0 (.first 1 (.first 2 (.first 3 (.first 4 (.first 5 (.first 6 (.first 7 (.first 8 (.first 9 (.first 10 (.first 11 (.first 12 (.first 13 .done)))))))))))))) (by kernel_rfl) ?_
       refine qP (fun K0 hK0=>?_)
       repeat' (first|refine nX ?_|refine nY (fun K0 hK0=>?_)|refine bH ?_|refine bM ?_|refine iS hs ?_|refine rS hs ?_|refine eI _ (aI rfl ?_)|refine qg ?_|refine qf ?_|refine qc ?_|refine oJ ?_|refine nN hs (fun _ _ hs=>?_)|refine nS hs (fun _ _ hs=>?_)|refine sX hs (fun _ hs=>?_)|(refine hK0 _ _ ?_;clear hK0)|fail)
       iterate 8 (
        all_goals try exact trivial
        all_goals try (first | refine vZ ho1 ?_ | refine vZ hr1 ?_ | refine qj hb1 ?_ | refine qi hb1 ?_ | refine vZ ho2 ?_ | refine vZ hr2 ?_ | refine qj hb2 ?_ | refine qi hb2 ?_)
        all_goals try (first | refine And.intro ?_ trivial | refine And.intro ?_ (And.intro ?_ trivial) | refine And.intro ?_ (And.intro ?_ (And.intro ?_ trivial)))
        all_goals try (
         repeat' (first|refine nX ?_|refine nY (fun K0 hK0=>?_)|refine bH ?_|refine bM ?_|refine iS hs ?_|refine rS hs ?_|refine eI _ (aI rfl ?_)|refine qg ?_|refine qf ?_|refine qc ?_|refine oJ ?_|refine nN hs (fun _ _ hs=>?_)|refine nS hs (fun _ _ hs=>?_)|refine sX hs (fun _ hs=>?_)|(refine hK0 _ _ ?_;clear hK0)|fail)
         ))
       )
      have hst:stpL (cont rows) ⟨yrd,fr,to,sr,ds,yjn⟩=joinL yjn e2.2 e1.2:=by
       unfold stpL
       dsimp only
       rw[a7,c7]
      refine c104 (ko:=e2.1) (kc:=e1.1) (Lf_of hs (fun h=>List.mem_append_right _ (f2 h))) (Lf_of hs (fun h=>List.mem_append_right _ (f1 h))) (by omega) (by omega) y5 (fun H9 k hn=>?_)
      have hs:=hs.call hn rfl
      clear hn
      by_cases hcm:e1.2 = []
      ·have hbad:trcF t l=none:=by
        rw[htr]
        exact goT_bad (.inl (by dsimp only;rw[a7];exact hcm))
       rw[hcm]
       repeat' (first|refine nX ?_|refine nY (fun K0 hK0=>?_)|refine bH ?_|refine bM ?_|refine iS hs ?_|refine rS hs ?_|refine eI _ (aI rfl ?_)|refine qg ?_|refine qf ?_|refine qc ?_|refine oJ ?_|refine nN hs (fun _ _ hs=>?_)|refine nS hs (fun _ _ hs=>?_)|refine sX hs (fun _ hs=>?_)|(refine dI (fun hc=>?_) (fun hc=>?_) <;> try (exfalso;omega))|(refine hK0 _ _ ?_;clear hK0)|fail)
       exact he _ 6 (qh hs) (by decide) (.inr ⟨h0,hbad,rfl⟩)
      ·rw[wX hcm]
       have hjne:joinL yjn e2.2 e1.2≠[]:=by
        unfold joinL
        split
        ·exact hcm
        ·split
         ·exact fun e=>hcm (List.append_eq_nil_iff.1 e).1
         ·exact fun e=>hcm (List.append_eq_nil_iff.1 e).2
       have hcl:e1.2.length≠0:=fun e=>hcm (List.length_eq_zero_iff.1 e)
       by_cases h128:128<(joinL yjn e2.2 e1.2).length
       ·have hbad:trcF t l=none:=by
         rw[htr]
         exact goT_bad (.inr (by rw[hst];exact h128))
        repeat' (first|refine nX ?_|refine nY (fun K0 hK0=>?_)|refine bH ?_|refine bM ?_|refine iS hs ?_|refine rS hs ?_|refine eI _ (aI rfl ?_)|refine qg ?_|refine qf ?_|refine qc ?_|refine oJ ?_|refine nN hs (fun _ _ hs=>?_)|refine nS hs (fun _ _ hs=>?_)|refine sX hs (fun _ hs=>?_)|(refine dI (fun hc=>?_) (fun hc=>?_) <;> try (exfalso;omega))|(refine hK0 _ _ ?_;clear hK0)|fail)
        all_goals try (exfalso;dsimp only at hc;omega)
        all_goals exact he _ 6 (qh hs) (by decide) (.inr ⟨h0,hbad,rfl⟩)
       ·rw[goT_same (by dsimp only;rw[hst,a7];exact fun e=>e.elim hcm h128),hst] at htr
        generalize joinL yjn e2.2 e1.2=J at hs hjne h128 htr ⊢
        have hs:=hs.pickR (A := [_,_,_,_,_,_]) [0,1,2,3,4,5] (by decide) (A' := [_,_,_,_,_,_]) rfl
        have ho2:=wS rows3 0 to q3 g1
        rw[g5] at ho2
        have hb2:=hs.mem (c:=true) (b:=q3.1) (B:=rowB q3.2) (List.mem_append_right _ (List.mem_append_left _ (zJ g3)))
        repeat' (first|refine nX ?_|refine nY (fun K0 hK0=>?_)|refine bH ?_|refine bM ?_|refine iS hs ?_|refine rS hs ?_|refine eI _ (aI rfl ?_)|refine qg ?_|refine qf ?_|refine qc ?_|refine oJ ?_|refine nN hs (fun _ _ hs=>?_)|refine nS hs (fun _ _ hs=>?_)|refine sX hs (fun _ hs=>?_)|(refine dI (fun hc=>?_) (fun hc=>?_) <;> try (exfalso;omega))|(refine hK0 _ _ ?_;clear hK0)|fail)
        all_goals try (exfalso;dsimp only at hc;omega)
        refine qL tok mx [0,0,2,7,15,0,32,0,255,511] [false,false,false,false,false,true,true,true,false,false] (.first 0 (.first 1 (.first 2 (.first 3 (.first 4 (.first 5 (.first 6 (.first 7 (.first 8 (.first 9 .done)))))))))) (by kernel_rfl) ?_
        refine qP (fun K0 hK0=>?_)
        repeat' (first|refine nX ?_|refine nY (fun K0 hK0=>?_)|refine bH ?_|refine bM ?_|refine iS hs ?_|refine rS hs ?_|refine eI _ (aI rfl ?_)|refine qg ?_|refine qf ?_|refine qc ?_|refine oJ ?_|refine nN hs (fun _ _ hs=>?_)|refine nS hs (fun _ _ hs=>?_)|refine sX hs (fun _ hs=>?_)|(refine hK0 _ _ ?_;clear hK0)|fail)
        iterate 8 (
         all_goals try exact trivial
         all_goals try (first | refine vZ ho1 ?_ | refine vZ hr1 ?_ | refine qj hb1 ?_ | refine qi hb1 ?_ | refine vZ ho2 ?_ | refine vZ hr2 ?_ | refine qj hb2 ?_ | refine qi hb2 ?_)
         all_goals try (first | refine And.intro ?_ trivial | refine And.intro ?_ (And.intro ?_ trivial) | refine And.intro ?_ (And.intro ?_ (And.intro ?_ trivial)))
         all_goals try (
          repeat' (first|refine nX ?_|refine nY (fun K0 hK0=>?_)|refine bH ?_|refine bM ?_|refine iS hs ?_|refine rS hs ?_|refine eI _ (aI rfl ?_)|refine qg ?_|refine qf ?_|refine qc ?_|refine oJ ?_|refine nN hs (fun _ _ hs=>?_)|refine nS hs (fun _ _ hs=>?_)|refine sX hs (fun _ hs=>?_)|(refine hK0 _ _ ?_;clear hK0)|fail)
          ))
        refine vI hs (6+to) (at_row (A := [_,_,_,_,_,_]) g1) _ rfl rfl (by rw[rowC_len,g5];show 0+ds*1+1<=_;omega) (rowC_atv (es:=q3.2) (x:=(ds:Int)) (i:=ds) (l:=J) rfl (wX hjne).symm) (fun H10 e10 hs=>?_)
        clear e10
        have hs:=hs_row (A := [_,_,_,_,_,_]) (by rw[hdm3.p];omega) hs
        have hs:=hs_toLf2 (A := [_,_,_,_]) (hs.pickR (A := [_,_,_,_,_,_]) [2,3,4,5,0] (by decide) (A' := [_,_,_,_,_]) rfl)
        rw[<- outC_same (m:=0) (q' := (q3.1,q3.2.set (ds:Int).toNat (k,J))) g1 rfl (by rw[List.length_set])] at hs
        repeat' (first|refine nX ?_|refine nY (fun K0 hK0=>?_)|refine bH ?_|refine bM ?_|refine iS hs ?_|refine rS hs ?_|refine eI _ (aI rfl ?_)|refine qg ?_|refine qf ?_|refine qc ?_|refine oJ ?_|refine nN hs (fun _ _ hs=>?_)|refine nS hs (fun _ _ hs=>?_)|refine sX hs (fun _ hs=>?_)|(refine hK0 _ _ ?_;clear hK0)|fail)
        exact⟨⟨H10,j+1,_,_⟩,⟨hs,⟨by dsimp only;omega,hjl⟩,hlf.mono (fun _ h=>List.mem_cons_of_mem _ h),LfIn_set (r:=(to:Int)) (s:=(ds:Int)) hlf3 g1 k J,Dim.set (r:=(to:Int)) (s:=(ds:Int)) hdm3 g1 k (by omega),by dsimp only;rw[htr,<- hrd,<- cont_set (r:=(to:Int)) (s:=(ds:Int)) g1 k J];rfl⟩,by dsimp only;omega,Or.inl ⟨⟨rfl,rfl,rfl,rfl,rfl,trivial⟩,rfl⟩⟩
     ·have hne:i≠j:=fun e=>hrd (by rw[e])
      repeat' (first|refine nX ?_|refine nY (fun K0 hK0=>?_)|refine bH ?_|refine bM ?_|refine iS hs ?_|refine rS hs ?_|refine eI _ (aI rfl ?_)|refine qg ?_|refine qf ?_|refine qc ?_|refine oJ ?_|refine nN hs (fun _ _ hs=>?_)|refine nS hs (fun _ _ hs=>?_)|refine sX hs (fun _ hs=>?_)|(refine dI (fun hc=>?_) (fun hc=>?_) <;> try (exfalso;omega))|(refine hK0 _ _ ?_;clear hK0)|fail)
      refine Ld_st (k:=0) hjl (by decide) rfl ?_
      repeat' (first|refine nX ?_|refine nY (fun K0 hK0=>?_)|refine bH ?_|refine bM ?_|refine iS hs ?_|refine rS hs ?_|refine eI _ (aI rfl ?_)|refine qg ?_|refine qf ?_|refine qc ?_|refine oJ ?_|refine nN hs (fun _ _ hs=>?_)|refine nS hs (fun _ _ hs=>?_)|refine sX hs (fun _ hs=>?_)|(refine dI (fun hc=>?_) (fun hc=>?_) <;> try (exfalso;omega))|(refine hK0 _ _ ?_;clear hK0)|fail)
      have hs:=hs_mid (A := [_,_,_]) (hs.pickR (A := [_,_,_,_]) [0,2,3] (by decide) (A' := [_,_,_]) rfl)
      exact⟨⟨H7,j,nb,rows3,M3⟩,⟨hs,hj,hlf3,hdm3,some l[i]!.rd,cont rows,htr,fun _ h=>hrd (Option.some.inj h).symm⟩,by dsimp only;omega,Or.inl ⟨⟨rfl,rfl,rfl,trivial⟩,rfl⟩⟩
    ·skip
     repeat' (first|refine nX ?_|refine nY (fun K0 hK0=>?_)|refine bH ?_|refine bM ?_|refine iS hs ?_|refine rS hs ?_|refine eI _ (aI rfl ?_)|refine qg ?_|refine qf ?_|refine qc ?_|refine oJ ?_|refine nN hs (fun _ _ hs=>?_)|refine nS hs (fun _ _ hs=>?_)|refine sX hs (fun _ hs=>?_)|(refine dI (fun hc=>?_) (fun hc=>?_) <;> try (exfalso;omega))|(refine hK0 _ _ ?_;clear hK0)|fail)
     have hs:=hs_mid (A := [_,_,_]) (hs.pickR (A := [_,_,_,_]) [0,2,3] (by decide) (A' := [_,_,_]) rfl)
     exact⟨⟨H7,j,nb,rows3,M3⟩,⟨hs,hj,hlf3,hdm3,some l[i]!.rd,cont rows,htr,fun h=>absurd h hjl⟩,by dsimp only;omega,Or.inl ⟨⟨rfl,rfl,rfl,trivial⟩,rfl⟩⟩
  ·have hie:i=l.length:=by simp at hc;omega
   subst hie
   rw[List.drop_length,goT] at htr
   repeat' (first|refine nX ?_|refine nY (fun K0 hK0=>?_)|refine bH ?_|refine bM ?_|refine iS hs ?_|refine rS hs ?_|refine eI _ (aI rfl ?_)|refine qg ?_|refine qf ?_|refine qc ?_|refine oJ ?_|refine nN hs (fun _ _ hs=>?_)|refine nS hs (fun _ _ hs=>?_)|refine sX hs (fun _ hs=>?_)|(refine hK0 _ _ ?_;clear hK0)|fail)
   have hs:=(hs.pickR (A := [_,_,_]) [0] (by decide) (A' := [_]) rfl)
   rw[<- hdm.p]
   exact h _ ob rows M hs hlf hdm h0 htr
 ·skip
  repeat' (first|refine nX ?_|refine nY (fun K0 hK0=>?_)|refine bH ?_|refine bM ?_|refine iS hs ?_|refine rS hs ?_|refine eI _ (aI rfl ?_)|refine qg ?_|refine qf ?_|refine qc ?_|refine oJ ?_|refine nN hs (fun _ _ hs=>?_)|refine nS hs (fun _ _ hs=>?_)|refine sX hs (fun _ hs=>?_)|(refine dI (fun hc=>?_) (fun hc=>?_) <;> try (exfalso;omega))|(refine hK0 _ _ ?_;clear hK0)|fail)
  exact he _ _ (qh hs) h0 (.inl rfl)
end Go.Af.Tryz
