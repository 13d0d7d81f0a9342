/-
  The reference's Rounds and Measure.
  The reference's Measure.
-/
import Derived.Test.YtgdbclgcbbbenaaGreatMPI
import Derived.Test.YtgdbclgcbbbenaaGreatMGC2
import Derived.Test.YtgdbclgcbbbenaaGreatMPE
import Derived.Test.YtgdbclgcbbbenaaGreatMC
import Derived.Test.YtgdbclgcbbbenaaGreatMCA
set_option linter.all false
namespace Go.Af.Tryz
open Go Go.Proofs Go.Af.Pl Co Ne
open Go.Af.Coll (St)
set_option maxRecDepth 100000
set_option maxHeartbeats 4000000
attribute [local irreducible] awp qj qm qP qH qJ isCells qA qx qZ qX qI roundEnd wZ wO keyK vZ wP wW

theorem seg_snoc (l:List St) (x:St) (r:Nat):segF (l ++ [x]) r=segF l r++if x.rd=(r:Int) then [x] else []:=by
 unfold segF
 rw[List.filter_append]
 by_cases h:x.rd=(r:Int) <;> simp[h]
theorem totC_snoc (O:List (List Int)) (x:List Int):totC (O ++ [x])=totC O++ints x:=by unfold totC;simp
structure U1 where
 H:List Blk
 r:Nat
 k:Nat
structure U2 where
 H:List Blk
 i:Nat
 q:Nat
theorem c19 {H:List Blk} {m:Mc} {t:Tk} {alg:Int} {l:List St} {b c e f d:Nat} {R:Value->List Blk->Prop} (g:Mr H m b c) (gr:Gr H t.sz e) (hst:Sts H l d) (hh:m.hs.length<=9223372036854775807) (hl:t.sz.length<=10) (hw:t.ws.length<=10) (hll:l.length<=1000)
 (hbad : ∀ H' z,HS H none' [] H' -> z≠0->(z=sndF t l\/(sndF t l=0/\z=chkM m t.pr))->R (.tuple ⟨[.slice none 0 0, .int .i64 z]⟩) H')
 (h : ∀ H' k s,HS H none' [(true,k, .cells true 5 (totC ((List.range (Co.rndF t l).toNat).map (totR s m l))))] H' -> sndF t l=0->chkM m t.pr=0->McOk m s->R (.tuple ⟨[sv k (Co.rndF t l).toNat, .int .i64 0]⟩) H') :
 qj Tryz.prog 19 [mcV m b c,schV t alg e f d l.length] H R:=by
 obtain ⟨w1,hd0⟩:=hst.s
 refine qc tok Tryz.call19 Tryz.func19 rfl Tryz.ntmps19 rfl (by simp) ?_
 have hs:=HS.start H none'
 repeat' (first|refine nX ?_|refine nY (fun K0 hK0=>?_)|refine zSt hs ?_|refine nN hs (fun _ _ hs=>?_)|refine nS hs (fun _ _ hs=>?_)|refine sX hs (fun _ hs=>?_)|(refine hK0 _ _ ?_;clear hK0)|fail)
 refine c28 (gr.up (qf hs)) (hst.up (qf hs)) hl hw (by omega) (fun H2 hn=>?_)
 have hs:=qR hs hn
 clear hn
 rename_i b2 H5 _ b3 H6 _
 by_cases hS:sndF t l=0
 ·rw[hS]
  repeat' (first|refine nX ?_|refine nY (fun K0 hK0=>?_)|refine zSt hs ?_|refine nN hs (fun _ _ hs=>?_)|refine nS hs (fun _ _ hs=>?_)|refine sX hs (fun _ hs=>?_)|(refine dI (fun hc=>?_) (fun hc=>?_) <;> try (exfalso;omega))|(refine hK0 _ _ ?_;clear hK0)|fail)
  refine c40 (g.up (qf hs)) hh (fun H3 hn=>?_)
  have hs:=qR hs hn
  clear hn
  by_cases hC:chkM m t.pr=0
  ·rw[hC]
   repeat' (first|refine nX ?_|refine nY (fun K0 hK0=>?_)|refine zSt hs ?_|refine nN hs (fun _ _ hs=>?_)|refine nS hs (fun _ _ hs=>?_)|refine sX hs (fun _ hs=>?_)|(refine dI (fun hc=>?_) (fun hc=>?_) <;> try (exfalso;omega))|(refine hK0 _ _ ?_;clear hK0)|fail)
   obtain ⟨hck,hsd⟩:=snd_in hS
   obtain ⟨⟨s,mk⟩,hpr,hpl⟩:=chkM_ok hC
   obtain ⟨n,hN,hn256,hrl⟩:=rnd_nat hsd hS
   rw[hN] at h ⊢
   rw[Int.toNat_natCast] at h
   refine yC (α := U1) tok (fun z=>HS H none' [(true,z.k, .cells true 5 (totC ((List.range z.r).map (totR s m l)))),(true,b3, .cells true 1 (schC t alg e f d l.length)),(true,b2, .cells true 1 (mcC m b c))] z.H/\z.r<=n)
    (fun z=>[(2, .pointer (some ⟨b2,0,none⟩)),(3, .pointer (some ⟨b3,0,none⟩)),(6, .int .i64 n),(8,sv z.k z.r),(9, .int .i64 z.r)]) (fun z=>z.H) (fun z=>n-z.r)
    ⟨_ ++ [.cells true 5 []],0,_⟩ ⟨hs.virt _,Nat.zero_le _⟩ ⟨⟨_,rfl, .rfl⟩,⟨_,rfl, .rfl⟩,⟨_,rfl, .rfl⟩,⟨_,rfl,WkV.nil _⟩,⟨_,rfl, .rfl⟩,trivial⟩ (WkH.rfl.app _) ?_
   clear hs
   rintro ⟨H7,r,k⟩ ⟨hs,hr⟩
   dsimp only at hs hr ⊢
   repeat' (first|refine nX ?_|refine nY (fun K0 hK0=>?_)|refine zSt hs ?_|refine nN hs (fun _ _ hs=>?_)|refine nS hs (fun _ _ hs=>?_)|refine sX hs (fun _ hs=>?_)|(refine hK0 _ _ ?_;clear hK0)|fail)
   refine aI (fun hc=>?_) (fun hc=>?_)
   ·have hlt:r<n:=by simp at hc;omega
    clear hc
    have hT5 : ∀ x∈(List.range r).map (totR s m l),x.length=5:=fun x hx=>by
     obtain ⟨i,_,rfl⟩:=List.mem_map.1 hx;rfl
    have hTl:=totC_len hT5
    rw[List.length_map,List.length_range] at hTl
    have hTs:totC ((List.range (r+1)).map (totR s m l))=totC ((List.range r).map (totR s m l))++ints (totR s m l r):=by rw[List.range_succ,List.map_append,List.map_singleton,totC_snoc]
    generalize totC ((List.range r).map (totR s m l))=O at hs hTl hTs
    repeat' (first|refine nX ?_|refine nY (fun K0 hK0=>?_)|refine zSt hs ?_|refine nN hs (fun _ _ hs=>?_)|refine nS hs (fun _ _ hs=>?_)|refine sX hs (fun _ hs=>?_)|(refine hK0 _ _ ?_;clear hK0)|fail)
    refine yC (α := U2) tok (fun z=>HS H none' [(true,z.q, .cells true 6 (stsC (segF (l.take z.i) r))),(true,k, .cells true 5 O),(true,b3, .cells true 1 (schC t alg e f d l.length)),(true,b2, .cells true 1 (mcC m b c))] z.H/\z.i<=l.length)
     (fun z=>[(2, .pointer (some ⟨b2,0,none⟩)),(3, .pointer (some ⟨b3,0,none⟩)),(6, .int .i64 n),(8,sv k r),(9, .int .i64 r),(10,sv z.q (segF (l.take z.i) r).length),(11, .int .i64 z.i)]) (fun z=>z.H) (fun z=>l.length-z.i)
     ⟨_ ++ [.cells true 6 []],0,_⟩ ⟨hs.virt _,Nat.zero_le _⟩ ⟨⟨_,rfl, .rfl⟩,⟨_,rfl, .rfl⟩,⟨_,rfl, .rfl⟩,⟨_,rfl, .rfl⟩,⟨_,rfl, .rfl⟩,⟨_,rfl,WkV.nil _⟩,⟨_,rfl, .rfl⟩,trivial⟩ (WkH.rfl.app _) ?_
    clear hs
    rintro ⟨H8,i,q⟩ ⟨hs,hi⟩
    dsimp only at hs hi ⊢
    have hd:=vK (qf hs) hd0
    repeat' (first|refine nX ?_|refine nY (fun K0 hK0=>?_)|refine zSt hs ?_|refine nN hs (fun _ _ hs=>?_)|refine nS hs (fun _ _ hs=>?_)|refine sX hs (fun _ hs=>?_)|(refine hK0 _ _ ?_;clear hK0)|fail)
    refine aI (fun hc=>?_) (fun hc=>?_)
    ·have hli:i<l.length:=by simp at hc;omega
     clear hc
     have htk:l.take (i+1)=l.take i ++ [l[i]!]:=by rw[List.take_succ_eq_append_getElem hli,getElem!_pos l i hli]
     have hsn:=seg_snoc (l.take i) l[i]! r
     rw[<- htk] at hsn
     have hln:(segF (l.take i) r).length<=1000:=Nat.le_trans (List.length_filter_le _ _) (by rw[List.length_take];omega)
     have hsl:=stsC_len (segF (l.take i) r)
     repeat' (first|refine nX ?_|refine nY (fun K0 hK0=>?_)|refine zSt hs ?_|refine nN hs (fun _ _ hs=>?_)|refine nS hs (fun _ _ hs=>?_)|refine sX hs (fun _ hs=>?_)|(refine hK0 _ _ ?_;clear hK0)|fail)
     refine qi hd ⟨i,rfl,hli, ?_⟩
     repeat' (first|refine nX ?_|refine nY (fun K0 hK0=>?_)|refine zSt hs ?_|refine nN hs (fun _ _ hs=>?_)|refine nS hs (fun _ _ hs=>?_)|refine sX hs (fun _ hs=>?_)|(refine hK0 _ _ ?_;clear hK0)|fail)
     refine qi hd ?_
     repeat' (first|refine nX ?_|refine nY (fun K0 hK0=>?_)|refine zSt hs ?_|refine nN hs (fun _ _ hs=>?_)|refine nS hs (fun _ _ hs=>?_)|refine sX hs (fun _ hs=>?_)|(refine hK0 _ _ ?_;clear hK0)|fail)
     refine ql hd ?_
     refine Ld_st (k:=0) hli (by decide) rfl ?_
     repeat' (first|refine nX ?_|refine nY (fun K0 hK0=>?_)|refine zSt hs ?_|refine nN hs (fun _ _ hs=>?_)|refine nS hs (fun _ _ hs=>?_)|refine sX hs (fun _ hs=>?_)|(refine hK0 _ _ ?_;clear hK0)|fail)
     refine aI (fun hc=>?_) (fun hc=>?_)
     ·have hrd:l[i]!.rd=(r:Int):=by simpa using hc
      rw[if_pos hrd] at hsn
      clear hc
      repeat' (first|refine nX ?_|refine nY (fun K0 hK0=>?_)|refine zSt hs ?_|refine nN hs (fun _ _ hs=>?_)|refine nS hs (fun _ _ hs=>?_)|refine sX hs (fun _ hs=>?_)|(refine hK0 _ _ ?_;clear hK0)|fail)
      refine qi hd ⟨i,rfl,hli, ?_⟩
      repeat' (first|refine nX ?_|refine nY (fun K0 hK0=>?_)|refine zSt hs ?_|refine nN hs (fun _ _ hs=>?_)|refine nS hs (fun _ _ hs=>?_)|refine sX hs (fun _ hs=>?_)|(refine hK0 _ _ ?_;clear hK0)|fail)
      refine ql hd ?_
      refine seg_st hli ?_
      generalize l[i]! = x at hsn hrd ⊢
      repeat' (first|refine nX ?_|refine nY (fun K0 hK0=>?_)|refine zSt hs ?_|refine nN hs (fun _ _ hs=>?_)|refine nS hs (fun _ _ hs=>?_)|refine sX hs (fun _ hs=>?_)|(refine hK0 _ _ ?_;clear hK0)|fail)
      refine app_hs hs 1 rfl (by decide) (hs.get 0 rfl) rfl rfl (by rw[hsl];dsimp only;omega) (by dsimp only;omega) (fun H9 q _ _ hs=>?_)
      have hs:=hs.tail
      repeat' (first|refine nX ?_|refine nY (fun K0 hK0=>?_)|refine zSt hs ?_|refine nN hs (fun _ _ hs=>?_)|refine nS hs (fun _ _ hs=>?_)|refine sX hs (fun _ hs=>?_)|(refine hK0 _ _ ?_;clear hK0)|fail)
      refine⟨⟨_,i+1,q⟩,⟨?_,hli⟩,by dsimp only;omega,Or.inl ⟨⟨rfl,rfl,rfl,rfl,rfl,congrArg (fun z=>some (sv q z)) (by rw[hsn];simp),rfl,trivial⟩,rfl⟩⟩
      dsimp only
      rw[hsn,yE]
      exact hs
     ·have hrd : ¬ l[i]!.rd=(r:Int):=by simpa using hc
      rw[if_neg hrd,List.append_nil] at hsn
      rw[<- hsn] at hs ⊢
      clear hc
      repeat' (first|refine nX ?_|refine nY (fun K0 hK0=>?_)|refine zSt hs ?_|refine nN hs (fun _ _ hs=>?_)|refine nS hs (fun _ _ hs=>?_)|refine sX hs (fun _ hs=>?_)|(refine hK0 _ _ ?_;clear hK0)|fail)
      exact⟨⟨_,i+1,q⟩,⟨hs,hli⟩,by dsimp only;omega,Or.inl ⟨⟨rfl,rfl,rfl,rfl,rfl,rfl,rfl,trivial⟩,rfl⟩⟩
    ·have hie:i=l.length:=by simp at hc;omega
     subst hie
     rw[List.take_length] at hs ⊢
     clear hc hi hd
     repeat' (first|refine nX ?_|refine nY (fun K0 hK0=>?_)|refine zSt hs ?_|refine nN hs (fun _ _ hs=>?_)|refine nS hs (fun _ _ hs=>?_)|refine sX hs (fun _ hs=>?_)|(refine hK0 _ _ ?_;clear hK0)|fail)
     refine c55 (g.up (qf hs)) mk ⟨_,hs.get 0 rfl⟩ (Nat.le_trans (List.length_filter_le _ _) hll) (fun x hx=>by
      have:=hsd.r x (List.mem_filter.1 hx).1
      omega) hpr (fun H9 hn=>?_)
     have hs:=qR hs hn
     clear hn
     repeat' (first|refine nX ?_|refine nY (fun K0 hK0=>?_)|refine zSt hs ?_|refine nN hs (fun _ _ hs=>?_)|refine nS hs (fun _ _ hs=>?_)|refine sX hs (fun _ hs=>?_)|(refine hK0 _ _ ?_;clear hK0)|fail)
     refine app_hs hs 2 rfl (by decide) (hs.get 0 rfl) rfl rfl (by rw[hTl];dsimp only;omega) (by dsimp only;omega) (fun H10 k _ _ hs=>?_)
     have hs:=hs.pick [2,3,4] (by decide) rfl (L' := [(true,k, .cells true 5 (O++ints (totR s m l r))),(true,b3, .cells true 1 (schC t alg e f d l.length)),(true,b2, .cells true 1 (mcC m b c))])
     rw[<- hTs] at hs
     repeat' (first|refine nX ?_|refine nY (fun K0 hK0=>?_)|refine zSt hs ?_|refine nN hs (fun _ _ hs=>?_)|refine nS hs (fun _ _ hs=>?_)|refine sX hs (fun _ hs=>?_)|(refine hK0 _ _ ?_;clear hK0)|fail)
     exact⟨⟨_,r+1,k⟩,⟨hs,hlt⟩,by dsimp only;omega,Or.inl ⟨⟨rfl,rfl,rfl,rfl,rfl,trivial⟩,rfl⟩⟩
   ·have hre:r=n:=by simp at hc;omega
    subst hre
    clear hc
    repeat' (first|refine nX ?_|refine nY (fun K0 hK0=>?_)|refine zSt hs ?_|refine nN hs (fun _ _ hs=>?_)|refine nS hs (fun _ _ hs=>?_)|refine sX hs (fun _ hs=>?_)|(refine dI (fun hc=>?_) (fun hc=>?_) <;> try (exfalso;omega))|(refine hK0 _ _ ?_;clear hK0)|fail)
    exact h _ k s (hs.pick [0] (by decide) rfl) hS hC mk
  ·skip
   repeat' (first|refine nX ?_|refine nY (fun K0 hK0=>?_)|refine zSt hs ?_|refine nN hs (fun _ _ hs=>?_)|refine nS hs (fun _ _ hs=>?_)|refine sX hs (fun _ hs=>?_)|(refine dI (fun hc=>?_) (fun hc=>?_) <;> try (exfalso;omega))|(refine hK0 _ _ ?_;clear hK0)|fail)
   all_goals first | exact hbad _ _ (qf hs) hC (.inr ⟨hS,rfl⟩) | (exfalso;omega)
 ·skip
  repeat' (first|refine nX ?_|refine nY (fun K0 hK0=>?_)|refine zSt hs ?_|refine nN hs (fun _ _ hs=>?_)|refine nS hs (fun _ _ hs=>?_)|refine sX hs (fun _ hs=>?_)|(refine dI (fun hc=>?_) (fun hc=>?_) <;> try (exfalso;omega))|(refine hK0 _ _ ?_;clear hK0)|fail)
  all_goals first | exact hbad _ _ (qf hs) hS (.inl rfl) | (exfalso;omega)
end Go.Af.Tryz
namespace Go.Af.Tryz
open Go Go.Proofs Go.Af.Pl Co Ne
open Go.Af.Coll (St)
set_option maxRecDepth 100000
set_option maxHeartbeats 4000000
attribute [local irreducible] awp qj qm qP qH qJ isCells qA qx qZ qX qI roundEnd wZ wO keyK vZ wP wW
theorem c15 {H:List Blk} {m:Mc} {t:Tk} {alg:Int} {l:List St} {b c e f d:Nat} {R:Value->List Blk->Prop} (g:Mr H m b c) (gr:Gr H t.sz e) (hst:Sts H l d) (hh:m.hs.length<=9223372036854775807) (hl:t.sz.length<=10) (hw:t.ws.length<=10) (hll:l.length<=1000)
 (hbad : ∀ H' z,HS H none' [] H' -> z≠0->(z=sndF t l\/(sndF t l=0/\z=chkM m t.pr))->R (.tuple ⟨[.agg ⟨ints [0,0,0,0,0]⟩, .int .i64 z]⟩) H')
 (h : ∀ H' s,HS H none' [] H' -> sndF t l=0->chkM m t.pr=0->McOk m s->R (.tuple ⟨[.agg ⟨ints (msrF s m t l)⟩, .int .i64 0]⟩) H') :
 qj Tryz.prog 15 [mcV m b c,schV t alg e f d l.length] H R:=by
 refine qc tok Tryz.call15 Tryz.func15 rfl Tryz.ntmps15 rfl (by simp) ?_
 have hs:=HS.start H none'
 repeat' (first|refine nX ?_|refine nY (fun K0 hK0=>?_)|refine zSt hs ?_|refine nN hs (fun _ _ hs=>?_)|refine nS hs (fun _ _ hs=>?_)|refine sX hs (fun _ hs=>?_)|(refine hK0 _ _ ?_;clear hK0)|fail)
 refine c19 (g.up (qf hs)) (gr.up (qf hs)) (hst.up (qf hs)) hh hl hw hll (fun H4 z hn hz hv=>?_) (fun H4 k s hn hS hC mk=>?_)
 ·have hs:=qR hs hn
  clear hn
  repeat' (first|refine nX ?_|refine nY (fun K0 hK0=>?_)|refine zSt hs ?_|refine nN hs (fun _ _ hs=>?_)|refine nS hs (fun _ _ hs=>?_)|refine sX hs (fun _ hs=>?_)|(refine dI (fun hc=>?_) (fun hc=>?_) <;> try (exfalso;omega))|(refine hK0 _ _ ?_;clear hK0)|fail)
  all_goals try (exfalso;omega)
  change resK T _ _ _ _
  refine zl (by rfl) (by rfl) (hs.get 0 rfl) (by rfl) ?_
  refine⟨_,rfl,_,rfl,_,rfl,_,rfl,_,rfl, ?_⟩
  exact hbad _ _ (qf hs) hz hv
 ·rename_i b2 _ _ b3 _ _ b4 _
  have hs:=hs.call hn rfl
  clear hn
  obtain ⟨hck,hsd⟩:=snd_in hS
  obtain ⟨_,hpr,hpl⟩:=chkM_ok hC
  obtain ⟨n,hN,hn256,hrl⟩:=rnd_nat hsd hS
  have h:=fun H' hn=>h H' s hn hS hC mk
  unfold msrF at h
  rw[hN] at hs h ⊢
  rw[Int.toNat_natCast] at hs h ⊢
  rw[<- hpl] at hsd
  have hrow : ∀ x∈(List.range n).map (totR s m l),RowOk m x:=fun x hx=>by
   obtain ⟨r,_,rfl⟩:=List.mem_map.1 hx
   exact totR_ok mk hsd hll r
  have hOl:((List.range n).map (totR s m l)).length=n:=by simp
  revert hs h hrow hOl
  generalize (List.range n).map (totR s m l)=O
  intro hs h hrow hOl
  have h5 : ∀ x∈O,x.length=5:=fun x hx=>(hrow x hx).len
  repeat' (first|refine nX ?_|refine nY (fun K0 hK0=>?_)|refine zSt hs ?_|refine nN hs (fun _ _ hs=>?_)|refine nS hs (fun _ _ hs=>?_)|refine sX hs (fun _ hs=>?_)|(refine dI (fun hc=>?_) (fun hc=>?_) <;> try (exfalso;omega))|(refine hK0 _ _ ?_;clear hK0)|fail)
  rename_i b8 _
  refine qF (α := Q3) tok (fun z=>HS H none' [(true,b8, .cells true 1 (ints [suF 0 (O.take z.k),suF 1 (O.take z.k),suF 2 (O.take z.k),suF 3 (O.take z.k),0])),(true,k, .cells true 5 (totC O)),(true,b4, .cells true 1 (ints [0,0,0,0,0])),(true,b3, .cells true 1 (schC t alg e f d l.length)),(true,b2, .cells true 1 (mcC m b c))] z.H/\z.k<=n)
   (fun z=>[(2, .pointer (some ⟨b2,0,none⟩)),(3, .pointer (some ⟨b3,0,none⟩)),(4, .pointer (some ⟨b4,0,none⟩)),(6,sv k n),(8, .pointer (some ⟨b8,0,none⟩)),(9, .int .i64 (z.k:Int))]) (fun z=>z.H) (fun z=>n-z.k)
   ⟨_,0⟩ ⟨hs,Nat.zero_le _⟩ (Or.inl ⟨⟨rfl,rfl,rfl,rfl,rfl,rfl,trivial⟩,rfl⟩) ?_
  clear hs
  rintro ⟨H6,i⟩ ⟨hs,hi⟩
  dsimp only at hs hi ⊢
  repeat' (first|refine nX ?_|refine nY (fun K0 hK0=>?_)|refine zSt hs ?_|refine nN hs (fun _ _ hs=>?_)|refine nS hs (fun _ _ hs=>?_)|refine sX hs (fun _ hs=>?_)|(refine hK0 _ _ ?_;clear hK0)|fail)
  refine aI (fun hc=>?_) (fun hc=>?_)
  ·have hlt:i<n:=by simp at hc;omega
   clear hc
   have hx:=hrow O[i]! (by rw[getElem!_pos O i (by omega)];exact List.getElem_mem _)
   obtain ⟨x0,x1,x2,x3,hx,y0,y1,y2,y3,_,_⟩:=hx
   have u0:=xm hrow 0 (by decide) i (by omega)
   have u1:=xm hrow 1 (by decide) i (by omega)
   have u2:=xm hrow 2 (by decide) i (by omega)
   have u3:=xm hrow 3 (by decide) i (by omega)
   have v0:=xE 0 O i (by omega)
   have v1:=xE 1 O i (by omega)
   have v2:=xE 2 O i (by omega)
   have v3:=xE 3 O i (by omega)
   replace hx:O[i]! = [x0,x1,x2,x3,tmF [x0,x1,x2,x3] (prL m)]:=hx
   rw[hx] at v0 v1 v2 v3
   generalize suF 0 (O.take i)=w0 at hs u0 v0
   generalize suF 1 (O.take i)=w1 at hs u1 v1
   generalize suF 2 (O.take i)=w2 at hs u2 v2
   generalize suF 3 (O.take i)=w3 at hs u3 v3
   repeat' (first|refine nX ?_|refine nY (fun K0 hK0=>?_)|refine zSt hs ?_|refine nN hs (fun _ _ hs=>?_)|refine nS hs (fun _ _ hs=>?_)|refine sX hs (fun _ hs=>?_)|(refine hK0 _ _ ?_;clear hK0)|fail)
   refine vk tok mx [0,1,0,0,12,28,60,127,255,511] [false,false,true,true,true,true,true,false,false,false] (.first 0 (.first 1 (.first 2 (.first 3 (.first 4 (.first 5 (.first 6 (.first 7 (.first 8 (.first 9 .done)))))))))) (by kernel_rfl) ?_
   refine vz (fun K0 hK0=>?_)
   repeat' (first|(refine Ld_tot (k:=0) h5 (by omega) (by decide) (by rw[hx];rfl) ?_)|refine qi (hs.get 1 rfl) ⟨i,rfl,hlt, ?_⟩|refine iS hs ?_|refine rS hs ?_|refine eI _ (aI rfl ?_)|refine qp ?_|refine qo ?_|refine qh ?_|refine oJ ?_|refine vG hs 0 rfl (ints [w0+x0,w1,w2,w3,0]) rfl rfl (by show 0+0+1<=5;decide) rfl (fun _ _ hs=>?_)|(refine hK0 _ _ ?_;clear hK0)|exact trivial|refine And.intro ?_ ?_|fail)
   change vcg _ _ _ _ _ _ _ _ _
   repeat' (first|refine nX ?_|refine nY (fun K0 hK0=>?_)|refine zSt hs ?_|refine nN hs (fun _ _ hs=>?_)|refine nS hs (fun _ _ hs=>?_)|refine sX hs (fun _ hs=>?_)|(refine hK0 _ _ ?_;clear hK0)|fail)
   refine vk tok mx [0,1,0,0,12,28,60,127,255,511] [false,false,true,true,true,true,true,false,false,false] (.first 0 (.first 1 (.first 2 (.first 3 (.first 4 (.first 5 (.first 6 (.first 7 (.first 8 (.first 9 .done)))))))))) (by kernel_rfl) ?_
   refine vz (fun K0 hK0=>?_)
   repeat' (first|(refine Ld_tot (k:=1) h5 (by omega) (by decide) (by rw[hx];rfl) ?_)|refine qi (hs.get 1 rfl) ⟨i,rfl,hlt, ?_⟩|refine iS hs ?_|refine rS hs ?_|refine eI _ (aI rfl ?_)|refine qp ?_|refine qo ?_|refine qh ?_|refine oJ ?_|refine vG hs 0 rfl (ints [w0+x0,w1+x1,w2,w3,0]) rfl rfl (by show 0+1+1<=5;decide) rfl (fun _ _ hs=>?_)|(refine hK0 _ _ ?_;clear hK0)|exact trivial|refine And.intro ?_ ?_|fail)
   change vcg _ _ _ _ _ _ _ _ _
   repeat' (first|refine nX ?_|refine nY (fun K0 hK0=>?_)|refine zSt hs ?_|refine nN hs (fun _ _ hs=>?_)|refine nS hs (fun _ _ hs=>?_)|refine sX hs (fun _ hs=>?_)|(refine hK0 _ _ ?_;clear hK0)|fail)
   refine vk tok mx [0,1,0,0,12,28,60,127,255,511] [false,false,true,true,true,true,true,false,false,false] (.first 0 (.first 1 (.first 2 (.first 3 (.first 4 (.first 5 (.first 6 (.first 7 (.first 8 (.first 9 .done)))))))))) (by kernel_rfl) ?_
   refine vz (fun K0 hK0=>?_)
   repeat' (first|(refine Ld_tot (k:=2) h5 (by omega) (by decide) (by rw[hx];rfl) ?_)|refine qi (hs.get 1 rfl) ⟨i,rfl,hlt, ?_⟩|refine iS hs ?_|refine rS hs ?_|refine eI _ (aI rfl ?_)|refine qp ?_|refine qo ?_|refine qh ?_|refine oJ ?_|refine vG hs 0 rfl (ints [w0+x0,w1+x1,w2+x2,w3,0]) rfl rfl (by show 0+2+1<=5;decide) rfl (fun _ _ hs=>?_)|(refine hK0 _ _ ?_;clear hK0)|exact trivial|refine And.intro ?_ ?_|fail)
   change vcg _ _ _ _ _ _ _ _ _
   repeat' (first|refine nX ?_|refine nY (fun K0 hK0=>?_)|refine zSt hs ?_|refine nN hs (fun _ _ hs=>?_)|refine nS hs (fun _ _ hs=>?_)|refine sX hs (fun _ hs=>?_)|(refine hK0 _ _ ?_;clear hK0)|fail)
   refine vk tok mx [0,1,0,0,12,28,60,127,255,511] [false,false,true,true,true,true,true,false,false,false] (.first 0 (.first 1 (.first 2 (.first 3 (.first 4 (.first 5 (.first 6 (.first 7 (.first 8 (.first 9 .done)))))))))) (by kernel_rfl) ?_
   refine vz (fun K0 hK0=>?_)
   repeat' (first|(refine Ld_tot (k:=3) h5 (by omega) (by decide) (by rw[hx];rfl) ?_)|refine qi (hs.get 1 rfl) ⟨i,rfl,hlt, ?_⟩|refine iS hs ?_|refine rS hs ?_|refine eI _ (aI rfl ?_)|refine qp ?_|refine qo ?_|refine qh ?_|refine oJ ?_|refine vG hs 0 rfl (ints [w0+x0,w1+x1,w2+x2,w3+x3,0]) rfl rfl (by show 0+3+1<=5;decide) rfl (fun _ _ hs=>?_)|(refine hK0 _ _ ?_;clear hK0)|exact trivial|refine And.intro ?_ ?_|fail)
   repeat' (first|refine nX ?_|refine nY (fun K0 hK0=>?_)|refine zSt hs ?_|refine nN hs (fun _ _ hs=>?_)|refine nS hs (fun _ _ hs=>?_)|refine sX hs (fun _ hs=>?_)|(refine hK0 _ _ ?_;clear hK0)|fail)
   refine⟨⟨_,i+1⟩,⟨?_,hlt⟩,by dsimp only;omega,Or.inl ⟨⟨rfl,rfl,rfl,rfl,rfl,rfl,trivial⟩,rfl⟩⟩
   dsimp only
   rw[v0,v1,v2,v3]
   exact hs
  ·have hin:i=n:=by simp at hc;omega
   have eO:O.take i=O:=by rw[hin,<- hOl,List.take_length]
   have u0:=xm hrow 0 (by decide) i (by omega)
   have u1:=xm hrow 1 (by decide) i (by omega)
   have u2:=xm hrow 2 (by decide) i (by omega)
   have u3:=xm hrow 3 (by decide) i (by omega)
   rw[eO] at hs u0 u1 u2 u3
   unfold sum4 at h
   generalize suF 0 O=w0 at hs u0 h
   generalize suF 1 O=w1 at hs u1 h
   generalize suF 2 O=w2 at hs u2 h
   generalize suF 3 O=w3 at hs u3 h
   repeat' (first|refine nX ?_|refine nY (fun K0 hK0=>?_)|refine zSt hs ?_|refine nN hs (fun _ _ hs=>?_)|refine nS hs (fun _ _ hs=>?_)|refine sX hs (fun _ hs=>?_)|(refine hK0 _ _ ?_;clear hK0)|fail)
   refine c52 (zA (by omega) hpr.1) (zA (by omega) hpr.2.1) (zA (by omega) hpr.2.2.1) (zA (by omega) hpr.2.2.2) (fun H7 hn=>?_)
   have hs:=qR hs hn
   clear hn
   repeat' (first|refine nX ?_|refine nY (fun K0 hK0=>?_)|refine zSt hs ?_|refine nN hs (fun _ _ hs=>?_)|refine nS hs (fun _ _ hs=>?_)|refine sX hs (fun _ hs=>?_)|(refine hK0 _ _ ?_;clear hK0)|fail)
   change resK T _ _ _ _
   refine zl (by rfl) (by rfl) (hs.get 2 rfl) (by rfl) ?_
   refine⟨_,rfl,_,rfl,_,rfl,_,rfl,_,rfl, ?_⟩
   exact h _ (qf hs)
end Go.Af.Tryz
