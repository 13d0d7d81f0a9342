/-
  The form of a schedule: the reference's Sound and Rounds; the law as a call.
-/
import Derived.Test.YtmnjcogpchodhaaGreatMGC2
import Derived.Test.YtmnjcogpchodhaaGreatMWA
set_option linter.all false
namespace Go.Af.Tryz
open Go Go.Proofs
open Go.Af.Coll (Ck lk upd zH emp sndP sndR zG ww xw addF badP cmpF befF faultF zy busyF snd_eq Pst)
set_option maxRecDepth 100000
set_option maxHeartbeats 4000000
attribute [local irreducible] awp qC vK vS vH qJ isCells qy qp qW qN qw roundEnd rdMap xW keyK zt

theorem snd_ref (t:Tk) (l:List Coll.St):sndP t.pr (sltF t) none emp l=sndR t.pr (sltF t) [] l:=snd_eq t.pr (sltF t) l [] emp ⟨rfl,rfl⟩
theorem c30 {H:List Blk} {t:Tk} {alg:Int} {l:List Coll.St} {b c d:Nat} {R:Value->List Blk->Prop} (gr:Gr H t.sz b) (hst:Sts H l d) (hl:t.sz.length<=10) (hw:t.ws.length<=10) (hll:l.length<=1000000) (h : ∀ H',HS H none' [] H' -> R (.int .i64 (sndF t l)) H') :
 qC Tryz.prog 30 [schV t alg b c d l.length] H R:=by
 refine ql tok Tryz.call30 Tryz.func30 rfl Tryz.ntmps30 rfl (by simp) ?_
 refine qm (HS.start H none') (fun H1 b1 e1 l1 hs=>?_)
 refine qo (fun _ hKs=>hKs _ _ ?_);clear hKs
 clear e1 l1
 repeat' (first|refine nX ?_|refine nY (fun K0 hK0=>?_)|refine bH ?_|refine bM ?_|refine iS hs ?_|refine rS hs ?_|refine eI _ (aI rfl ?_)|refine qg ?_|refine qf ?_|refine qc ?_|refine oJ ?_|refine nN hs (fun _ _ hs=>?_)|refine nS hs (fun _ _ hs=>?_)|refine sX hs (fun _ hs=>?_)|(refine hK0 _ _ ?_;clear hK0)|fail)
 refine c35 (gr.up (qh hs)) hl hw (fun H2 hn=>?_)
 have hs:=qA hs hn
 clear hn
 unfold sndF at h
 rw[snd_ref] at h
 repeat' (first|refine nX ?_|refine nY (fun K0 hK0=>?_)|refine bH ?_|refine bM ?_|refine iS hs ?_|refine rS hs ?_|refine eI _ (aI rfl ?_)|refine qg ?_|refine qf ?_|refine qc ?_|refine oJ ?_|refine nN hs (fun _ _ hs=>?_)|refine nS hs (fun _ _ hs=>?_)|refine sX hs (fun _ hs=>?_)|(refine hK0 _ _ ?_;clear hK0)|fail)
 by_cases h0:chkF t=0
 ·rw[h0]
  rw[h0] at h
  simp only[ne_eq,not_true,if_false] at h
  generalize sltF t=slots at h ⊢
  repeat' (first|refine nX ?_|refine nY (fun K0 hK0=>?_)|refine bH ?_|refine bM ?_|refine iS hs ?_|refine rS hs ?_|refine eI _ (aI rfl ?_)|refine qg ?_|refine qf ?_|refine qc ?_|refine oJ ?_|refine nN hs (fun _ _ hs=>?_)|refine nS hs (fun _ _ hs=>?_)|refine sX hs (fun _ hs=>?_)|(refine hK0 _ _ ?_;clear hK0)|fail)
  refine qQ (α := List Blk × Nat) tok (fun z=>HS H none' [(true,b1, .cells true 1 (schC t alg b c d l.length))] z.1/\z.2<=l.length/\sndR t.pr slots [] l=sndR t.pr slots (l.take z.2) (l.drop z.2))
   (fun z=>[(1, .pointer (some ⟨b1,0,none⟩)),(3, .int .i64 slots),(5, .int .i64 (z.2:Int))]) (fun z=>z.1) (fun z=>l.length-z.2)
   (_,0) ⟨hs,Nat.zero_le _,rfl⟩ (Or.inl ⟨⟨rfl,rfl,rfl,trivial⟩,rfl⟩) ?_
  clear hs
  rintro ⟨H5,i⟩ ⟨hs,hi,hsp⟩
  dsimp only at hs hi hsp ⊢
  refine And.intro (by decide) ?_
  refine qj (hs.get 0 rfl) ?_
  refine qi (hs.get 0 rfl) ⟨_,rfl, ?_⟩
  refine And.intro (fun hc=>?_) (fun hc=>?_)
  ·have hlt:i<l.length:=by simp at hc;omega
   clear hc
   have hdr:l.drop i=l[i]! :: l.drop (i+1):=by rw[getElem!_pos l i hlt];exact List.drop_eq_getElem_cons hlt
   have htk:l.take (i+1)=l.take i ++ [l[i]!]:=by rw[List.take_succ_eq_append_getElem hlt,getElem!_pos l i hlt]
   rw[hdr] at hsp
   simp only[sndR] at hsp
   rw[<- htk] at hsp
   refine vcg_seqG (fun q0 q1 q2 q3=>?_)
   repeat' (first|refine nX ?_|refine nY (fun K0 hK0=>?_)|refine bH ?_|refine bM ?_|refine iS hs ?_|refine rS hs ?_|refine eI _ (aI rfl ?_)|refine qg ?_|refine qf ?_|refine qc ?_|refine oJ ?_|refine nN hs (fun _ _ hs=>?_)|refine nS hs (fun _ _ hs=>?_)|refine sX hs (fun _ hs=>?_)|(refine hK0 _ _ ?_;clear hK0)|fail)
   refine c85 (hst.up (qh hs)) hll hlt (fun H6 hn=>?_)
   have hs:=qA hs hn
   clear hn
   generalize faultF t.pr slots (l.take i) l[i]! = f at hsp ⊢
   repeat' (first|refine nX ?_|refine nY (fun K0 hK0=>?_)|refine bH ?_|refine bM ?_|refine iS hs ?_|refine rS hs ?_|refine eI _ (aI rfl ?_)|refine qg ?_|refine qf ?_|refine qc ?_|refine oJ ?_|refine nN hs (fun _ _ hs=>?_)|refine nS hs (fun _ _ hs=>?_)|refine sX hs (fun _ hs=>?_)|(refine dI (fun hc=>?_) (fun hc=>?_) <;> try (exfalso;omega))|(refine hK0 _ _ ?_;clear hK0)|fail)
   ·refine q3 _ _ ?_
    rw[if_pos (by omega)] at hsp
    have:=h _ (qh hs)
    rw[hsp] at this
    exact this
   ·refine q1 _ _ ?_
    rw[if_neg (by omega)] at hsp
    refine Or.inl ⟨((i+1:Nat):Int),by simp,by unfold I64;omega, ?_⟩
    exact⟨(_,i+1),⟨hs,hlt,hsp⟩,by dsimp only;omega,Or.inl ⟨⟨rfl,rfl,rfl,trivial⟩,rfl⟩⟩
  ·have hie:i=l.length:=by simp at hc;omega
   subst hie
   rw[List.drop_length] at hsp
   have:=h _ (qh hs)
   rw[hsp] at this
   exact this
 ·generalize chkF t=z at h0 h ⊢
  rw[if_pos h0] at h
  repeat' (first|refine nX ?_|refine nY (fun K0 hK0=>?_)|refine bH ?_|refine bM ?_|refine iS hs ?_|refine rS hs ?_|refine eI _ (aI rfl ?_)|refine qg ?_|refine qf ?_|refine qc ?_|refine oJ ?_|refine nN hs (fun _ _ hs=>?_)|refine nS hs (fun _ _ hs=>?_)|refine sX hs (fun _ hs=>?_)|(refine dI (fun hc=>?_) (fun hc=>?_) <;> try (exfalso;omega))|(refine hK0 _ _ ?_;clear hK0)|fail)
  all_goals exact h _ (qh hs)
end Go.Af.Tryz
