/-
  The reference's Check and Slots, for tasks with rows of any length.
-/
import Derived.Test.YtgdbclgcbbbenaaGreatMGB
set_option linter.all false
namespace Go.Af.Tryz.Co
open Go Go.Proofs
set_option maxRecDepth 100000
set_option maxHeartbeats 4000000
attribute [local irreducible] awp qj qm qP qH qJ isCells qA qx qZ qX qI roundEnd
theorem c36L {H:List Blk} {t:Tk} {b c:Nat} {R:Value->List Blk->Prop} (g:Gr H t.sz b) (hl:t.sz.length<=9223372036854775807) (hw:t.ws.length<=9223372036854775807) (h : ∀ H',HS H none' [] H' -> R (.int .i64 (chkF t)) H'):qj Tryz.prog 65 [tkV t b c] H R:=by
 obtain ⟨w,hb⟩:=g.s
 refine qc tok Tryz.call65 Tryz.func65 rfl Tryz.ntmps65 rfl (by simp) ?_
 refine vg ((HS.start H none').add (c:=false) hb (fun i p hi=>by simp at hi) (fun h=>by cases h)) (fun H1 b1 e1 l1 hs=>?_)
 refine qM (fun _ hKs=>hKs _ _ ?_);clear hKs
 obtain ⟨hm1,hm2⟩:=mul_facts t.pr t.pa
 obtain ⟨gz,hgz⟩ : ∃ gz,gzF t=gz:=⟨_,rfl⟩
 unfold chkF at h
 rw[hgz] at h
 unfold gzF at hgz
 have h' := h
 replace h:=h H1 (qf hs)
 repeat' (first|refine nX ?_|refine nY (fun K0 hK0=>?_)|refine bH ?_|refine bM ?_|refine iS hs ?_|refine rS hs ?_|refine eI _ (aI rfl ?_)|refine qp ?_|refine qo ?_|refine qh ?_|refine oJ ?_|refine nN hs (fun _ _ hs=>?_)|refine nS hs (fun _ _ hs=>?_)|refine sX hs (fun _ hs=>?_)|(refine dI (fun hc=>?_) (fun hc=>?_) <;> try (exfalso;omega))|(refine hK0 _ _ ?_;clear hK0)|fail)
 all_goals try (
  (repeat (first | rw[if_pos (by omega)] at h | rw[if_neg (by omega)] at h))
  exact h;done)
 refine c89 ?_
 obtain ⟨hb1,hb2,hb3,hb4⟩:=blk_facts t
 repeat' (first|refine nX ?_|refine nY (fun K0 hK0=>?_)|refine bH ?_|refine bM ?_|refine iS hs ?_|refine rS hs ?_|refine eI _ (aI rfl ?_)|refine qp ?_|refine qo ?_|refine qh ?_|refine oJ ?_|refine nN hs (fun _ _ hs=>?_)|refine nS hs (fun _ _ hs=>?_)|refine sX hs (fun _ hs=>?_)|(refine dI (fun hc=>?_) (fun hc=>?_) <;> try (exfalso;omega))|(refine hK0 _ _ ?_;clear hK0)|fail)
 all_goals try (
  (repeat (first | rw[if_pos (by omega)] at h | rw[if_neg (by omega)] at h))
  exact h;done)
 any_goals (
  refine Or.inr ?_
  rw[hgz]
  repeat' (first|refine nX ?_|refine nY (fun K0 hK0=>?_)|refine bH ?_|refine bM ?_|refine iS hs ?_|refine rS hs ?_|refine eI _ (aI rfl ?_)|refine qp ?_|refine qo ?_|refine qh ?_|refine oJ ?_|refine nN hs (fun _ _ hs=>?_)|refine nS hs (fun _ _ hs=>?_)|refine sX hs (fun _ hs=>?_)|(refine dI (fun hc=>?_) (fun hc=>?_) <;> try (exfalso;omega))|(refine hK0 _ _ ?_;clear hK0)|fail)
  all_goals try (
   (repeat (first | rw[if_pos (by omega)] at h | rw[if_neg (by omega)] at h))
   exact h;done)
  )
 any_goals (
  refine c88 (fun e=>absurd e (by omega)) ⟨by omega,by omega⟩ (fun H2 hn=>?_)
  have hs:=qR hs hn
  clear hn
  replace h:=h' H2 (qf hs)
  generalize blkF t=bk at hb1 hb2 hb3 hb4
  repeat' (first|refine nX ?_|refine nY (fun K0 hK0=>?_)|refine bH ?_|refine bM ?_|refine iS hs ?_|refine rS hs ?_|refine eI _ (aI rfl ?_)|refine qp ?_|refine qo ?_|refine qh ?_|refine oJ ?_|refine nN hs (fun _ _ hs=>?_)|refine nS hs (fun _ _ hs=>?_)|refine sX hs (fun _ hs=>?_)|(refine dI (fun hc=>?_) (fun hc=>?_) <;> try (exfalso;omega))|(refine hK0 _ _ ?_;clear hK0)|fail)
  all_goals try (
   (repeat (first | rw[if_pos (by omega)] at h | rw[if_neg (by omega)] at h))
   exact h;done)
  done)
 clear h
 refine c90 ⟨_,hs.get 1 rfl⟩ (fun H4 v1 hn=>?_)
 have hs:=qR hs hn
 clear hn
 repeat' (first|refine nX ?_|refine nY (fun K0 hK0=>?_)|refine bH ?_|refine bM ?_|refine iS hs ?_|refine rS hs ?_|refine eI _ (aI rfl ?_)|refine qp ?_|refine qo ?_|refine qh ?_|refine oJ ?_|refine nN hs (fun _ _ hs=>?_)|refine nS hs (fun _ _ hs=>?_)|refine sX hs (fun _ hs=>?_)|(refine hK0 _ _ ?_;clear hK0)|fail)
 refine c90 ⟨_,hs.get 1 rfl⟩ (fun H5 v2 hn=>?_)
 have hs:=qR hs hn
 clear hn
 have h:=h' H5 (qf hs)
 clear h'
 repeat' (first|refine nX ?_|refine nY (fun K0 hK0=>?_)|refine bH ?_|refine bM ?_|refine iS hs ?_|refine rS hs ?_|refine eI _ (aI rfl ?_)|refine qp ?_|refine qo ?_|refine qh ?_|refine oJ ?_|refine nN hs (fun _ _ hs=>?_)|refine nS hs (fun _ _ hs=>?_)|refine sX hs (fun _ hs=>?_)|(refine dI (fun hc=>?_) (fun hc=>?_) <;> try (exfalso;omega))|(refine hK0 _ _ ?_;clear hK0)|fail)
 all_goals try (
  (repeat (first | rw[if_pos (by omega)] at h | rw[if_neg (by omega)] at h))
  exact h;done)
theorem c35L {H:List Blk} {t:Tk} {b c:Nat} {R:Value->List Blk->Prop} (g:Gr H t.sz b) (hl:t.sz.length<=9223372036854775807) (hw:t.ws.length<=9223372036854775807) (h : ∀ H',HS H none' [] H' -> R (.tuple ⟨[.int .i64 (sltF t), .int .i64 (chkF t)]⟩) H'):qj Tryz.prog 48 [tkV t b c] H R:=by
 obtain ⟨w,hb⟩:=g.s
 refine qc tok Tryz.call48 Tryz.func48 rfl Tryz.ntmps48 rfl (by simp) ?_
 refine vg ((HS.start H none').add (c:=false) hb (fun i p hi=>by simp at hi) (fun h=>by cases h)) (fun H1 b1 e1 l1 hs=>?_)
 refine qM (fun _ hKs=>hKs _ _ ?_);clear hKs
 repeat' (first|refine nX ?_|refine nY (fun K0 hK0=>?_)|refine bH ?_|refine bM ?_|refine iS hs ?_|refine rS hs ?_|refine eI _ (aI rfl ?_)|refine qp ?_|refine qo ?_|refine qh ?_|refine oJ ?_|refine nN hs (fun _ _ hs=>?_)|refine nS hs (fun _ _ hs=>?_)|refine sX hs (fun _ hs=>?_)|(refine hK0 _ _ ?_;clear hK0)|fail)
 refine c36L ⟨_,hs.get 1 rfl⟩ hl hw (fun H2 hn=>?_)
 have hs:=qR hs hn
 clear hn
 unfold sltF at h
 by_cases h0:chkF t=0
 ·rw[h0] at h ⊢
  rw[if_pos rfl] at h
  have k:=tk_ok h0
  have hr:=blk_range k
  repeat' (first|refine nX ?_|refine nY (fun K0 hK0=>?_)|refine bH ?_|refine bM ?_|refine iS hs ?_|refine rS hs ?_|refine eI _ (aI rfl ?_)|refine qp ?_|refine qo ?_|refine qh ?_|refine oJ ?_|refine nN hs (fun _ _ hs=>?_)|refine nS hs (fun _ _ hs=>?_)|refine sX hs (fun _ hs=>?_)|(refine hK0 _ _ ?_;clear hK0)|fail)
  refine vk tok mx [0,1,0,4,15,31,63] [false,false,true,true,false,false,false] (.first 0 (.first 2 (.alt 1 (.first 3 (.first 4 (.first 5 (.first 6 .done)))) (.alt 3 (.first 1 (.first 4 (.first 5 (.first 6 .done)))) .no)))) (by kernel_rfl) ?_
  refine vz (fun K0 hK0=>?_)
  repeat' (first|refine nX ?_|refine nY (fun K0 hK0=>?_)|refine bH ?_|refine bM ?_|refine iS hs ?_|refine rS hs ?_|refine eI _ (aI rfl ?_)|refine qp ?_|refine qo ?_|refine qh ?_|refine oJ ?_|refine nN hs (fun _ _ hs=>?_)|refine nS hs (fun _ _ hs=>?_)|refine sX hs (fun _ hs=>?_)|(refine hK0 _ _ ?_;clear hK0)|fail)
  refine And.intro ?_ (And.intro ?_ trivial)
  ·refine c88 (fun e=>by have:=k.dims e;omega) k.pr (fun H3 hn=>?_)
   have hs:=qR hs hn
   clear hn
   repeat' (first|refine nX ?_|refine nY (fun K0 hK0=>?_)|refine bH ?_|refine bM ?_|refine iS hs ?_|refine rS hs ?_|refine eI _ (aI rfl ?_)|refine qp ?_|refine qo ?_|refine qh ?_|refine oJ ?_|refine nN hs (fun _ _ hs=>?_)|refine nS hs (fun _ _ hs=>?_)|refine sX hs (fun _ hs=>?_)|(refine hK0 _ _ ?_;clear hK0)|fail)
   exact h H3 (qf hs)
  ·skip
   repeat' (first|refine nX ?_|refine nY (fun K0 hK0=>?_)|refine bH ?_|refine bM ?_|refine iS hs ?_|refine rS hs ?_|refine eI _ (aI rfl ?_)|refine qp ?_|refine qo ?_|refine qh ?_|refine oJ ?_|refine nN hs (fun _ _ hs=>?_)|refine nS hs (fun _ _ hs=>?_)|refine sX hs (fun _ hs=>?_)|(refine hK0 _ _ ?_;clear hK0)|fail)
   refine c88 (fun e=>by have:=k.dims e;omega) k.pr (fun H3 hn=>?_)
   have hs:=qR hs hn
   clear hn
   repeat' (first|refine nX ?_|refine nY (fun K0 hK0=>?_)|refine bH ?_|refine bM ?_|refine iS hs ?_|refine rS hs ?_|refine eI _ (aI rfl ?_)|refine qp ?_|refine qo ?_|refine qh ?_|refine oJ ?_|refine nN hs (fun _ _ hs=>?_)|refine nS hs (fun _ _ hs=>?_)|refine sX hs (fun _ hs=>?_)|(refine hK0 _ _ ?_;clear hK0)|fail)
   exact h H3 (qf hs)
 ·rw[if_neg h0] at h
  repeat' (first|refine nX ?_|refine nY (fun K0 hK0=>?_)|refine bH ?_|refine bM ?_|refine iS hs ?_|refine rS hs ?_|refine eI _ (aI rfl ?_)|refine qp ?_|refine qo ?_|refine qh ?_|refine oJ ?_|refine nN hs (fun _ _ hs=>?_)|refine nS hs (fun _ _ hs=>?_)|refine sX hs (fun _ hs=>?_)|(refine dI (fun hc=>?_) (fun hc=>?_) <;> try (exfalso;omega))|(refine hK0 _ _ ?_;clear hK0)|fail)
  all_goals first | (exfalso;omega) | exact h H2 (qf hs)
end Go.Af.Tryz.Co
