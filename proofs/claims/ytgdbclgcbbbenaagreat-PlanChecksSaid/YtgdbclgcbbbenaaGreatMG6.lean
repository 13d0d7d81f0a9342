/-
  The reference's Check and Slots, for tasks with rows of any length.
  Calls over a heap that may be seen as another one: nil rows as empty rows.
-/
import Derived.Test.YtgdbclgcbbbenaaGreatMGB
import Derived.Test.YtgdbclgcbbbenaaGreatMC
set_option linter.all false
namespace Go.Af.Tryz.Co
open Go Go.Proofs
set_option maxRecDepth 100000
set_option maxHeartbeats 4000000
attribute [local irreducible] awp qo qA qN qI qG isCells qC qw qY ve qM roundEnd
theorem c36L {H:List Blk} {t:Tk} {b c:Nat} {R:Value->List Blk->Prop} (g:Gr H t.sz b) (hl:t.sz.length<=9223372036854775807) (hw:t.ws.length<=9223372036854775807) (h : ∀ H',HS H none' [] H' -> R (.int .i64 (chkF t)) H'):qo Tryz.prog 65 [tkV t b c] H R:=by
 obtain ⟨w,hb⟩:=g.s
 refine qj tok Tryz.call65 Tryz.func65 rfl Tryz.ntmps65 rfl (by simp) ?_
 refine vO ((HS.start H none').add (c:=false) hb (fun i p hi=>by simp at hi) (fun h=>by cases h)) (fun H1 b1 e1 l1 hs=>?_)
 refine qZ (fun _ hKs=>hKs _ _ ?_);clear hKs
 obtain ⟨hm1,hm2⟩:=mul_facts t.pr t.pa
 obtain ⟨gz,hgz⟩ : ∃ gz,gzF t=gz:=⟨_,rfl⟩
 unfold chkF at h
 rw[hgz] at h
 unfold gzF at hgz
 have h' := h
 replace h:=h H1 (qU hs)
 repeat' (first|refine nX ?_|refine nY (fun K0 hK0=>?_)|refine bH ?_|refine bM ?_|refine iS hs ?_|refine rS hs ?_|refine eI _ (aI rfl ?_)|refine qi ?_|refine qh ?_|refine qf ?_|refine oJ ?_|refine nN hs (fun _ _ hs=>?_)|refine nS hs (fun _ _ hs=>?_)|refine sX hs (fun _ hs=>?_)|(refine dI (fun hc=>?_) (fun hc=>?_) <;> try (exfalso;omega))|(refine hK0 _ _ ?_;clear hK0)|fail)
 all_goals try (
  (repeat (first | rw[if_pos (by omega)] at h | rw[if_neg (by omega)] at h))
  exact h;done)
 refine c89 ?_
 obtain ⟨hb1,hb2,hb3,hb4⟩:=blk_facts t
 repeat' (first|refine nX ?_|refine nY (fun K0 hK0=>?_)|refine bH ?_|refine bM ?_|refine iS hs ?_|refine rS hs ?_|refine eI _ (aI rfl ?_)|refine qi ?_|refine qh ?_|refine qf ?_|refine oJ ?_|refine nN hs (fun _ _ hs=>?_)|refine nS hs (fun _ _ hs=>?_)|refine sX hs (fun _ hs=>?_)|(refine dI (fun hc=>?_) (fun hc=>?_) <;> try (exfalso;omega))|(refine hK0 _ _ ?_;clear hK0)|fail)
 all_goals try (
  (repeat (first | rw[if_pos (by omega)] at h | rw[if_neg (by omega)] at h))
  exact h;done)
 any_goals (
  refine Or.inr ?_
  rw[hgz]
  repeat' (first|refine nX ?_|refine nY (fun K0 hK0=>?_)|refine bH ?_|refine bM ?_|refine iS hs ?_|refine rS hs ?_|refine eI _ (aI rfl ?_)|refine qi ?_|refine qh ?_|refine qf ?_|refine oJ ?_|refine nN hs (fun _ _ hs=>?_)|refine nS hs (fun _ _ hs=>?_)|refine sX hs (fun _ hs=>?_)|(refine dI (fun hc=>?_) (fun hc=>?_) <;> try (exfalso;omega))|(refine hK0 _ _ ?_;clear hK0)|fail)
  all_goals try (
   (repeat (first | rw[if_pos (by omega)] at h | rw[if_neg (by omega)] at h))
   exact h;done)
  )
 any_goals (
  refine c88 (fun e=>absurd e (by omega)) ⟨by omega,by omega⟩ (fun H2 hn=>?_)
  have hs:=vP hs hn
  clear hn
  replace h:=h' H2 (qU hs)
  generalize blkF t=bk at hb1 hb2 hb3 hb4
  repeat' (first|refine nX ?_|refine nY (fun K0 hK0=>?_)|refine bH ?_|refine bM ?_|refine iS hs ?_|refine rS hs ?_|refine eI _ (aI rfl ?_)|refine qi ?_|refine qh ?_|refine qf ?_|refine oJ ?_|refine nN hs (fun _ _ hs=>?_)|refine nS hs (fun _ _ hs=>?_)|refine sX hs (fun _ hs=>?_)|(refine dI (fun hc=>?_) (fun hc=>?_) <;> try (exfalso;omega))|(refine hK0 _ _ ?_;clear hK0)|fail)
  all_goals try (
   (repeat (first | rw[if_pos (by omega)] at h | rw[if_neg (by omega)] at h))
   exact h;done)
  done)
 trace_state
 clear h
 refine c90 ⟨_,hs.get 1 rfl⟩ (fun H4 v1 hn=>?_)
 have hs:=vP hs hn
 clear hn
 repeat' (first|refine nX ?_|refine nY (fun K0 hK0=>?_)|refine bH ?_|refine bM ?_|refine iS hs ?_|refine rS hs ?_|refine eI _ (aI rfl ?_)|refine qi ?_|refine qh ?_|refine qf ?_|refine oJ ?_|refine nN hs (fun _ _ hs=>?_)|refine nS hs (fun _ _ hs=>?_)|refine sX hs (fun _ hs=>?_)|(refine hK0 _ _ ?_;clear hK0)|fail)
 refine c90 ⟨_,hs.get 1 rfl⟩ (fun H5 v2 hn=>?_)
 have hs:=vP hs hn
 clear hn
 have h:=h' H5 (qU hs)
 clear h'
 repeat' (first|refine nX ?_|refine nY (fun K0 hK0=>?_)|refine bH ?_|refine bM ?_|refine iS hs ?_|refine rS hs ?_|refine eI _ (aI rfl ?_)|refine qi ?_|refine qh ?_|refine qf ?_|refine oJ ?_|refine nN hs (fun _ _ hs=>?_)|refine nS hs (fun _ _ hs=>?_)|refine sX hs (fun _ hs=>?_)|(refine dI (fun hc=>?_) (fun hc=>?_) <;> try (exfalso;omega))|(refine hK0 _ _ ?_;clear hK0)|fail)
 all_goals try (
  (repeat (first | rw[if_pos (by omega)] at h | rw[if_neg (by omega)] at h))
  exact h;done)
theorem c35L {H:List Blk} {t:Tk} {b c:Nat} {R:Value->List Blk->Prop} (g:Gr H t.sz b) (hl:t.sz.length<=9223372036854775807) (hw:t.ws.length<=9223372036854775807) (h : ∀ H',HS H none' [] H' -> R (.tuple ⟨[.int .i64 (sltF t), .int .i64 (chkF t)]⟩) H'):qo Tryz.prog 48 [tkV t b c] H R:=by
 obtain ⟨w,hb⟩:=g.s
 refine qj tok Tryz.call48 Tryz.func48 rfl Tryz.ntmps48 rfl (by simp) ?_
 refine vO ((HS.start H none').add (c:=false) hb (fun i p hi=>by simp at hi) (fun h=>by cases h)) (fun H1 b1 e1 l1 hs=>?_)
 refine qZ (fun _ hKs=>hKs _ _ ?_);clear hKs
 repeat' (first|refine nX ?_|refine nY (fun K0 hK0=>?_)|refine bH ?_|refine bM ?_|refine iS hs ?_|refine rS hs ?_|refine eI _ (aI rfl ?_)|refine qi ?_|refine qh ?_|refine qf ?_|refine oJ ?_|refine nN hs (fun _ _ hs=>?_)|refine nS hs (fun _ _ hs=>?_)|refine sX hs (fun _ hs=>?_)|(refine hK0 _ _ ?_;clear hK0)|fail)
 refine c36L ⟨_,hs.get 1 rfl⟩ hl hw (fun H2 hn=>?_)
 have hs:=vP hs hn
 clear hn
 unfold sltF at h
 by_cases h0:chkF t=0
 ·rw[h0] at h ⊢
  rw[if_pos rfl] at h
  have k:=tk_ok h0
  have hr:=blk_range k
  repeat' (first|refine nX ?_|refine nY (fun K0 hK0=>?_)|refine bH ?_|refine bM ?_|refine iS hs ?_|refine rS hs ?_|refine eI _ (aI rfl ?_)|refine qi ?_|refine qh ?_|refine qf ?_|refine oJ ?_|refine nN hs (fun _ _ hs=>?_)|refine nS hs (fun _ _ hs=>?_)|refine sX hs (fun _ hs=>?_)|(refine hK0 _ _ ?_;clear hK0)|fail)
  refine wC tok mx [0,1,0,4,15,31,63] [false,false,true,true,false,false,false] (.first 0 (.first 2 (.alt 1 (.first 3 (.first 4 (.first 5 (.first 6 .done)))) (.alt 3 (.first 1 (.first 4 (.first 5 (.first 6 .done)))) .no)))) (by kernel_rfl) ?_
  refine wK (fun K0 hK0=>?_)
  repeat' (first|refine nX ?_|refine nY (fun K0 hK0=>?_)|refine bH ?_|refine bM ?_|refine iS hs ?_|refine rS hs ?_|refine eI _ (aI rfl ?_)|refine qi ?_|refine qh ?_|refine qf ?_|refine oJ ?_|refine nN hs (fun _ _ hs=>?_)|refine nS hs (fun _ _ hs=>?_)|refine sX hs (fun _ hs=>?_)|(refine hK0 _ _ ?_;clear hK0)|fail)
  refine And.intro ?_ (And.intro ?_ trivial)
  ·refine c88 (fun e=>by have:=k.dims e;omega) k.pr (fun H3 hn=>?_)
   have hs:=vP hs hn
   clear hn
   repeat' (first|refine nX ?_|refine nY (fun K0 hK0=>?_)|refine bH ?_|refine bM ?_|refine iS hs ?_|refine rS hs ?_|refine eI _ (aI rfl ?_)|refine qi ?_|refine qh ?_|refine qf ?_|refine oJ ?_|refine nN hs (fun _ _ hs=>?_)|refine nS hs (fun _ _ hs=>?_)|refine sX hs (fun _ hs=>?_)|(refine hK0 _ _ ?_;clear hK0)|fail)
   exact h H3 (qU hs)
  ·skip
   repeat' (first|refine nX ?_|refine nY (fun K0 hK0=>?_)|refine bH ?_|refine bM ?_|refine iS hs ?_|refine rS hs ?_|refine eI _ (aI rfl ?_)|refine qi ?_|refine qh ?_|refine qf ?_|refine oJ ?_|refine nN hs (fun _ _ hs=>?_)|refine nS hs (fun _ _ hs=>?_)|refine sX hs (fun _ hs=>?_)|(refine hK0 _ _ ?_;clear hK0)|fail)
   refine c88 (fun e=>by have:=k.dims e;omega) k.pr (fun H3 hn=>?_)
   have hs:=vP hs hn
   clear hn
   repeat' (first|refine nX ?_|refine nY (fun K0 hK0=>?_)|refine bH ?_|refine bM ?_|refine iS hs ?_|refine rS hs ?_|refine eI _ (aI rfl ?_)|refine qi ?_|refine qh ?_|refine qf ?_|refine oJ ?_|refine nN hs (fun _ _ hs=>?_)|refine nS hs (fun _ _ hs=>?_)|refine sX hs (fun _ hs=>?_)|(refine hK0 _ _ ?_;clear hK0)|fail)
   exact h H3 (qU hs)
 ·rw[if_neg h0] at h
  repeat' (first|refine nX ?_|refine nY (fun K0 hK0=>?_)|refine bH ?_|refine bM ?_|refine iS hs ?_|refine rS hs ?_|refine eI _ (aI rfl ?_)|refine qi ?_|refine qh ?_|refine qf ?_|refine oJ ?_|refine nN hs (fun _ _ hs=>?_)|refine nS hs (fun _ _ hs=>?_)|refine sX hs (fun _ hs=>?_)|(refine dI (fun hc=>?_) (fun hc=>?_) <;> try (exfalso;omega))|(refine hK0 _ _ ?_;clear hK0)|fail)
  all_goals first | (exfalso;omega) | exact h H2 (qU hs)
end Go.Af.Tryz.Co
namespace Go.Af
open Go
theorem Fr.fewer {n n' : Nat} {m m' : LM} {H H' : List Blk} {w w' : World} (hn:n' <= n) (hl:n<=H.length) (h:Fr n m H w m' H' w'):Fr n' m H w m' H' w' :=
 ⟨h.size,fun _=>Nat.le_trans hn (h.len hl),fun i hi=>h.base i (by omega),fun i hi=>h.base' i (by omega),fun i hi=>h.rw i (by omega),h.keep,h.out⟩
theorem acall_seen {P:Program} {f:FuncId} {args args' : List Value} {H Hs:List Blk} {R:Value->List Blk->Prop} (h:qo P f args' Hs R) (hl : ∀ (m:LM) (ys:List Value),LRel m args ys->LRel m args' ys) (hh:WkH H Hs):qo P f args H R :=
 ⟨h.1,fun m aR w hr hw=>(h.2 m aR w (hl m _ hr) (hw.weak hh)).mono fun _ _ ⟨v,H',m',r1,r2,r3,r4⟩=>⟨v,H',m',r1,r2,r3,(r4.fewer hh.1 (Nat.le_refl _)).weak hh hw (Nat.le_refl _)⟩⟩
def VUp (v v' : Value):Prop := ∀ (m:LM) (u:Value),VRel m v u->VRel m v' u
def LUp (l l' : List Value):Prop := ∀ (m:LM) (us:List Value),LRel m l us->LRel m l' us
theorem VUp.rfl {v:Value}:VUp v v:=fun _ _ h=>h
theorem VUp.nil (b:Nat):VUp (.slice none 0 0) (.slice (some ⟨b,0,none⟩) 0 0):=fun m u h=>by cases h;exact .sliceZero b 0 none
theorem LUp.nil:LUp [] []:=fun _ _ h=>h
theorem LUp.cons {x x' : Value} {xs xs' : List Value} (h:VUp x x') (hs:LUp xs xs'):LUp (x::xs) (x' :: xs'):=fun m ys hr=>by
 obtain ⟨y,ys',rfl,h1,h2⟩:=hr.inv_cons
 exact .cons (h m _ h1) (hs m _ h2)
theorem VUp.agg {xs xs' : Array Value} (h:LUp xs.toList xs'.toList):VUp (.agg xs) (.agg xs'):=fun m vR hr=>by
 obtain ⟨ys,rfl,hl⟩:=hr.inv_agg;exact .agg' (h m _ hl)
end Go.Af
