/-
  Processes spread over the homes of a network (Spread), in the program and in the reference.
  Is it small enough (few); the law PlanChecks, as a call.
-/
import Derived.Test.YtgdbclgcbbbenaaGreatMPD
import Derived.Test.YtgdbclgcbbbenaaGreatMY2
import Derived.Test.YtgdbclgcbbbenaaGreatMCA
import Derived.Test.YtgdbclgcbbbenaaGreatMG6
set_option linter.all false
namespace Go.Af.Tryz
open Go Go.Proofs Go.Af.Pl Co
open Ne
open Go.Af.Coll (St)
set_option maxRecDepth 100000
set_option maxHeartbeats 4000000
attribute [local irreducible] awp qj qm qP qH qJ isCells qA qx qZ qX qI roundEnd wZ wO keyK vZ wP wW
end Go.Af.Tryz
namespace Go.Af.Tryz
open Go Go.Proofs Go.Af.Pl Co
open Ne
open Go.Af.Coll (St)
set_option maxRecDepth 100000
set_option maxHeartbeats 4000000
attribute [local irreducible] awp qj qm qP qH qJ isCells qA qx qZ qX qI roundEnd wZ wO keyK vZ wP wW
def fewP (m:Mc) (t:Tk) (sw pr:Int):Prop:=m.sd.length<=10/\m.hs.length<=100/\t.sz.length<=10/\t.ws.length<=10/\(∀ s,qw m.kd m.sd m.ho=some s->s.sw<=sw)/\(chkF t=0->t.pr<=pr/\sltF t<=40)
theorem c12 {H:List Blk} {m:Mc} {t:Tk} {b c e f:Nat} {sw pr:Int} {R:Value->List Blk->Prop} (g:Mr H m b c) (gr:Gr H t.sz e) (hl:t.sz.length<=9223372036854775807) (hw:t.ws.length<=9223372036854775807)
 (h : ∀ H' u,HS H none' [] H' -> (u=true->fewP m t sw pr)->R (.bool u) H'):qj Tryz.prog 12 [mcV m b c,tkV t e f, .int .i64 sw, .int .i64 pr] H R:=by
 obtain ⟨w0,hb0⟩:=g.s
 refine qc tok Tryz.call12 Tryz.func12 rfl Tryz.ntmps12 rfl (by simp) ?_
 refine vg (HS.start H none') (fun H1 b2 e1 l1 hs=>?_)
 refine vg hs (fun H2 b3 e2 l2 hs=>?_)
 refine qM (fun _ hKs=>hKs _ _ ?_);clear hKs
 clear e1 l1 e2 l2
 repeat' (first|refine nX ?_|refine nY (fun K0 hK0=>?_)|refine zSt hs ?_|refine nN hs (fun _ _ hs=>?_)|refine nS hs (fun _ _ hs=>?_)|refine sX hs (fun _ hs=>?_)|(refine hK0 _ _ ?_;clear hK0)|fail)
 have hb:=vK (qf hs) hb0
 (first | refine Ne.c23 hb (Nat.le_refl _) ?_ | refine (Ne.c23 hb (Nat.le_refl _) ?_).call)
 cases hsh:qw m.kd m.sd m.ho with
 | none =>
   unfold sizeV
   repeat' (first|refine nX ?_|refine nY (fun K0 hK0=>?_)|refine zSt hs ?_|refine nN hs (fun _ _ hs=>?_)|refine nS hs (fun _ _ hs=>?_)|refine sX hs (fun _ hs=>?_)|(refine hK0 _ _ ?_;clear hK0)|fail)
   (first | refine c18 (fun H3 hn=>?_) | refine (c18 (fun H3 hn=>?_)).call)
   have hs:=qR hs hn
   clear hn
   repeat' (first|refine nX ?_|refine nY (fun K0 hK0=>?_)|refine zSt hs ?_|refine nN hs (fun _ _ hs=>?_)|refine nS hs (fun _ _ hs=>?_)|refine sX hs (fun _ hs=>?_)|(refine hK0 _ _ ?_;clear hK0)|fail)
   refine c35L (gr.up (qf hs)) hl hw (fun H4 hn=>?_)
   have hs:=qR hs hn
   clear hn
   unfold fewP at h
   generalize chkF t=ce at h ⊢
   generalize sltF t=sl at h ⊢
   repeat' (first|refine nX ?_|refine nY (fun K0 hK0=>?_)|refine zSt hs ?_|refine nN hs (fun _ _ hs=>?_)|refine nS hs (fun _ _ hs=>?_)|refine sX hs (fun _ hs=>?_)|(refine dI (fun hc=>?_) (fun hc=>?_) <;> try (exfalso;omega))|(refine hK0 _ _ ?_;clear hK0)|fail)
   all_goals (
    refine h _ _ (qf hs) (fun hu=>?_)
    first
    | exact absurd hu (by decide)
    | (have hu' := hu
       first | (have hu' := of_decide_eq_true hu) | skip
       exact⟨by omega,by omega,by omega,by omega,fun s' he=>(by rw[hsh] at he;cases he),fun e=>by omega⟩))
 | some s =>
   unfold sizeV
   repeat' (first|refine nX ?_|refine nY (fun K0 hK0=>?_)|refine zSt hs ?_|refine nN hs (fun _ _ hs=>?_)|refine nS hs (fun _ _ hs=>?_)|refine sX hs (fun _ hs=>?_)|(refine hK0 _ _ ?_;clear hK0)|fail)
   (first | refine c18 (fun H3 hn=>?_) | refine (c18 (fun H3 hn=>?_)).call)
   have hs:=qR hs hn
   clear hn
   repeat' (first|refine nX ?_|refine nY (fun K0 hK0=>?_)|refine zSt hs ?_|refine nN hs (fun _ _ hs=>?_)|refine nS hs (fun _ _ hs=>?_)|refine sX hs (fun _ hs=>?_)|(refine hK0 _ _ ?_;clear hK0)|fail)
   refine c35L (gr.up (qf hs)) hl hw (fun H4 hn=>?_)
   have hs:=qR hs hn
   clear hn
   unfold fewP at h
   generalize chkF t=ce at h ⊢
   generalize sltF t=sl at h ⊢
   repeat' (first|refine nX ?_|refine nY (fun K0 hK0=>?_)|refine zSt hs ?_|refine nN hs (fun _ _ hs=>?_)|refine nS hs (fun _ _ hs=>?_)|refine sX hs (fun _ hs=>?_)|(refine dI (fun hc=>?_) (fun hc=>?_) <;> try (exfalso;omega))|(refine hK0 _ _ ?_;clear hK0)|fail)
   all_goals (
    refine h _ _ (qf hs) (fun hu=>?_)
    first
    | exact absurd hu (by decide)
    | (have hu' := hu
       first | (have hu' := of_decide_eq_true hu) | skip
       exact⟨by omega,by omega,by omega,by omega,fun s' he=>(by rw[hsh] at he;cases he;omega),fun e=>by omega⟩))
end Go.Af.Tryz
