/- A part of the proof. -/
import Derived.Test.YtmnjcogpchodhaaGreatMRF
import Derived.Test.YtmnjcogpchodhaaGreatMHK
import Derived.Test.YtmnjcogpchodhaaGreatMGC
import Derived.Test.YtmnjcogpchodhaaGreatMCA
set_option linter.all false
set_option maxHeartbeats 4000000
set_option maxRecDepth 100000
namespace Go.Af.Tryz
open Go Go.Proofs
open Go.Af.Coll (St befF)
attribute [local irreducible] awp qj qJ qL qC qo isCells qx qp qA qw qh roundEnd zG wX keyK vY

theorem c25 {H:List Blk} {t:Tk} {b c:Nat} {R:Value->List Blk->Prop} (g:Gr H t.sz b) (hl:t.sz.length<=9223372036854775807) (hw:t.ws.length<=9223372036854775807)
 (hno : ¬ (chkF t=0/\t.pr<=16)->∀ H',HS H none' [] H' -> R (.slice none 0 0) H')
 (h:chkF t=0->t.pr<=16->∀ H' k,HS H none' [(true,k,rw' (algS t))] H' -> R (sv k (algS t).length) H'):qj Tryz.prog 25 [tkV t b c, .int .i64 16] H R:=by
 refine qf tok Tryz.call25 Tryz.func25 rfl Tryz.ntmps25 rfl (by simp) ?_;refine qi (HS.start H none') (fun H1 b1 e1 l1 hs=>?_);refine qg (fun _ hKs=>hKs _ _ ?_);clear hKs;clear e1 l1
 repeat' (first|refine nY (fun K0 hK0=>?_)|refine zBw ?_|refine zNw (fun _ _ hs=>?_)|(refine hK0 _ _ ?_;clear hK0)|fail)
 refine c31 (g.up (qc hs)) hl hw (kNo hs (fun H2 hs=>?_));by_cases h0:chkF t=0
 ·rw[h0]
  by_cases h1:t.pr<=16
  ·skip
   repeat' (first|refine nY (fun K0 hK0=>?_)|refine zBw ?_|refine zNw (fun _ _ hs=>?_)|(refine dI (fun hc=>?_) (fun hc=>?_) <;> try (exfalso;omega))|(refine hK0 _ _ ?_;clear hK0)|fail)
   refine c41 (g.up (qc hs)) hl hw (fun H3 k hn=>?_);have hs:=hs.call hn rfl;clear hn;rw[h0]
   repeat' (first|refine nY (fun K0 hK0=>?_)|refine zBw ?_|refine zNw (fun _ _ hs=>?_)|(refine dI (fun hc=>?_) (fun hc=>?_) <;> try (exfalso;omega))|(refine hK0 _ _ ?_;clear hK0)|fail)
   exact h h0 h1 _ k (hs.pick [0] (by decide) rfl)
  ·skip
   repeat' (first|refine nY (fun K0 hK0=>?_)|refine zBw ?_|refine zNw (fun _ _ hs=>?_)|(refine dI (fun hc=>?_) (fun hc=>?_) <;> try (exfalso;omega))|(refine hK0 _ _ ?_;clear hK0)|fail)
   exact hno (fun e=>h1 e.2) _ (qc hs)
 ·generalize hz:chkF t=z at h0 ⊢
  repeat' (first|refine nY (fun K0 hK0=>?_)|refine zBw ?_|refine zNw (fun _ _ hs=>?_)|(refine dI (fun hc=>?_) (fun hc=>?_) <;> try (exfalso;omega))|(refine hK0 _ _ ?_;clear hK0)|fail)
  exact hno (fun e=>h0 (by rw[<- hz];exact e.1)) _ (qc hs)
theorem alg_ne {op:Int} (h:1<=op/\op<=11) (q:Bool):0<(algF op q).length:=by
 have:op=1\/op=2\/op=3\/op=4\/op=5\/op=6\/op=7\/op=8\/op=9\/op=10\/op=11:=by omega
 rcases this with rfl | rfl | rfl | rfl | rfl | rfl | rfl | rfl | rfl | rfl | rfl <;> cases q <;> decide
theorem tk_small {t:Tk} (hc:chkF t=0) (hs:t.sz.length+t.ws.length<=9223372036854775807):t.sz.length<=4/\t.ws.length<=4:=by
 have kt:=yz hc;by_cases h:t.op=11
 ·have hh:=kt.halo h
  have hpr:=kt.pr;unfold cntF at hh;split at hh
  ·omega
  ·omega
 ·have hg:=gz_small hs
  unfold chkF at hc;split at hc
  ·cases hc
  ·rename_i h1
   omega
end Go.Af.Tryz
