/-
  Whether a slot has what it must have: the program.
  Whether a schedule gives what it must: the program's finished.
  The program's Trace and Right.
-/
import Derived.Test.YtgdbclgcbbbenaaGreatMGI2
import Derived.Test.YtgdbclgcbbbenaaGreatMGG
import Derived.Test.YtgdbclgcbbbenaaGreatMGK
set_option linter.all false
namespace Go.Af.Tryz.Co
open Go Go.Proofs
set_option maxRecDepth 100000
set_option maxHeartbeats 4000000
attribute [local irreducible] awp qi qw qH qy qx isCells qo qj qI qG ql roundEnd

theorem orgC_get : ∀ (l:List Og) (i:Nat),i<l.length->(orgC l)[2*i]? = some (.int .i64 l[i]!.1)/\(orgC l)[2*i+1]? = some (.int .i64 l[i]!.2)
 | [],i,h=>by simp at h
 | o::r,0,h=>by
   rw[orgC]
   exact⟨rfl,rfl⟩
 | o::r,i+1,h=>by
   have ih:=orgC_get r i (by simpa using h)
   rw[orgC]
   have e:(o::r)[i+1]! = r[i]! := by simp
   rw[e]
   exact⟨ih.1,ih.2⟩
theorem seg_og {l:List Og} {i:Nat} {K:List Value->Prop} (hi:i<l.length) (h:K [.int .i64 l[i]!.1, .int .i64 l[i]!.2]):segK (orgC l) (0+i*2) 2 K:=by
 have g:=orgC_get l i hi
 refine⟨_,by rw[show 0+i*2=2*i by omega];exact g.1, ?_⟩
 refine⟨_,by rw[show 0+i*2+1=2*i+1 by omega];exact g.2, ?_⟩
 exact h
theorem take_snoc {l:List Og} {j:Nat} (h:j<l.length):l.take (j+1)=l.take j ++ [l[j]!]:=by
 rw[List.take_succ_eq_append_getElem h,getElem!_pos l j h]
end Go.Af.Tryz.Co
namespace Go.Af.Tryz.Co
open Go Go.Proofs
set_option maxRecDepth 100000
set_option maxHeartbeats 4000000
attribute [local irreducible] awp qi qw qH qy qx isCells qo qj qI qG ql roundEnd

end Go.Af.Tryz.Co
namespace Go.Af.Tryz.Co
open Go Go.Proofs
set_option maxRecDepth 100000
set_option maxHeartbeats 4000000
attribute [local irreducible] awp qi qw qH qy qx isCells qo qj qI qG ql roundEnd

theorem c48 {H:List Blk} {t:Tk} {alg:Int} {l:List Coll.St} {b c d:Nat} {R:Value->List Blk->Prop} (gr:Gr H t.sz b) (hst:Sts H l d) (hl:t.sz.length<=9223372036854775807) (hw:t.ws.length<=9223372036854775807) (hll:l.length<=9223372036854775807)
 (he : ∀ H' z,HS H none' [] H' -> z≠0->(z=sndF t l\/sndF t l=0/\trcF t l=none/\z=6)->R (.tuple ⟨[.slice none 0 0, .int .i64 z]⟩) H')
 (h : ∀ H' ob rows M,HS H none' ((true,ob, .cells true 1 (outC rows 0))::(rwL rows++lfL M)) H' -> LfIn rows M->Dim rows t.pr.toNat (sltF t).toNat->sndF t l=0->trcF t l=some (cont rows)->R (.tuple ⟨[sv ob rows.length, .int .i64 0]⟩) H') :
 qi Tryz.prog 116 [schV t alg b c d l.length] H R:=by
 refine qh tok Tryz.call116 Tryz.func116 rfl Tryz.ntmps116 rfl (by simp) ?_
 refine vJ (HS.start H none') (fun H1 b1 e1 l1 hs=>?_)
 refine vw (fun _ hKs=>hKs _ _ ?_);clear hKs
 clear e1 l1
 repeat' (first|refine nX ?_|refine nY (fun K0 hK0=>?_)|refine bH ?_|refine bM ?_|refine iS hs ?_|refine rS hs ?_|refine eI _ (aI rfl ?_)|refine qg ?_|refine qf ?_|refine qc ?_|refine oJ ?_|refine nN hs (fun _ _ hs=>?_)|refine nS hs (fun _ _ hs=>?_)|refine sX hs (fun _ hs=>?_)|(refine hK0 _ _ ?_;clear hK0)|fail)
 refine c29 (gr.up (qJ hs)) (hst.up (qJ hs)) hl hw hll (fun H2 hn=>?_)
 have hs:=vT hs hn
 clear hn
 by_cases h0:sndF t l=0
 ·rw[h0]
  repeat' (first|refine nX ?_|refine nY (fun K0 hK0=>?_)|refine bH ?_|refine bM ?_|refine iS hs ?_|refine rS hs ?_|refine eI _ (aI rfl ?_)|refine qg ?_|refine qf ?_|refine qc ?_|refine oJ ?_|refine nN hs (fun _ _ hs=>?_)|refine nS hs (fun _ _ hs=>?_)|refine sX hs (fun _ hs=>?_)|(refine dI (fun hc=>?_) (fun hc=>?_) <;> try (exfalso;omega))|(refine hK0 _ _ ?_;clear hK0)|fail)
  refine c102 (gr.up (qJ hs)) (hst.up (qJ hs)) hl hll h0 (fun hno H3 hn=>?_) (fun H3 ob rows M hn hlf hdm htr=>?_)
  ·have hs:=vT hs hn
   clear hn
   repeat' (first|refine nX ?_|refine nY (fun K0 hK0=>?_)|refine bH ?_|refine bM ?_|refine iS hs ?_|refine rS hs ?_|refine eI _ (aI rfl ?_)|refine qg ?_|refine qf ?_|refine qc ?_|refine oJ ?_|refine nN hs (fun _ _ hs=>?_)|refine nS hs (fun _ _ hs=>?_)|refine sX hs (fun _ hs=>?_)|(refine dI (fun hc=>?_) (fun hc=>?_) <;> try (exfalso;omega))|(refine hK0 _ _ ?_;clear hK0)|fail)
   exact he _ 6 (qJ hs) (by decide) (.inr ⟨h0,hno,rfl⟩)
  ·have hs:=(hs.call hn (by rw[List.all_cons,List.all_append,rwL_all,lfL_all];rfl)).left
   clear hn
   repeat' (first|refine nX ?_|refine nY (fun K0 hK0=>?_)|refine bH ?_|refine bM ?_|refine iS hs ?_|refine rS hs ?_|refine eI _ (aI rfl ?_)|refine qg ?_|refine qf ?_|refine qc ?_|refine oJ ?_|refine nN hs (fun _ _ hs=>?_)|refine nS hs (fun _ _ hs=>?_)|refine sX hs (fun _ hs=>?_)|(refine dI (fun hc=>?_) (fun hc=>?_) <;> try (exfalso;omega))|(refine hK0 _ _ ?_;clear hK0)|fail)
   exact h _ ob rows M hs hlf hdm h0 htr
 ·generalize hz:sndF t l=z at h0 ⊢
  repeat' (first|refine nX ?_|refine nY (fun K0 hK0=>?_)|refine bH ?_|refine bM ?_|refine iS hs ?_|refine rS hs ?_|refine eI _ (aI rfl ?_)|refine qg ?_|refine qf ?_|refine qc ?_|refine oJ ?_|refine nN hs (fun _ _ hs=>?_)|refine nS hs (fun _ _ hs=>?_)|refine sX hs (fun _ hs=>?_)|(refine dI (fun hc=>?_) (fun hc=>?_) <;> try (exfalso;omega))|(refine hK0 _ _ ?_;clear hK0)|fail)
  exact he _ _ (qJ hs) h0 (.inl hz.symm)
end Go.Af.Tryz.Co
