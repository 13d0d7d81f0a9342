/-
  Sums of whole numbers: sum.Reduce for the sum of integers.
  Values for the initial slots of all processes: the law's shaped.
  The values that the processes had at first: values of the program's Run.
  The walk of values.
-/
import Derived.Test.YtmnjcogpchodhaaGreatMGH
import Derived.Test.YtmnjcogpchodhaaGreatMS2
import Derived.Test.YtmnjcogpchodhaaGreatMGG
import Derived.Test.YtmnjcogpchodhaaGreatMGL
set_option linter.all false
namespace Go.Af.Tryz
open Go Go.Proofs
set_option maxRecDepth 100000
set_option maxHeartbeats 4000000
attribute [local irreducible] awp qB qM qO qK qx isCells qp qo qG qC qi roundEnd

def vaC:List Int→List Value
 | []=>[]
 | x::r=>.int .u64 x :: .int .i64 0::vaC r
@[simp] theorem zg : ∀ l:List Int,(vaC l).length=l.length*2
  | []=>rfl
  | x::r=>by rw[vaC,List.length_cons,List.length_cons,zg r,List.length_cons];omega
theorem zh : ∀ a b:List Int,vaC (a++b)=vaC a++vaC b
 | [],b=>rfl
 | x::r,b=>by rw[List.cons_append,vaC,vaC,zh r b];rfl
theorem vaC_get : ∀ (l:List Int) (i:Nat),i<l.length→(vaC l)[2*i]? = some (.int .u64 l[i]!)∧(vaC l)[2*i+1]? = some (.int .i64 0)
 | [],i,h=>by simp at h
 | x::r,0,h=>by
   rw[vaC]
   exact⟨rfl,rfl⟩
 | x::r,i+1,h=>by
   have ih:=vaC_get r i (by simpa using h)
   rw[vaC]
   have e:(x::r)[i+1]! = r[i]! := by simp
   rw[e]
   exact⟨ih.1,ih.2⟩
theorem xn {l:List Int} (i:Nat) {p:Nat} {K:List Value→Prop} (hp:p=2*i) (hi:i<l.length) (h:K [.int .u64 l[i]!, .int .i64 0]):segK (vaC l) p 2 K:=by
 have g:=vaC_get l i hi
 subst hp
 exact⟨_,g.1,_,g.2,h⟩
def redN (l:List Int):Nat→Int
 | 0=>l[0]!
 | j+1=>IntKind.u64.wrap (redN l j+l[j+1]!)
def redF (l:List Int):Int:=redN l (l.length-1)
theorem c99h {H:List Blk} {R:Value→List Blk→Prop} (h : ∀ H' k,HS H none' [(true,k, .cells true 1 [fnV 176 []])] H' → R (fnV 280 [bxV k]) H'):qB Tryz.prog 99 [.int .i64 1, .int .i64 1] H R :=
 (g99a H).mono (by
   rintro v H' ⟨rfl,rfl⟩
   have:=qJ (B := .cells true 1 [fnV 176 []]) (K:=fun b H' => R (fnV 280 [bxV b]) H') (HS.start H none') (fun H1 b e1 l1 hs=>h H1 b hs)
   rw[qW,Nat.zero_add] at this
   exact this)
theorem c176 {H:List Blk} {a b:Int} {R:Value→List Blk→Prop} (h:R (.int .u64 (IntKind.u64.wrap (a+b))) H):qB Tryz.prog 176 [.int .u64 a, .int .u64 b] H R:=by
 refine ql tok Tryz.call176 Tryz.func176 rfl Tryz.ntmps176 rfl (by simp) ?_
 have hs:=HS.start H none'
 repeat' (first|refine nX ?_|refine nY (fun K0 hK0=>?_)|refine bH ?_|refine bM ?_|refine iS hs ?_|refine rS hs ?_|refine eI _ (aI rfl ?_)|refine qg ?_|refine qf ?_|refine qc ?_|refine oJ ?_|refine nN hs (fun _ _ hs=>?_)|refine nS hs (fun _ _ hs=>?_)|refine sX hs (fun _ hs=>?_)|(refine hK0 _ _ ?_;clear hK0)|fail)
 exact h
theorem c280 {H:List Blk} {a b:Int} {k:Nat} {w:Bool} {R:Value→List Blk→Prop} (hk:bget H k=some (.cells w 1 [fnV 176 []])) (h : ∀ H',HS H none' [] H' → R (.agg ⟨[.int .u64 (IntKind.u64.wrap (a+b)), .int .i64 0]⟩) H') :
 qB Tryz.prog 280 [.agg ⟨[.int .u64 a, .int .i64 0]⟩, .agg ⟨[.int .u64 b, .int .i64 0]⟩,bxV k] H R:=by
 have hs:=(HS.start H none').add (c:=false) hk (fun i p hi=>by simp at hi) (fun h=>by cases h)
 refine ql tok Tryz.call280 Tryz.func280 rfl Tryz.ntmps280 rfl (by simp) ?_
 refine qJ hs (fun H1 b1 e1 l1 hs=>?_)
 refine qJ hs (fun H2 b2 e2 l2 hs=>?_)
 refine qJ hs (fun H3 b3 e3 l3 hs=>?_)
 refine qH (fun _ hKs=>hKs _ _ ?_);clear hKs
 clear e1 l1 e2 l2 e3 l3
 repeat' (first|refine nX ?_|refine nY (fun K0 hK0=>?_)|refine bH ?_|refine bM ?_|refine iS hs ?_|refine rS hs ?_|refine eI _ (aI rfl ?_)|refine qg ?_|refine qf ?_|refine qc ?_|refine oJ ?_|refine nN hs (fun _ _ hs=>?_)|refine nS hs (fun _ _ hs=>?_)|refine sX hs (fun _ hs=>?_)|(refine hK0 _ _ ?_;clear hK0)|fail)
 repeat' (first|refine nX ?_|refine nY (fun K0 hK0=>?_)|refine bH ?_|refine bM ?_|refine iS hs ?_|refine rS hs ?_|refine eI _ (aI rfl ?_)|refine qg ?_|refine qf ?_|refine qc ?_|refine oJ ?_|refine nN hs (fun _ _ hs=>?_)|refine nS hs (fun _ _ hs=>?_)|refine sX hs (fun _ hs=>?_)|(refine hK0 _ _ ?_;clear hK0)|fail)
 refine c176 ?_
 repeat' (first|refine nX ?_|refine nY (fun K0 hK0=>?_)|refine bH ?_|refine bM ?_|refine iS hs ?_|refine rS hs ?_|refine eI _ (aI rfl ?_)|refine qg ?_|refine qf ?_|refine qc ?_|refine oJ ?_|refine nN hs (fun _ _ hs=>?_)|refine nS hs (fun _ _ hs=>?_)|refine sX hs (fun _ hs=>?_)|(refine hK0 _ _ ?_;clear hK0)|fail)
 change resK T _ _ _ _
 refine vS (by rfl) (by rfl) (hs.get 0 rfl) (by rfl) ?_
 refine⟨_,rfl,_,rfl, ?_⟩
 exact h _ (qh hs)
theorem c98 {H:List Blk} {l:List Int} {k:Nat} {w:Bool} {R:Value→List Blk→Prop} (hk:bget H k=some (.cells w 2 (vaC l))) (hl:0<l.length) (hll:l.length≤1000000)
 (h : ∀ H',HS H none' [] H' → R (.agg ⟨[.int .u64 (redF l), .int .i64 0]⟩) H'):qB Tryz.prog 98 [.int .i64 1, .int .i64 1,sv k l.length] H R:=by
 have hs:=(HS.start H none').add (c:=false) hk (fun i p hi=>by simp at hi) (fun h=>by cases h)
 refine ql tok Tryz.call98 Tryz.func98 rfl Tryz.ntmps98 rfl (by simp) ?_
 refine qJ hs (fun H1 b1 e1 l1 hs=>?_)
 refine qH (fun _ hKs=>hKs _ _ ?_);clear hKs
 clear e1 l1
 repeat' (first|refine nX ?_|refine nY (fun K0 hK0=>?_)|refine bH ?_|refine bM ?_|refine iS hs ?_|refine rS hs ?_|refine eI _ (aI rfl ?_)|refine qg ?_|refine qf ?_|refine qc ?_|refine oJ ?_|refine nN hs (fun _ _ hs=>?_)|refine nS hs (fun _ _ hs=>?_)|refine sX hs (fun _ hs=>?_)|(refine dI (fun hc=>?_) (fun hc=>?_) <;> try (exfalso;omega))|(refine hK0 _ _ ?_;clear hK0)|fail)
 refine c99h (fun H2 f hn=>?_)
 have hs:=hs.call hn rfl
 clear hn
 repeat' (first|refine nX ?_|refine nY (fun K0 hK0=>?_)|refine bH ?_|refine bM ?_|refine iS hs ?_|refine rS hs ?_|refine eI _ (aI rfl ?_)|refine qg ?_|refine qf ?_|refine qc ?_|refine oJ ?_|refine nN hs (fun _ _ hs=>?_)|refine nS hs (fun _ _ hs=>?_)|refine sX hs (fun _ hs=>?_)|(refine dI (fun hc=>?_) (fun hc=>?_) <;> try (exfalso;omega))|(refine hK0 _ _ ?_;clear hK0)|fail)
 refine xn 0 rfl hl ?_
 repeat' (first|refine nX ?_|refine nY (fun K0 hK0=>?_)|refine bH ?_|refine bM ?_|refine iS hs ?_|refine rS hs ?_|refine eI _ (aI rfl ?_)|refine qg ?_|refine qf ?_|refine qc ?_|refine oJ ?_|refine nN hs (fun _ _ hs=>?_)|refine nS hs (fun _ _ hs=>?_)|refine sX hs (fun _ hs=>?_)|(refine dI (fun hc=>?_) (fun hc=>?_) <;> try (exfalso;omega))|(refine hK0 _ _ ?_;clear hK0)|fail)
 rename Nat=>x
 have hs:=hs.pick [0,1,2,3] (by decide) rfl (L' := [(true,x, .cells true 1 [.int .u64 (redN l 0), .int .i64 0]),(true,f, .cells true 1 [fnV 176 []]),(true,b1, .cells true 1 [.int .u64 0, .int .i64 0]),(false,k, .cells w 2 (vaC l))])
 refine⟨⟨hl,Nat.le_refl _⟩, ?_⟩
 repeat' (first|refine nX ?_|refine nY (fun K0 hK0=>?_)|refine bH ?_|refine bM ?_|refine iS hs ?_|refine rS hs ?_|refine eI _ (aI rfl ?_)|refine qg ?_|refine qf ?_|refine qc ?_|refine oJ ?_|refine nN hs (fun _ _ hs=>?_)|refine nS hs (fun _ _ hs=>?_)|refine sX hs (fun _ hs=>?_)|(refine dI (fun hc=>?_) (fun hc=>?_) <;> try (exfalso;omega))|(refine hK0 _ _ ?_;clear hK0)|fail)
 refine qX (α := List Blk × Nat) tok (fun z=>HS H none' [(true,x, .cells true 1 [.int .u64 (redN l z.2), .int .i64 0]),(true,f, .cells true 1 [fnV 176 []]),(true,b1, .cells true 1 [.int .u64 0, .int .i64 0]),(false,k, .cells w 2 (vaC l))] z.1∧z.2<l.length)
  (fun z=>[(6, .pointer (some ⟨b1,0,none⟩)),(10,fnV 280 [bxV f]),(11, .pointer (some ⟨x,0,none⟩)),(48, .slice (some ⟨k,2,none⟩) (l.length-1) (l.length-1)),(49, .int .i64 ((l.length-1:Nat):Int)),(50, .int .i64 (z.2:Int))]) (fun z=>z.1) (fun z=>l.length-z.2)
  (_,0) ⟨hs,hl⟩ (Or.inl ⟨⟨rfl,rfl,rfl,rfl,rfl,rfl,trivial⟩,rfl⟩) ?_
 clear hs
 rintro ⟨H9,j⟩ ⟨hs,hj⟩
 dsimp only at hs hj ⊢
 repeat' (first|refine nX ?_|refine nY (fun K0 hK0=>?_)|refine bH ?_|refine bM ?_|refine iS hs ?_|refine rS hs ?_|refine eI _ (aI rfl ?_)|refine qg ?_|refine qf ?_|refine qc ?_|refine oJ ?_|refine nN hs (fun _ _ hs=>?_)|refine nS hs (fun _ _ hs=>?_)|refine sX hs (fun _ hs=>?_)|(refine hK0 _ _ ?_;clear hK0)|fail)
 refine And.intro (fun hc=>?_) (fun hc=>?_)
 ·have hjl:j+1<l.length:=by simp at hc;omega
  clear hc
  repeat' (first|refine nX ?_|refine nY (fun K0 hK0=>?_)|refine bH ?_|refine bM ?_|refine iS hs ?_|refine rS hs ?_|refine eI _ (aI rfl ?_)|refine qg ?_|refine qf ?_|refine qc ?_|refine oJ ?_|refine nN hs (fun _ _ hs=>?_)|refine nS hs (fun _ _ hs=>?_)|refine sX hs (fun _ hs=>?_)|(refine hK0 _ _ ?_;clear hK0)|fail)
  refine xn (j+1) (by show 2+j*2=_;omega) hjl ?_
  repeat' (first|refine nX ?_|refine nY (fun K0 hK0=>?_)|refine bH ?_|refine bM ?_|refine iS hs ?_|refine rS hs ?_|refine eI _ (aI rfl ?_)|refine qg ?_|refine qf ?_|refine qc ?_|refine oJ ?_|refine nN hs (fun _ _ hs=>?_)|refine nS hs (fun _ _ hs=>?_)|refine sX hs (fun _ hs=>?_)|(refine hK0 _ _ ?_;clear hK0)|fail)
  refine c280 (hs.get 2 rfl) (fun H5 hn=>?_)
  have hs:=qI hs hn
  clear hn
  repeat' (first|refine nX ?_|refine nY (fun K0 hK0=>?_)|refine bH ?_|refine bM ?_|refine iS hs ?_|refine rS hs ?_|refine eI _ (aI rfl ?_)|refine qg ?_|refine qf ?_|refine qc ?_|refine oJ ?_|refine nN hs (fun _ _ hs=>?_)|refine nS hs (fun _ _ hs=>?_)|refine sX hs (fun _ hs=>?_)|(refine hK0 _ _ ?_;clear hK0)|fail)
  exact⟨(_,j+1),⟨hs.pick [1,2,3,4] (by decide) rfl,hjl⟩,by dsimp only;omega,Or.inl ⟨⟨rfl,rfl,rfl,rfl,rfl,rfl,trivial⟩,rfl⟩⟩
 ·have hje:j=l.length-1:=by simp at hc;omega
  have hr:redN l j=redF l:=by rw[hje];rfl
  rw[hr] at hs
  repeat' (first|refine nX ?_|refine nY (fun K0 hK0=>?_)|refine bH ?_|refine bM ?_|refine iS hs ?_|refine rS hs ?_|refine eI _ (aI rfl ?_)|refine qg ?_|refine qf ?_|refine qc ?_|refine oJ ?_|refine nN hs (fun _ _ hs=>?_)|refine nS hs (fun _ _ hs=>?_)|refine sX hs (fun _ hs=>?_)|(refine hK0 _ _ ?_;clear hK0)|fail)
  change resK T _ _ _ _
  refine vS (by rfl) (by rfl) (hs.get 2 rfl) (by rfl) ?_
  refine⟨_,rfl,_,rfl, ?_⟩
  exact h _ (qh hs)
theorem c97 {H:List Blk} {l:List Int} {k:Nat} {w:Bool} {R:Value→List Blk→Prop} (hk:bget H k=some (.cells w 2 (vaC l))) (hll:l.length≤1000000)
 (h : ∀ H',HS H none' [] H' → R (.bool true) H'):qB Tryz.prog 97 [.int .i64 1,sv k l.length] H R:=by
 have hs:=(HS.start H none').add (c:=false) hk (fun i p hi=>by simp at hi) (fun h=>by cases h)
 refine ql tok Tryz.call97 Tryz.func97 rfl Tryz.ntmps97 rfl (by simp) ?_
 repeat' (first|refine nX ?_|refine nY (fun K0 hK0=>?_)|refine bH ?_|refine bM ?_|refine iS hs ?_|refine rS hs ?_|refine eI _ (aI rfl ?_)|refine qg ?_|refine qf ?_|refine qc ?_|refine oJ ?_|refine nN hs (fun _ _ hs=>?_)|refine nS hs (fun _ _ hs=>?_)|refine sX hs (fun _ hs=>?_)|(refine dI (fun hc=>?_) (fun hc=>?_) <;> try (exfalso;omega))|(refine hK0 _ _ ?_;clear hK0)|fail)
 refine qX (α := List Blk × Nat) tok (fun z=>HS H none' [(false,k, .cells w 2 (vaC l))] z.1∧z.2≤l.length)
  (fun z=>[(0, .int .i64 1),(7,sv k l.length),(8, .int .i64 (l.length:Int)),(9, .int .i64 (z.2:Int))]) (fun z=>z.1) (fun z=>l.length-z.2)
  (_,0) ⟨hs,Nat.zero_le _⟩ (Or.inl ⟨⟨rfl,rfl,rfl,rfl,trivial⟩,rfl⟩) ?_
 clear hs
 rintro ⟨H9,j⟩ ⟨hs,hj⟩
 dsimp only at hs hj ⊢
 repeat' (first|refine nX ?_|refine nY (fun K0 hK0=>?_)|refine bH ?_|refine bM ?_|refine iS hs ?_|refine rS hs ?_|refine eI _ (aI rfl ?_)|refine qg ?_|refine qf ?_|refine qc ?_|refine oJ ?_|refine nN hs (fun _ _ hs=>?_)|refine nS hs (fun _ _ hs=>?_)|refine sX hs (fun _ hs=>?_)|(refine hK0 _ _ ?_;clear hK0)|fail)
 refine And.intro (fun hc=>?_) (fun hc=>?_)
 ·have hjl:j<l.length:=by simp at hc;omega
  clear hc
  repeat' (first|refine nX ?_|refine nY (fun K0 hK0=>?_)|refine bH ?_|refine bM ?_|refine iS hs ?_|refine rS hs ?_|refine eI _ (aI rfl ?_)|refine qg ?_|refine qf ?_|refine qc ?_|refine oJ ?_|refine nN hs (fun _ _ hs=>?_)|refine nS hs (fun _ _ hs=>?_)|refine sX hs (fun _ hs=>?_)|(refine hK0 _ _ ?_;clear hK0)|fail)
  refine xn j (by show 0+j*2=_;omega) hjl ?_
  repeat' (first|refine nX ?_|refine nY (fun K0 hK0=>?_)|refine bH ?_|refine bM ?_|refine iS hs ?_|refine rS hs ?_|refine eI _ (aI rfl ?_)|refine qg ?_|refine qf ?_|refine qc ?_|refine oJ ?_|refine nN hs (fun _ _ hs=>?_)|refine nS hs (fun _ _ hs=>?_)|refine sX hs (fun _ hs=>?_)|(refine dI (fun hc=>?_) (fun hc=>?_) <;> try (exfalso;omega))|(refine hK0 _ _ ?_;clear hK0)|fail)
  exact⟨(_,j+1),⟨hs.pick [1] (by decide) rfl,hjl⟩,by dsimp only;omega,Or.inl ⟨⟨rfl,rfl,rfl,rfl,trivial⟩,rfl⟩⟩
 ·have hje:j=l.length:=by simp at hc;omega
  repeat' (first|refine nX ?_|refine nY (fun K0 hK0=>?_)|refine bH ?_|refine bM ?_|refine iS hs ?_|refine rS hs ?_|refine eI _ (aI rfl ?_)|refine qg ?_|refine qf ?_|refine qc ?_|refine oJ ?_|refine nN hs (fun _ _ hs=>?_)|refine nS hs (fun _ _ hs=>?_)|refine sX hs (fun _ hs=>?_)|(refine hK0 _ _ ?_;clear hK0)|fail)
  exact h _ (qh hs)
theorem c46 {H:List Blk} {R:Value→List Blk→Prop} (h : ∀ H',HS H none' [] H' → R (.int .i64 0) H'):qB Tryz.prog 46 [.int .i64 1, .int .i64 1] H R:=by
 refine ql tok Tryz.call46 Tryz.func46 rfl Tryz.ntmps46 rfl (by simp) ?_
 have hs:=HS.start H none'
 repeat' (first|refine nX ?_|refine nY (fun K0 hK0=>?_)|refine bH ?_|refine bM ?_|refine iS hs ?_|refine rS hs ?_|refine eI _ (aI rfl ?_)|refine qg ?_|refine qf ?_|refine qc ?_|refine oJ ?_|refine nN hs (fun _ _ hs=>?_)|refine nS hs (fun _ _ hs=>?_)|refine sX hs (fun _ hs=>?_)|(refine dI (fun hc=>?_) (fun hc=>?_) <;> try (exfalso;omega))|(refine hK0 _ _ ?_;clear hK0)|fail)
 refine c99h (fun H2 f hn=>?_)
 have hs:=qI hs (qh hn)
 clear hn
 repeat' (first|refine nX ?_|refine nY (fun K0 hK0=>?_)|refine bH ?_|refine bM ?_|refine iS hs ?_|refine rS hs ?_|refine eI _ (aI rfl ?_)|refine qg ?_|refine qf ?_|refine qc ?_|refine oJ ?_|refine nN hs (fun _ _ hs=>?_)|refine nS hs (fun _ _ hs=>?_)|refine sX hs (fun _ hs=>?_)|(refine dI (fun hc=>?_) (fun hc=>?_) <;> try (exfalso;omega))|(refine hK0 _ _ ?_;clear hK0)|fail)
 exact h _ (qh hs)
theorem c45 {H:List Blk} {l:List Int} {k:Nat} {w:Bool} {R:Value→List Blk→Prop} (hk:bget H k=some (.cells w 2 (vaC l))) (hl:0<l.length) (hll:l.length≤1000000)
 (h : ∀ H',HS H none' [] H' → R (.tuple ⟨[.agg ⟨[.int .u64 (redF l), .int .i64 0]⟩, .int .i64 0]⟩) H'):qB Tryz.prog 45 [.int .i64 1, .int .i64 1,sv k l.length] H R:=by
 have hs:=HS.start H none'
 refine ql tok Tryz.call45 Tryz.func45 rfl Tryz.ntmps45 rfl (by simp) ?_
 refine qJ hs (fun H1 b1 e1 l1 hs=>?_)
 refine qH (fun _ hKs=>hKs _ _ ?_);clear hKs
 clear e1 l1
 repeat' (first|refine nX ?_|refine nY (fun K0 hK0=>?_)|refine bH ?_|refine bM ?_|refine iS hs ?_|refine rS hs ?_|refine eI _ (aI rfl ?_)|refine qg ?_|refine qf ?_|refine qc ?_|refine oJ ?_|refine nN hs (fun _ _ hs=>?_)|refine nS hs (fun _ _ hs=>?_)|refine sX hs (fun _ hs=>?_)|(refine dI (fun hc=>?_) (fun hc=>?_) <;> try (exfalso;omega))|(refine hK0 _ _ ?_;clear hK0)|fail)
 refine c46 (fun H2 hn=>?_)
 have hs:=qI hs hn
 clear hn
 repeat' (first|refine nX ?_|refine nY (fun K0 hK0=>?_)|refine bH ?_|refine bM ?_|refine iS hs ?_|refine rS hs ?_|refine eI _ (aI rfl ?_)|refine qg ?_|refine qf ?_|refine qc ?_|refine oJ ?_|refine nN hs (fun _ _ hs=>?_)|refine nS hs (fun _ _ hs=>?_)|refine sX hs (fun _ hs=>?_)|(refine dI (fun hc=>?_) (fun hc=>?_) <;> try (exfalso;omega))|(refine hK0 _ _ ?_;clear hK0)|fail)
 refine c97 (zu (qh hs) hk) hll (fun H3 hn=>?_)
 have hs:=qI hs hn
 clear hn
 repeat' (first|refine nX ?_|refine nY (fun K0 hK0=>?_)|refine bH ?_|refine bM ?_|refine iS hs ?_|refine rS hs ?_|refine eI _ (aI rfl ?_)|refine qg ?_|refine qf ?_|refine qc ?_|refine oJ ?_|refine nN hs (fun _ _ hs=>?_)|refine nS hs (fun _ _ hs=>?_)|refine sX hs (fun _ hs=>?_)|(refine dI (fun hc=>?_) (fun hc=>?_) <;> try (exfalso;omega))|(refine hK0 _ _ ?_;clear hK0)|fail)
 refine c98 (zu (qh hs) hk) hl hll (fun H4 hn=>?_)
 have hs:=qI hs hn
 clear hn
 repeat' (first|refine nX ?_|refine nY (fun K0 hK0=>?_)|refine bH ?_|refine bM ?_|refine iS hs ?_|refine rS hs ?_|refine eI _ (aI rfl ?_)|refine qg ?_|refine qf ?_|refine qc ?_|refine oJ ?_|refine nN hs (fun _ _ hs=>?_)|refine nS hs (fun _ _ hs=>?_)|refine sX hs (fun _ hs=>?_)|(refine dI (fun hc=>?_) (fun hc=>?_) <;> try (exfalso;omega))|(refine hK0 _ _ ?_;clear hK0)|fail)
 change resK T _ _ _ _
 refine vS (by rfl) (by rfl) (hs.get 0 rfl) (by rfl) ?_
 refine⟨_,rfl,_,rfl, ?_⟩
 exact h _ (qh hs)
end Go.Af.Tryz
namespace Go.Af.Tryz
open Go Go.Proofs
set_option maxRecDepth 100000
set_option maxHeartbeats 4000000
attribute [local irreducible] awp qB qM qO qK qx isCells qp qo qG qC qi roundEnd

def vrC (rows:List (Nat × List Int)):List Value:=rows.map (fun q=>sv q.1 q.2.length)
def vrL (rows:List (Nat × List Int)):List (Bool × Nat × Blk):=rows.map (fun q=>(true,q.1, .cells true 2 (vaC q.2)))
@[simp] theorem vrC_length (rows:List (Nat × List Int)):(vrC rows).length=rows.length:=by simp[vrC]
theorem vrC_snoc (rows:List (Nat × List Int)) (q:Nat × List Int):vrC (rows ++ [q])=vrC rows ++ [sv q.1 q.2.length]:=by simp[vrC]
theorem vrL_snoc (rows:List (Nat × List Int)) (q:Nat × List Int):vrL (rows ++ [q])=vrL rows ++ [(true,q.1, .cells true 2 (vaC q.2))]:=by simp[vrL]
theorem vrL_all (rows:List (Nat × List Int)):(vrL rows).all (fun p=>p.1)=true:=by
 rw[List.all_eq_true]
 intro p hp
 obtain ⟨q,_,rfl⟩:=List.mem_map.1 hp
 rfl
theorem vrL_mem {rows:List (Nat × List Int)} {q:Nat × List Int} (h:q∈rows):(true,q.1,Blk.cells true 2 (vaC q.2))∈vrL rows:=List.mem_map.2 ⟨q,h,rfl⟩
theorem vrC_get {rows:List (Nat × List Int)} {r:Nat} {q:Nat × List Int} (h:rows[r]? = some q):(vrC rows)[r]? = some (sv q.1 q.2.length):=by
 unfold vrC
 rw[List.getElem?_map,h]
 rfl
def U64 (x:Int):Prop:=0≤x∧x<18446744073709551616
theorem ini_len {t:Tk} (kt:TkOk t) (r:Int):(iniF t r).length≤10000:=by
 unfold iniF
 split
 ·exact fst_len kt r
 ·simp
structure VS where
 H:List Blk
 ko:Nat
 rows:List (Nat × List Int)
 n:Nat
structure VS2 where
 H:List Blk
 kr:Nat
 row:List Int
 n:Nat
theorem c44 {H:List Blk} {t:Tk} {vs:List Int} {b c kv:Nat} {wv:Bool} {R:Value→List Blk→Prop} (kt:TkOk t) (gr:Gr H t.sz b) (hl:t.sz.length≤9223372036854775807) (hw:t.ws.length≤9223372036854775807)
 (hv:bget H kv=some (.cells wv 2 (vaC vs))) (hvl:vs.length≤300) (hvr : ∀ x∈vs,U64 x)
 (h : ∀ H' ko rows,HS H none' ((true,ko, .cells true 1 (vrC rows))::vrL rows) H' → rows.length=t.pr.toNat→(∀ (r:Nat) q,rows[r]? = some q→q.2.length=(iniF t r).length)→(∀ q∈rows, ∀ x∈q.2,U64 x)→R (sv ko rows.length) H') :
 qB Tryz.prog 44 [tkV t b c,sv kv vs.length] H R:=by
 have hpr:=kt.pr
 obtain ⟨p,hp⟩ : ∃ p:Nat,t.pr=p:=⟨t.pr.toNat,by omega⟩
 rw[hp,Int.toNat_natCast] at h
 refine ql tok Tryz.call44 Tryz.func44 rfl Tryz.ntmps44 rfl (by simp) ?_
 refine qJ (HS.start H none') (fun H1 b1 e1 l1 hs=>?_)
 refine qH (fun _ hKs=>hKs _ _ ?_);clear hKs
 clear e1 l1
 repeat' (first|refine nX ?_|refine nY (fun K0 hK0=>?_)|refine bH ?_|refine bM ?_|refine iS hs ?_|refine rS hs ?_|refine eI _ (aI rfl ?_)|refine qg ?_|refine qf ?_|refine qc ?_|refine oJ ?_|refine nN hs (fun _ _ hs=>?_)|refine nS hs (fun _ _ hs=>?_)|refine sX hs (fun _ hs=>?_)|(refine hK0 _ _ ?_;clear hK0)|fail)
 refine vO (α := VS) tok (fun z=>HS H none' ((true,z.ko, .cells true 1 (vrC z.rows))::(true,b1, .cells true 1 (tkC t b c))::vrL z.rows) z.H∧z.rows.length≤p∧z.n≤z.rows.length*10000∧(∀ (r:Nat) q,z.rows[r]? = some q→q.2.length=(iniF t r).length)∧(∀ q∈z.rows, ∀ x∈q.2,U64 x))
  (fun | ⟨_,ko,rows,n⟩=>[(1,sv kv vs.length),(2, .pointer (some ⟨b1,0,none⟩)),(5,sv ko rows.length),(6, .int .i64 (n:Int)),(7, .int .i64 (rows.length:Int))]) (fun | ⟨H',_,_,_⟩=>H') (fun z=>p-z.rows.length)
  ⟨H1 ++ [.cells true 1 (vrC [])],H1.length,[],0⟩ ⟨(hs.virt _).pick [0,1] (by decide) rfl,Nat.zero_le _,Nat.zero_le _,fun r q hq=>by simp at hq,fun q hq=>by cases hq⟩ ⟨⟨_,rfl, .rfl⟩,⟨_,rfl, .rfl⟩,⟨_,rfl, .nil _⟩,⟨_,rfl, .rfl⟩,⟨_,rfl, .rfl⟩,trivial⟩ (WkH.rfl.app _) ?_
 clear hs
 rintro ⟨H2,ko,rows,n⟩ ⟨hs,hrl,hn,hri,hru⟩
 dsimp only at hs hrl hn hri hru ⊢
 generalize hr:rows.length=r at *
 repeat' (first|refine nX ?_|refine nY (fun K0 hK0=>?_)|refine bH ?_|refine bM ?_|refine iS hs ?_|refine rS hs ?_|refine eI _ (aI rfl ?_)|refine qg ?_|refine qf ?_|refine qc ?_|refine oJ ?_|refine nN hs (fun _ _ hs=>?_)|refine nS hs (fun _ _ hs=>?_)|refine sX hs (fun _ hs=>?_)|(refine hK0 _ _ ?_;clear hK0)|fail)
 refine And.intro (fun hc=>?_) (fun hc=>?_)
 ·have hrp:r<p:=by simp at hc;omega
  clear hc
  repeat' (first|refine nX ?_|refine nY (fun K0 hK0=>?_)|refine bH ?_|refine bM ?_|refine iS hs ?_|refine rS hs ?_|refine eI _ (aI rfl ?_)|refine qg ?_|refine qf ?_|refine qc ?_|refine oJ ?_|refine nN hs (fun _ _ hs=>?_)|refine nS hs (fun _ _ hs=>?_)|refine sX hs (fun _ hs=>?_)|(refine hK0 _ _ ?_;clear hK0)|fail)
  refine c37 (gr.up (qh hs)) hl hw (fun H3 kl hn2=>?_)
  have hs:=qI hs (qh hn2)
  clear hn2
  repeat' (first|refine nX ?_|refine nY (fun K0 hK0=>?_)|refine bH ?_|refine bM ?_|refine iS hs ?_|refine rS hs ?_|refine eI _ (aI rfl ?_)|refine qg ?_|refine qf ?_|refine qc ?_|refine oJ ?_|refine nN hs (fun _ _ hs=>?_)|refine nS hs (fun _ _ hs=>?_)|refine sX hs (fun _ hs=>?_)|(refine hK0 _ _ ?_;clear hK0)|fail)
  have hil:=ini_len kt (r:Int)
  generalize hni:(iniF t (r:Int)).length=ni at hil
  refine vO (α := VS2) tok (fun z=>HS H none' ((true,z.kr, .cells true 2 (vaC z.row))::(true,ko, .cells true 1 (vrC rows))::(true,b1, .cells true 1 (tkC t b c))::vrL rows) z.H∧z.row.length≤ni∧z.n≤r*10000+z.row.length∧∀ x∈z.row,U64 x)
   (fun | ⟨_,kr,row,n⟩=>[(1,sv kv vs.length),(2, .pointer (some ⟨b1,0,none⟩)),(5,sv ko r),(6, .int .i64 (n:Int)),(7, .int .i64 (r:Int)),(8,sv kl ni),(10,sv kr row.length),(11, .int .i64 (row.length:Int))]) (fun | ⟨H',_,_,_⟩=>H') (fun z=>ni-z.row.length)
   ⟨H3 ++ [.cells true 2 (vaC [])],H3.length,[],n⟩ ⟨hs.virt _,Nat.zero_le _,by omega,fun q hq=>by cases hq⟩ ⟨⟨_,rfl, .rfl⟩,⟨_,rfl, .rfl⟩,⟨_,rfl, .rfl⟩,⟨_,rfl, .rfl⟩,⟨_,rfl, .rfl⟩,⟨_,rfl,by first | exact .rfl | (rw[← hni];exact .rfl)⟩,⟨_,rfl, .nil _⟩,⟨_,rfl, .rfl⟩,trivial⟩ (WkH.rfl.app _) ?_
  clear hs hn
  rintro ⟨H4,kr,row,n⟩ ⟨hs,hrw,hn,hrx⟩
  dsimp only at hs hrw hn hrx ⊢
  generalize hi:row.length=i at *
  repeat' (first|refine nX ?_|refine nY (fun K0 hK0=>?_)|refine bH ?_|refine bM ?_|refine iS hs ?_|refine rS hs ?_|refine eI _ (aI rfl ?_)|refine qg ?_|refine qf ?_|refine qc ?_|refine oJ ?_|refine nN hs (fun _ _ hs=>?_)|refine nS hs (fun _ _ hs=>?_)|refine sX hs (fun _ hs=>?_)|(refine hK0 _ _ ?_;clear hK0)|fail)
  refine And.intro (fun hc=>?_) (fun hc=>?_)
  ·have hin:i<ni:=by simp at hc;omega
   clear hc
   repeat' (first|refine nX ?_|refine nY (fun K0 hK0=>?_)|refine bH ?_|refine bM ?_|refine iS hs ?_|refine rS hs ?_|refine eI _ (aI rfl ?_)|refine qg ?_|refine qf ?_|refine qc ?_|refine oJ ?_|refine nN hs (fun _ _ hs=>?_)|refine nS hs (fun _ _ hs=>?_)|refine sX hs (fun _ hs=>?_)|(refine hK0 _ _ ?_;clear hK0)|fail)
   refine And.intro (fun hc=>?_) (fun hc=>?_)
   ·have hvp:0<vs.length:=by have:=of_decide_eq_true hc;omega
    clear hc
    repeat' (first|refine nX ?_|refine nY (fun K0 hK0=>?_)|refine bH ?_|refine bM ?_|refine iS hs ?_|refine rS hs ?_|refine eI _ (aI rfl ?_)|refine qg ?_|refine qf ?_|refine qc ?_|refine oJ ?_|refine nN hs (fun _ _ hs=>?_)|refine nS hs (fun _ _ hs=>?_)|refine sX hs (fun _ hs=>?_)|(refine hK0 _ _ ?_;clear hK0)|fail)
    have hml:n % vs.length<vs.length:=Nat.mod_lt _ hvp
    have hvb:=zu (qh hs) hv
    refine qm hvb ⟨n % vs.length,rfl,hml, ?_⟩
    repeat' (first|refine nX ?_|refine nY (fun K0 hK0=>?_)|refine bH ?_|refine bM ?_|refine iS hs ?_|refine rS hs ?_|refine eI _ (aI rfl ?_)|refine qg ?_|refine qf ?_|refine qc ?_|refine oJ ?_|refine nN hs (fun _ _ hs=>?_)|refine nS hs (fun _ _ hs=>?_)|refine sX hs (fun _ hs=>?_)|(refine hK0 _ _ ?_;clear hK0)|fail)
    refine qj hvb (xn (n % vs.length) (by show 0+n % vs.length*2=_;omega) hml ?_)
    repeat' (first|refine nX ?_|refine nY (fun K0 hK0=>?_)|refine bH ?_|refine bM ?_|refine iS hs ?_|refine rS hs ?_|refine eI _ (aI rfl ?_)|refine qg ?_|refine qf ?_|refine qc ?_|refine oJ ?_|refine nN hs (fun _ _ hs=>?_)|refine nS hs (fun _ _ hs=>?_)|refine sX hs (fun _ hs=>?_)|(refine hK0 _ _ ?_;clear hK0)|fail)
    refine app_hs hs 2 (us := [.int .u64 vs[n % vs.length]!, .int .i64 0]) rfl (by decide) (hs.get 0 rfl) rfl rfl (by show (vaC row).length=i*2;rw[zg,hi]) (by show (i+1)*(16+1)≤_;omega) (fun H5 kr' e4 l4 hs=>?_)
    clear e4 l4
    repeat' (first|refine nX ?_|refine nY (fun K0 hK0=>?_)|refine bH ?_|refine bM ?_|refine iS hs ?_|refine rS hs ?_|refine eI _ (aI rfl ?_)|refine qg ?_|refine qf ?_|refine qc ?_|refine oJ ?_|refine nN hs (fun _ _ hs=>?_)|refine nS hs (fun _ _ hs=>?_)|refine sX hs (fun _ hs=>?_)|(refine hK0 _ _ ?_;clear hK0)|fail)
    refine⟨⟨_,kr',row ++ [vs[n % vs.length]!],(n+1)⟩,⟨?_, ?_, ?_, ?_⟩, ?_,Or.inl ⟨⟨rfl,rfl,rfl, ?_,rfl,rfl, ?_, ?_,trivial⟩,rfl⟩⟩
    ·dsimp only
     rw[zh]
     exact hs.pickR (A := [_,_,_,_,_]) (R:=vrL rows) [2,3,4] (by decide) (A' := [_,_,_]) rfl
    ·dsimp only;rw[List.length_append,List.length_singleton,hi];exact hin
    ·dsimp only;rw[List.length_append,List.length_singleton,hi];omega
    ·intro x hx
     rcases List.mem_append.1 hx with h2 | h2
     ·exact hrx x h2
     ·rw[List.mem_singleton.1 h2];exact (by rw[getElem!_pos vs (n % vs.length) hml];exact hvr _ (List.getElem_mem hml))
    ·dsimp only;rw[List.length_append,List.length_singleton,hi];omega
    ·rfl
    ·dsimp only;rw[List.length_append,List.length_singleton,hi];rfl
    ·dsimp only;rw[List.length_append,List.length_singleton,hi];rfl
   ·have hvp:vs.length=0:=by have:=of_decide_eq_false hc;omega
    clear hc
    repeat' (first|refine nX ?_|refine nY (fun K0 hK0=>?_)|refine bH ?_|refine bM ?_|refine iS hs ?_|refine rS hs ?_|refine eI _ (aI rfl ?_)|refine qg ?_|refine qf ?_|refine qc ?_|refine oJ ?_|refine nN hs (fun _ _ hs=>?_)|refine nS hs (fun _ _ hs=>?_)|refine sX hs (fun _ hs=>?_)|(refine hK0 _ _ ?_;clear hK0)|fail)
    refine app_hs hs 2 (us := [.int .u64 0, .int .i64 0]) rfl (by decide) (hs.get 0 rfl) rfl rfl (by show (vaC row).length=i*2;rw[zg,hi]) (by show (i+1)*(16+1)≤_;omega) (fun H5 kr' e4 l4 hs=>?_)
    clear e4 l4
    repeat' (first|refine nX ?_|refine nY (fun K0 hK0=>?_)|refine bH ?_|refine bM ?_|refine iS hs ?_|refine rS hs ?_|refine eI _ (aI rfl ?_)|refine qg ?_|refine qf ?_|refine qc ?_|refine oJ ?_|refine nN hs (fun _ _ hs=>?_)|refine nS hs (fun _ _ hs=>?_)|refine sX hs (fun _ hs=>?_)|(refine hK0 _ _ ?_;clear hK0)|fail)
    refine⟨⟨_,kr',row ++ [0],n⟩,⟨?_, ?_, ?_, ?_⟩, ?_,Or.inl ⟨⟨rfl,rfl,rfl, ?_,rfl,rfl, ?_, ?_,trivial⟩,rfl⟩⟩
    ·dsimp only
     rw[zh]
     exact hs.pickR (A := [_,_,_,_,_]) (R:=vrL rows) [2,3,4] (by decide) (A' := [_,_,_]) rfl
    ·dsimp only;rw[List.length_append,List.length_singleton,hi];exact hin
    ·dsimp only;rw[List.length_append,List.length_singleton,hi];omega
    ·intro x hx
     rcases List.mem_append.1 hx with h2 | h2
     ·exact hrx x h2
     ·rw[List.mem_singleton.1 h2];exact (by unfold U64;omega)
    ·dsimp only;rw[List.length_append,List.length_singleton,hi];omega
    ·rfl
    ·dsimp only;rw[List.length_append,List.length_singleton,hi];rfl
    ·dsimp only;rw[List.length_append,List.length_singleton,hi];rfl
  ·have hie:i=ni:=by simp at hc;omega
   repeat' (first|refine nX ?_|refine nY (fun K0 hK0=>?_)|refine bH ?_|refine bM ?_|refine iS hs ?_|refine rS hs ?_|refine eI _ (aI rfl ?_)|refine qg ?_|refine qf ?_|refine qc ?_|refine oJ ?_|refine nN hs (fun _ _ hs=>?_)|refine nS hs (fun _ _ hs=>?_)|refine sX hs (fun _ hs=>?_)|(refine hK0 _ _ ?_;clear hK0)|fail)
   refine app_hs hs 2 (us := [sv kr i]) rfl (by decide) (hs.get 0 rfl) rfl rfl (by show (vrC rows).length=r*1;rw[vrC_length,hr];omega) (by show (r+1)*(24+1)≤_;omega) (fun H6 ko' e4 l4 hs=>?_)
   clear e4 l4
   repeat' (first|refine nX ?_|refine nY (fun K0 hK0=>?_)|refine bH ?_|refine bM ?_|refine iS hs ?_|refine rS hs ?_|refine eI _ (aI rfl ?_)|refine qg ?_|refine qf ?_|refine qc ?_|refine oJ ?_|refine nN hs (fun _ _ hs=>?_)|refine nS hs (fun _ _ hs=>?_)|refine sX hs (fun _ hs=>?_)|(refine hK0 _ _ ?_;clear hK0)|fail)
   refine⟨⟨_,ko',rows ++ [(kr,row)],n⟩,⟨?_, ?_, ?_, ?_, ?_⟩, ?_,Or.inl ⟨⟨rfl,rfl, ?_,rfl, ?_,trivial⟩,rfl⟩⟩
   ·dsimp only
    rw[vrC_snoc,vrL_snoc]
    dsimp only
    rw[hi]
    have:=hs.pickR (A := [_,_,_,_]) (R:=vrL rows) [2,3,1] (by decide) (A' := [(true,ko', .cells true 1 (vrC rows ++ [sv kr i])),(true,b1, .cells true 1 (tkC t b c)),(true,kr, .cells true 2 (vaC row))]) rfl
    exact this.perm ((List.perm_append_comm (l₁ := [_]) (l₂ := vrL rows)).cons _ |>.cons _)
   ·dsimp only;rw[List.length_append,List.length_singleton,hr];exact hrp
   ·dsimp only;rw[List.length_append,List.length_singleton,hr];omega
   ·intro r2 q hq
    dsimp only at hq
    rcases Nat.lt_or_ge r2 r with h2 | h2
    ·rw[List.getElem?_append_left (by omega)] at hq
     exact hri r2 q hq
    ·rw[List.getElem?_append_right (by omega),hr] at hq
     have h3:r2-r=0:=by
      have:=(List.getElem?_eq_some_iff.1 hq).1
      simp at this;omega
     rw[h3] at hq
     cases hq
     have:r2=r:=by omega
     rw[this,hni]
     dsimp only;omega
   ·intro q hq x hx
    rcases List.mem_append.1 hq with h2 | h2
    ·exact hru q h2 x hx
    ·rw[List.mem_singleton.1 h2] at hx;exact hrx x hx
   ·dsimp only;rw[List.length_append,List.length_singleton,hr];omega
   ·dsimp only;rw[List.length_append,List.length_singleton,hr];rfl
   ·dsimp only;rw[List.length_append,List.length_singleton,hr];rfl
 ·have hrp:r=p:=by simp at hc;omega
  repeat' (first|refine nX ?_|refine nY (fun K0 hK0=>?_)|refine bH ?_|refine bM ?_|refine iS hs ?_|refine rS hs ?_|refine eI _ (aI rfl ?_)|refine qg ?_|refine qf ?_|refine qc ?_|refine oJ ?_|refine nN hs (fun _ _ hs=>?_)|refine nS hs (fun _ _ hs=>?_)|refine sX hs (fun _ hs=>?_)|(refine hK0 _ _ ?_;clear hK0)|fail)
  have hs:=hs.pickR (A := [_,_]) (R:=vrL rows) [0] (by decide) (A' := [(true,ko, .cells true 1 (vrC rows))]) rfl
  rw[← hr]
  exact h _ ko rows hs (by omega) hri hru
end Go.Af.Tryz
namespace Go.Af.Tryz
open Go Go.Proofs
set_option maxRecDepth 100000
set_option maxHeartbeats 4000000
attribute [local irreducible] awp qB qM qO qK qx isCells qp qo qG qC qi roundEnd yj zl keyK vY

theorem keq105 {H:List Blk} {a b c d:Int} {K:Bool→Prop} (h:K (decide ([a,b] = [c,d]))):keq Tryz.prog T H 105 (.agg ⟨[.int .i64 a, .int .i64 b]⟩) (.agg ⟨[.int .i64 c, .int .i64 d]⟩) K :=
 ⟨[.i64, .i64],mkey105,h⟩
theorem keyK105 {a b:Int} {K:Prop} (h:K):keyK Tryz.prog T 105 (.agg ⟨[.int .i64 a, .int .i64 b]⟩) K:=by
 unfold keyK
 exact⟨_,mkey105,h⟩
abbrev Fm:=List ((Int × Int) × Int)
def efV (W:Fm):List MapEntry:=W.mapIdx fun i w=>⟨.agg ⟨[.int .i64 w.1.1, .int .i64 w.1.2]⟩, .agg ⟨[.int .u64 w.2, .int .i64 0]⟩,i⟩
abbrev fmV (W:Fm):Blk := .map true (efV W) W.length
theorem efV_get {W:Fm} {j:Nat} {e:MapEntry} (h:(efV W)[j]? = some e) : ∃ w,W[j]? = some w∧e=⟨.agg ⟨[.int .i64 w.1.1, .int .i64 w.1.2]⟩, .agg ⟨[.int .u64 w.2, .int .i64 0]⟩,j⟩:=by
 unfold efV at h
 rw[List.getElem?_mapIdx] at h
 cases hw:W[j]? with
 | none=>rw[hw] at h;cases h
 | some p=>rw[hw] at h;cases h;exact⟨p,rfl,rfl⟩
theorem efV_at {W:Fm} {j:Nat} {w:(Int × Int) × Int} (h:W[j]? = some w):(efV W)[j]? = some ⟨.agg ⟨[.int .i64 w.1.1, .int .i64 w.1.2]⟩, .agg ⟨[.int .u64 w.2, .int .i64 0]⟩,j⟩:=by
 unfold efV
 rw[List.getElem?_mapIdx,h]
 rfl
theorem mfind_F {H:List Blk} {W:Fm} {a b:Int} {K:Option Nat→Prop} (h : ∀ j w,W[j]? = some w→w.1=(a,b)→K (some j)) (h0:(∀ w∈W,w.1≠(a,b))→K none):vY Tryz.prog T H 105 (.agg ⟨[.int .i64 a, .int .i64 b]⟩) (efV W) 0 K:=by
 refine yw (fun e=>match e.key with | .agg ⟨[.int .i64 c, .int .i64 d]⟩=>decide ([a,b] = [c,d]) | _=>false) _ _ (fun e he K' hk=>?_) (fun j e hj ht _=>?_) (fun hf=>h0 (fun w hw e=>?_))
 ·obtain ⟨j,hj⟩:=List.getElem?_of_mem he
  obtain ⟨w,_,rfl⟩:=efV_get hj
  exact keq105 hk
 ·obtain ⟨w,hw,rfl⟩:=efV_get hj
  simp only[List.cons.injEq,and_true,decide_eq_true_eq] at ht
  rw[Nat.zero_add]
  exact h j w hw (Prod.ext ht.1.symm ht.2.symm)
 ·obtain ⟨j,hj⟩:=List.getElem?_of_mem hw
  have:=hf _ (List.mem_of_getElem? (efV_at hj))
  simp[e] at this
theorem efV_snoc (W:Fm) (a b x:Int):efV W ++ [⟨.agg ⟨[.int .i64 a, .int .i64 b]⟩, .agg ⟨[.int .u64 x, .int .i64 0]⟩,W.length⟩]=efV (W ++ [((a,b),x)]):=by unfold efV;rw[List.mapIdx_append];simp
theorem updF_hs {H0 H:List Blk} {o:Nat→Prop} {L:List (Bool × Nat × Blk)} (hs:HS H0 o L H) (i:Nat) {m:Nat} {W:Fm} {a b x:Int} {K:List Blk→Prop} (hi:L[i]? = some (true,m,fmV W)) (hn : ∀ w∈W,w.1≠(a,b))
 (kk : ∀ H',HS H0 o (L.set i (true,m,fmV (W ++ [((a,b),x)]))) H' → K H') :
 zl H m (fun es clock=>keyK Tryz.prog T 105 (.agg ⟨[.int .i64 a, .int .i64 b]⟩) (vY Tryz.prog T H 105 (.agg ⟨[.int .i64 a, .int .i64 b]⟩) es 0 (fun r=>match r with
  | some p=>wz H m (.map true (es.modify p (fun e=>{ e with key := .agg ⟨[.int .i64 a, .int .i64 b]⟩,val := .agg ⟨[.int .u64 x, .int .i64 0]⟩ })) clock) K
  | none=>wz H m (.map true (es ++ [⟨.agg ⟨[.int .i64 a, .int .i64 b]⟩, .agg ⟨[.int .u64 x, .int .i64 0]⟩,clock⟩]) (clock+1)) K))):=by
 refine xu (hs.get i hi) (keyK105 (mfind_F (fun j w hw e=>absurd e (hn w (List.mem_of_getElem? hw))) (fun _=>?_)))
 refine zB (hs.lt i hi) (fun H' h1 h2 h3=>kk H' ?_)
 rw[efV_snoc] at h2
 refine hs.set i hi h1 ?_ h3
 rw[h2];simp
theorem spn_at0 (t:Tk) (f g:Int) {i:Nat} (h:i<(spnF t f g).length):(spnF t f g)[i]! = f*t.pa+(i:Int):=by
 rw[getElem!_pos _ i h]
 unfold spnF at h ⊢
 rw[List.getElem_map,List.getElem_range]
theorem fst_at (t:Tk) (r:Int) : ∃ f:Int, ∀ i,i<(fstF t r).length→(fstF t r)[i]! = f+(i:Int):=by
 unfold fstF
 split
 ·exact⟨0,fun i h=>by simp at h⟩
 ·split
  ·exact⟨_,fun i h=>spn_at0 t _ _ h⟩
  ·split
   ·exact⟨_,fun i h=>spn_at0 t _ _ h⟩
   ·split
    ·exact⟨_,fun i h=>spn_at0 t _ _ h⟩
    ·exact⟨_,fun i h=>spn_at0 t _ _ h⟩
theorem fst_inj {t:Tk} {r:Int} {i j:Nat} (hi:i<(fstF t r).length) (hj:j<(fstF t r).length) (h:(fstF t r)[i]! = (fstF t r)[j]!):i=j:=by
 obtain ⟨f,hf⟩:=fst_at t r
 rw[hf i hi,hf j hj] at h
 omega
structure Wok (t:Tk) (rows:List (Nat × List Int)) (r i:Nat) (W:Fm):Prop where
 a : ∀ w∈W, ∃ r' i' q,(r' < r∨r' = r∧i' < i)∧rows[r']? = some q∧i' < (fstF t (r' : Int)).length∧w=(((r' : Int),(fstF t (r' : Int))[i']!),q.2[i']!)
 b : ∀ r' i' q,(r' < r∨r' = r∧i' < i)→rows[r']? = some q→i' < (fstF t (r' : Int)).length→(((r' : Int),(fstF t (r' : Int))[i']!),q.2[i']!)∈W
theorem Wok.fresh {t:Tk} {rows:List (Nat × List Int)} {r i:Nat} {W:Fm} (h:Wok t rows r i W) (hi:i<(fstF t (r:Int)).length) : ∀ w∈W,w.1≠((r:Int),(fstF t (r:Int))[i]!):=by
 intro w hw e
 obtain ⟨r',i',q,hd,_,hi',rfl⟩:=h.a w hw
 simp only[Prod.mk.injEq] at e
 have hr:r' = r:=by omega
 subst hr
 have:=fst_inj hi' hi e.2
 omega
theorem Wok.next {t:Tk} {rows:List (Nat × List Int)} {r i:Nat} {W:Fm} {q:Nat × List Int} (h:Wok t rows r i W) (hq:rows[r]? = some q) (hi:i<(fstF t (r:Int)).length):Wok t rows r (i+1) (W ++ [(((r:Int),(fstF t (r:Int))[i]!),q.2[i]!)]):=by
 refine⟨fun w hw=>?_,fun r' i' q' hd hq' hi' => ?_⟩
 ·rcases List.mem_append.1 hw with h1 | h1
  ·obtain ⟨r',i',q',a,b⟩:=h.a w h1
   exact⟨r',i',q',by omega,b⟩
  ·exact⟨r,i,q,by omega,hq,hi,List.mem_singleton.1 h1⟩
 ·by_cases hn:r' < r∨r' = r∧i' < i
  ·exact List.mem_append_left _ (h.b r' i' q' hn hq' hi')
  ·obtain ⟨rfl,rfl⟩:r' = r∧i' = i:=by omega
   rw[hq] at hq'
   cases hq'
   exact List.mem_append_right _ List.mem_cons_self
theorem Wok.row {t:Tk} {rows:List (Nat × List Int)} {r:Nat} {W:Fm} (h:Wok t rows r (fstF t (r:Int)).length W):Wok t rows (r+1) 0 W:=by
 refine⟨fun w hw=>?_,fun r' i' q' hd hq' hi' => ?_⟩
 ·obtain ⟨r',i',q',a,b⟩:=h.a w hw
  exact⟨r',i',q',by omega,b⟩
 ·refine h.b r' i' q' ?_ hq' hi'
  by_cases e:r' = r
  ·subst e;exact .inr ⟨rfl,hi'⟩
  ·omega
end Go.Af.Tryz
namespace Go.Af.Tryz
open Go Go.Proofs
set_option maxRecDepth 100000
set_option maxHeartbeats 4000000
attribute [local irreducible] awp qB qM qO qK qx isCells qp qo qG qC qi roundEnd yj zl keyK vY

structure Vr (H:List Blk) (rows:List (Nat × List Int)) (ko:Nat):Prop where
 o : ∃ w,bget H ko=some (.cells w 1 (vrC rows))
 r : ∀ q∈rows, ∃ w,bget H q.1=some (.cells w 2 (vaC q.2))
theorem Vr.up {H H' : List Blk} {rows:List (Nat × List Int)} {ko:Nat} (v:Vr H rows ko) (h:HS H none' [] H'):Vr H' rows ko :=
 ⟨v.o.imp fun w hw=>zu h hw,fun q hq=>(v.r q hq).imp fun w hw=>zu h hw⟩
structure VW where
 H:List Blk
 r:Nat
 W:Fm
structure VW2 where
 H:List Blk
 i:Nat
 W:Fm
theorem c76 {H:List Blk} {t:Tk} {op kind:Int} {rows:List (Nat × List Int)} {b c ko:Nat} {R:Value→List Blk→Prop} (kt:TkOk t) (vr:Vr H rows ko) (hp:(rows.length:Int)=t.pr)
 (hri : ∀ (r:Nat) q,rows[r]? = some q→q.2.length=(fstF t r).length) (hop:op=0∨op=1∧kind=1)
 (h : ∀ H' m W,HS H none' [(true,m,fmV W)] H' → Wok t rows rows.length 0 W→R (.tuple ⟨[.map (some m), .int .i64 0]⟩) H') :
 qB Tryz.prog 76 [tkV t b c, .int .i64 op, .int .i64 kind,sv ko rows.length] H R:=by
 have hpr:=kt.pr
 refine ql tok Tryz.call76 Tryz.func76 rfl Tryz.ntmps76 rfl (by simp) ?_
 refine qJ (HS.start H none') (fun H1 b1 e1 l1 hs=>?_)
 refine qH (fun _ hKs=>hKs _ _ ?_);clear hKs
 clear e1 l1
 generalize hn:rows.length=n at *
 repeat' (first|refine nX ?_|refine nY (fun K0 hK0=>?_)|refine bH ?_|refine bM ?_|refine iS hs ?_|refine rS hs ?_|refine eI _ (aI rfl ?_)|refine qg ?_|refine qf ?_|refine qc ?_|refine oJ ?_|refine nN hs (fun _ _ hs=>?_)|refine nS hs (fun _ _ hs=>?_)|refine sX hs (fun _ hs=>?_)|(refine dI (fun hc=>?_) (fun hc=>?_) <;> try (exfalso;omega))|(refine hK0 _ _ ?_;clear hK0)|fail)
 rename Nat=>m
 have hs:=hs.pick [0,1] (by decide) rfl (L' := [(true,m,fmV []),(true,b1, .cells true 1 (tkC t b c))])
 refine qX (α := VW) tok (fun z=>HS H none' [(true,m,fmV z.W),(true,b1, .cells true 1 (tkC t b c))] z.H∧z.r≤n∧Wok t rows z.r 0 z.W)
  (fun z=>[(1, .int .i64 op),(2, .int .i64 kind),(3,sv ko n),(4, .pointer (some ⟨b1,0,none⟩)),(10, .map (some m)),(28,sv ko n),(29, .int .i64 (n:Int)),(30, .int .i64 (z.r:Int))]) (fun z=>z.H) (fun z=>n-z.r)
  ⟨_,0,[]⟩ ⟨hs,Nat.zero_le _,⟨fun w hw=>(by cases hw),fun r' i' q hd=>by rcases hd with h | h;exact absurd h (Nat.not_lt_zero _);exact absurd h.2 (Nat.not_lt_zero _)⟩⟩ (Or.inl ⟨⟨rfl,rfl,rfl,rfl,rfl,rfl,rfl,rfl,trivial⟩,rfl⟩) ?_
 clear hs
 rintro ⟨H3,r,W⟩ ⟨hs,hr,hW⟩
 dsimp only at hs hr hW ⊢
 repeat' (first|refine nX ?_|refine nY (fun K0 hK0=>?_)|refine bH ?_|refine bM ?_|refine iS hs ?_|refine rS hs ?_|refine eI _ (aI rfl ?_)|refine qg ?_|refine qf ?_|refine qc ?_|refine oJ ?_|refine nN hs (fun _ _ hs=>?_)|refine nS hs (fun _ _ hs=>?_)|refine sX hs (fun _ hs=>?_)|(refine hK0 _ _ ?_;clear hK0)|fail)
 refine And.intro (fun hc=>?_) (fun hc=>?_)
 ·have hrn:r<n:=by have:=of_decide_eq_true hc;omega
  clear hc
  obtain ⟨q,hq⟩ : ∃ q,rows[r]? = some q:=⟨_,List.getElem?_eq_getElem (by omega)⟩
  have hqm:=List.mem_of_getElem? hq
  obtain ⟨wo,hbo⟩:=(vr.up (qh hs)).o
  have hov:=vrC_get hq
  have hql:=hri r q hq
  have hfl:=fst_len kt (r:Int)
  obtain ⟨wr,hbr⟩:=(vr.up (qh hs)).r q hqm
  iterate 4 (
   all_goals try (first | refine wW hov ?_ | refine qm hbo ?_ | refine qj hbo ?_ | refine qm hbr ?_)
   all_goals try (
    repeat' (first|refine nX ?_|refine nY (fun K0 hK0=>?_)|refine bH ?_|refine bM ?_|refine iS hs ?_|refine rS hs ?_|refine eI _ (aI rfl ?_)|refine qg ?_|refine qf ?_|refine qc ?_|refine oJ ?_|refine nN hs (fun _ _ hs=>?_)|refine nS hs (fun _ _ hs=>?_)|refine sX hs (fun _ hs=>?_)|(refine hK0 _ _ ?_;clear hK0)|fail)
    ))
  refine c92 kt ⟨by omega,by omega⟩ (fun H4 kl hn2=>?_)
  have hs:=hs.call hn2 rfl
  clear hn2
  repeat' (first|refine nX ?_|refine nY (fun K0 hK0=>?_)|refine bH ?_|refine bM ?_|refine iS hs ?_|refine rS hs ?_|refine eI _ (aI rfl ?_)|refine qg ?_|refine qf ?_|refine qc ?_|refine oJ ?_|refine nN hs (fun _ _ hs=>?_)|refine nS hs (fun _ _ hs=>?_)|refine sX hs (fun _ hs=>?_)|(refine dI (fun hc=>?_) (fun hc=>?_) <;> try (exfalso;omega))|(refine hK0 _ _ ?_;clear hK0)|fail)
  generalize hfn:(fstF t (r:Int)).length=fn at hql hfl
  refine qX (α := VW2) tok (fun z=>HS H none' [(true,kl,rw' (fstF t (r:Int))),(true,m,fmV z.W),(true,b1, .cells true 1 (tkC t b c))] z.H∧z.i≤fn∧Wok t rows r z.i z.W)
   (fun z=>[(1, .int .i64 op),(2, .int .i64 kind),(3,sv ko n),(4, .pointer (some ⟨b1,0,none⟩)),(10, .map (some m)),(11, .int .i64 (r:Int)),(12,sv q.1 fn),(28,sv ko n),(29, .int .i64 (n:Int)),(30, .int .i64 (r:Int)),(43,sv kl fn),(44, .int .i64 (fn:Int)),(45, .int .i64 (z.i:Int))]) (fun z=>z.H) (fun z=>fn-z.i)
   ⟨_,0,W⟩ ⟨hs,Nat.zero_le _,hW⟩ (Or.inl ⟨⟨rfl,rfl,rfl,rfl,rfl,rfl,by rw[← hql];rfl,rfl,rfl,rfl,by rw[← hfn];rfl,by rw[← hfn];rfl,rfl,trivial⟩,rfl⟩) ?_
  clear hs hW hbo hbr
  rintro ⟨H5,i,W⟩ ⟨hs,hi,hW⟩
  dsimp only at hs hi hW ⊢
  repeat' (first|refine nX ?_|refine nY (fun K0 hK0=>?_)|refine bH ?_|refine bM ?_|refine iS hs ?_|refine rS hs ?_|refine eI _ (aI rfl ?_)|refine qg ?_|refine qf ?_|refine qc ?_|refine oJ ?_|refine nN hs (fun _ _ hs=>?_)|refine nS hs (fun _ _ hs=>?_)|refine sX hs (fun _ hs=>?_)|(refine hK0 _ _ ?_;clear hK0)|fail)
  refine And.intro (fun hc=>?_) (fun hc=>?_)
  ·have hin:i<fn:=by have:=of_decide_eq_true hc;omega
   clear hc
   obtain ⟨wr,hbr⟩:=(vr.up (qh hs)).r q hqm
   repeat' (first|refine nX ?_|refine nY (fun K0 hK0=>?_)|refine bH ?_|refine bM ?_|refine iS hs ?_|refine rS hs ?_|refine eI _ (aI rfl ?_)|refine qg ?_|refine qf ?_|refine qc ?_|refine oJ ?_|refine nN hs (fun _ _ hs=>?_)|refine nS hs (fun _ _ hs=>?_)|refine sX hs (fun _ hs=>?_)|(refine hK0 _ _ ?_;clear hK0)|fail)
   refine wU (by omega) ?_
   repeat' (first|refine nX ?_|refine nY (fun K0 hK0=>?_)|refine bH ?_|refine bM ?_|refine iS hs ?_|refine rS hs ?_|refine eI _ (aI rfl ?_)|refine qg ?_|refine qf ?_|refine qc ?_|refine oJ ?_|refine nN hs (fun _ _ hs=>?_)|refine nS hs (fun _ _ hs=>?_)|refine sX hs (fun _ hs=>?_)|(refine hK0 _ _ ?_;clear hK0)|fail)
   refine qm hbr ⟨i,rfl,by omega, ?_⟩
   repeat' (first|refine nX ?_|refine nY (fun K0 hK0=>?_)|refine bH ?_|refine bM ?_|refine iS hs ?_|refine rS hs ?_|refine eI _ (aI rfl ?_)|refine qg ?_|refine qf ?_|refine qc ?_|refine oJ ?_|refine nN hs (fun _ _ hs=>?_)|refine nS hs (fun _ _ hs=>?_)|refine sX hs (fun _ hs=>?_)|(refine hK0 _ _ ?_;clear hK0)|fail)
   refine qj hbr (xn i (by show 0+i*2=_;omega) (by omega) ?_)
   repeat' (first|refine nX ?_|refine nY (fun K0 hK0=>?_)|refine bH ?_|refine bM ?_|refine iS hs ?_|refine rS hs ?_|refine eI _ (aI rfl ?_)|refine qg ?_|refine qf ?_|refine qc ?_|refine oJ ?_|refine nN hs (fun _ _ hs=>?_)|refine nS hs (fun _ _ hs=>?_)|refine sX hs (fun _ hs=>?_)|(refine hK0 _ _ ?_;clear hK0)|fail)
   refine updF_hs hs 1 rfl (hW.fresh (by omega)) (fun H6 hs=>?_)
   repeat' (first|refine nX ?_|refine nY (fun K0 hK0=>?_)|refine bH ?_|refine bM ?_|refine iS hs ?_|refine rS hs ?_|refine eI _ (aI rfl ?_)|refine qg ?_|refine qf ?_|refine qc ?_|refine oJ ?_|refine nN hs (fun _ _ hs=>?_)|refine nS hs (fun _ _ hs=>?_)|refine sX hs (fun _ hs=>?_)|(refine hK0 _ _ ?_;clear hK0)|fail)
   exact⟨⟨_,i+1,_⟩,⟨hs,hin,hW.next hq (by omega)⟩,by dsimp only;omega,Or.inl ⟨⟨rfl,rfl,rfl,rfl,rfl,rfl,rfl,rfl,rfl,rfl,rfl,rfl,rfl,trivial⟩,rfl⟩⟩
  ·have hin:i=fn:=by have:=of_decide_eq_false hc;omega
   clear hc
   subst hin
   repeat' (first|refine nX ?_|refine nY (fun K0 hK0=>?_)|refine bH ?_|refine bM ?_|refine iS hs ?_|refine rS hs ?_|refine eI _ (aI rfl ?_)|refine qg ?_|refine qf ?_|refine qc ?_|refine oJ ?_|refine nN hs (fun _ _ hs=>?_)|refine nS hs (fun _ _ hs=>?_)|refine sX hs (fun _ hs=>?_)|(refine hK0 _ _ ?_;clear hK0)|fail)
   exact⟨⟨_,r+1,W⟩,⟨hs.pick [1,2] (by decide) rfl,hrn,Wok.row (by rw[hfn];exact hW)⟩,by dsimp only;omega,Or.inl ⟨⟨rfl,rfl,rfl,rfl,rfl,rfl,rfl,rfl,trivial⟩,rfl⟩⟩
 ·have hrn:r=n:=by have:=of_decide_eq_false hc;omega
  clear hc
  subst hrn
  repeat' (first|refine nX ?_|refine nY (fun K0 hK0=>?_)|refine bH ?_|refine bM ?_|refine iS hs ?_|refine rS hs ?_|refine eI _ (aI rfl ?_)|refine qg ?_|refine qf ?_|refine qc ?_|refine oJ ?_|refine nN hs (fun _ _ hs=>?_)|refine nS hs (fun _ _ hs=>?_)|refine sX hs (fun _ hs=>?_)|(refine hK0 _ _ ?_;clear hK0)|fail)
  refine qX (α := List Blk × Nat) tok (fun z=>HS H none' [(true,m,fmV W),(true,b1, .cells true 1 (tkC t b c))] z.1∧z.2≤r)
   (fun z=>[(1, .int .i64 op),(2, .int .i64 kind),(10, .map (some m)),(60,sv ko r),(61, .int .i64 (r:Int)),(62, .int .i64 (z.2:Int))]) (fun z=>z.1) (fun z=>r-z.2)
   (_,0) ⟨hs,Nat.zero_le _⟩ (Or.inl ⟨⟨rfl,rfl,rfl,rfl,rfl,rfl,trivial⟩,rfl⟩) ?_
  clear hs
  rintro ⟨H4,j⟩ ⟨hs,hj⟩
  dsimp only at hs hj ⊢
  repeat' (first|refine nX ?_|refine nY (fun K0 hK0=>?_)|refine bH ?_|refine bM ?_|refine iS hs ?_|refine rS hs ?_|refine eI _ (aI rfl ?_)|refine qg ?_|refine qf ?_|refine qc ?_|refine oJ ?_|refine nN hs (fun _ _ hs=>?_)|refine nS hs (fun _ _ hs=>?_)|refine sX hs (fun _ hs=>?_)|(refine hK0 _ _ ?_;clear hK0)|fail)
  refine And.intro (fun hc=>?_) (fun hc=>?_)
  ·have hjr:j<r:=by have:=of_decide_eq_true hc;omega
   clear hc
   obtain ⟨q,hq⟩ : ∃ q,rows[j]? = some q:=⟨_,List.getElem?_eq_getElem (by omega)⟩
   have hqm:=List.mem_of_getElem? hq
   obtain ⟨wo,hbo⟩:=(vr.up (qh hs)).o
   have hov:=vrC_get hq
   have hql:=hri j q hq
   have hfl:=fst_len kt (j:Int)
   obtain ⟨wr,hbr⟩:=(vr.up (qh hs)).r q hqm
   iterate 4 (
    all_goals try (first | refine wW hov ?_ | refine qm hbo ?_ | refine qj hbo ?_ | refine qm hbr ?_)
    all_goals try (
     repeat' (first|refine nX ?_|refine nY (fun K0 hK0=>?_)|refine bH ?_|refine bM ?_|refine iS hs ?_|refine rS hs ?_|refine eI _ (aI rfl ?_)|refine qg ?_|refine qf ?_|refine qc ?_|refine oJ ?_|refine nN hs (fun _ _ hs=>?_)|refine nS hs (fun _ _ hs=>?_)|refine sX hs (fun _ hs=>?_)|(refine hK0 _ _ ?_;clear hK0)|fail)
     ))
   generalize hqn:q.2.length=qn at *
   refine qX (α := List Blk × Nat) tok (fun z=>HS H none' [(true,m,fmV W),(true,b1, .cells true 1 (tkC t b c))] z.1∧z.2≤qn)
    (fun z=>[(1, .int .i64 op),(2, .int .i64 kind),(10, .map (some m)),(60,sv ko r),(61, .int .i64 (r:Int)),(62, .int .i64 (j:Int)),(66,sv q.1 qn),(67, .int .i64 (qn:Int)),(68, .int .i64 (z.2:Int))]) (fun z=>z.1) (fun z=>qn-z.2)
    (_,0) ⟨hs,Nat.zero_le _⟩ (Or.inl ⟨⟨rfl,rfl,rfl,rfl,rfl,rfl,rfl,rfl,rfl,trivial⟩,rfl⟩) ?_
   clear hs hbo hbr
   rintro ⟨H5,i⟩ ⟨hs,hi⟩
   dsimp only at hs hi ⊢
   repeat' (first|refine nX ?_|refine nY (fun K0 hK0=>?_)|refine bH ?_|refine bM ?_|refine iS hs ?_|refine rS hs ?_|refine eI _ (aI rfl ?_)|refine qg ?_|refine qf ?_|refine qc ?_|refine oJ ?_|refine nN hs (fun _ _ hs=>?_)|refine nS hs (fun _ _ hs=>?_)|refine sX hs (fun _ hs=>?_)|(refine hK0 _ _ ?_;clear hK0)|fail)
   refine And.intro (fun hc=>?_) (fun hc=>?_)
   ·have hin:i<qn:=by have:=of_decide_eq_true hc;omega
    clear hc
    obtain ⟨wr,hbr⟩:=(vr.up (qh hs)).r q hqm
    repeat' (first|refine nX ?_|refine nY (fun K0 hK0=>?_)|refine bH ?_|refine bM ?_|refine iS hs ?_|refine rS hs ?_|refine eI _ (aI rfl ?_)|refine qg ?_|refine qf ?_|refine qc ?_|refine oJ ?_|refine nN hs (fun _ _ hs=>?_)|refine nS hs (fun _ _ hs=>?_)|refine sX hs (fun _ hs=>?_)|(refine hK0 _ _ ?_;clear hK0)|fail)
    refine qm hbr ⟨i,rfl,by omega, ?_⟩
    repeat' (first|refine nX ?_|refine nY (fun K0 hK0=>?_)|refine bH ?_|refine bM ?_|refine iS hs ?_|refine rS hs ?_|refine eI _ (aI rfl ?_)|refine qg ?_|refine qf ?_|refine qc ?_|refine oJ ?_|refine nN hs (fun _ _ hs=>?_)|refine nS hs (fun _ _ hs=>?_)|refine sX hs (fun _ hs=>?_)|(refine hK0 _ _ ?_;clear hK0)|fail)
    refine qj hbr (xn i (by show 0+i*2=_;omega) (by omega) ?_)
    generalize q.2[i]! = x
    rcases hop with rfl | ⟨rfl,rfl⟩
    ·skip
     repeat' (first|refine nX ?_|refine nY (fun K0 hK0=>?_)|refine bH ?_|refine bM ?_|refine iS hs ?_|refine rS hs ?_|refine eI _ (aI rfl ?_)|refine qg ?_|refine qf ?_|refine qc ?_|refine oJ ?_|refine nN hs (fun _ _ hs=>?_)|refine nS hs (fun _ _ hs=>?_)|refine sX hs (fun _ hs=>?_)|(refine dI (fun hc=>?_) (fun hc=>?_) <;> try (exfalso;omega))|(refine hK0 _ _ ?_;clear hK0)|fail)
     exact⟨(_,i+1),⟨hs.pick [1,2] (by decide) rfl,hin⟩,by dsimp only;omega,Or.inl ⟨⟨rfl,rfl,rfl,rfl,rfl,rfl,rfl,rfl,rfl,trivial⟩,rfl⟩⟩
    ·skip
     repeat' (first|refine nX ?_|refine nY (fun K0 hK0=>?_)|refine bH ?_|refine bM ?_|refine iS hs ?_|refine rS hs ?_|refine eI _ (aI rfl ?_)|refine qg ?_|refine qf ?_|refine qc ?_|refine oJ ?_|refine nN hs (fun _ _ hs=>?_)|refine nS hs (fun _ _ hs=>?_)|refine sX hs (fun _ hs=>?_)|(refine dI (fun hc=>?_) (fun hc=>?_) <;> try (exfalso;omega))|(refine hK0 _ _ ?_;clear hK0)|fail)
     refine c45 (l := [x]) (hs.get 0 rfl) (by simp) (by simp) (fun H6 hn2=>?_)
     have hs:=qI hs hn2
     clear hn2
     repeat' (first|refine nX ?_|refine nY (fun K0 hK0=>?_)|refine bH ?_|refine bM ?_|refine iS hs ?_|refine rS hs ?_|refine eI _ (aI rfl ?_)|refine qg ?_|refine qf ?_|refine qc ?_|refine oJ ?_|refine nN hs (fun _ _ hs=>?_)|refine nS hs (fun _ _ hs=>?_)|refine sX hs (fun _ hs=>?_)|(refine dI (fun hc=>?_) (fun hc=>?_) <;> try (exfalso;omega))|(refine hK0 _ _ ?_;clear hK0)|fail)
     exact⟨(_,i+1),⟨hs.pick [3,4] (by decide) rfl,hin⟩,by dsimp only;omega,Or.inl ⟨⟨rfl,rfl,rfl,rfl,rfl,rfl,rfl,rfl,rfl,trivial⟩,rfl⟩⟩
   ·have hin:i=qn:=by have:=of_decide_eq_false hc;omega
    clear hc
    repeat' (first|refine nX ?_|refine nY (fun K0 hK0=>?_)|refine bH ?_|refine bM ?_|refine iS hs ?_|refine rS hs ?_|refine eI _ (aI rfl ?_)|refine qg ?_|refine qf ?_|refine qc ?_|refine oJ ?_|refine nN hs (fun _ _ hs=>?_)|refine nS hs (fun _ _ hs=>?_)|refine sX hs (fun _ hs=>?_)|(refine hK0 _ _ ?_;clear hK0)|fail)
    exact⟨(_,j+1),⟨hs,hjr⟩,by dsimp only;omega,Or.inl ⟨⟨rfl,rfl,rfl,rfl,rfl,rfl,trivial⟩,rfl⟩⟩
  ·have hjr:j=r:=by have:=of_decide_eq_false hc;omega
   clear hc
   repeat' (first|refine nX ?_|refine nY (fun K0 hK0=>?_)|refine bH ?_|refine bM ?_|refine iS hs ?_|refine rS hs ?_|refine eI _ (aI rfl ?_)|refine qg ?_|refine qf ?_|refine qc ?_|refine oJ ?_|refine nN hs (fun _ _ hs=>?_)|refine nS hs (fun _ _ hs=>?_)|refine sX hs (fun _ hs=>?_)|(refine hK0 _ _ ?_;clear hK0)|fail)
   exact h _ m W (hs.pick [0] (by decide) rfl) hW
end Go.Af.Tryz
