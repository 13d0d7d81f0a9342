/-
  Two rows are equal (equal); the error of a machine, as the reference has it (armadaref10.Check).
  Processes spread over the homes of a network (Spread), in the program and in the reference.
  Is it small enough (few); the law PlanChecks, as a call.
-/
import Derived.Test.YtgdbclgcbbbenaaGreatMPD
import Derived.Test.YtgdbclgcbbbenaaGreatMY2
import Derived.Test.YtgdbclgcbbbenaaGreatMG6
set_option linter.all false
namespace Go.Af.Tryz
open Go Go.Proofs Go.Af.Pl Co Ne
open Go.Af.Coll (St)
set_option maxRecDepth 100000
set_option maxHeartbeats 4000000
attribute [local irreducible] awp qo qA qN qI qG isCells qC qw qY ve qM roundEnd xK zN keyK wY zS xA
theorem c36 {H:List Blk} {xs ys:List Int} {a b:Nat} {wa wb:Bool} {R:Value->List Blk->Prop} (ha:bget H a=some (.cells wa 1 (ints xs))) (hb:bget H b=some (.cells wb 1 (ints ys))) (hl:xs.length<=1000000) (h:R (.bool (decide (xs=ys))) H):qo Tryz.prog 36 [sv a xs.length,sv b ys.length] H R:=by
 refine qj tok Tryz.call36 Tryz.func36 rfl Tryz.ntmps36 rfl (by simp) ?_
 refine qZ (fun _ hKs=>hKs _ _ ?_);clear hKs
 have hs:=HS.start H none'
 by_cases hq:xs.length=ys.length
 ·skip
  repeat' (first|refine nX ?_|refine nY (fun K0 hK0=>?_)|refine bH ?_|refine bM ?_|refine iS hs ?_|refine rS hs ?_|refine eI _ (aI rfl ?_)|refine qi ?_|refine qh ?_|refine qf ?_|refine oJ ?_|refine nN hs (fun _ _ hs=>?_)|refine nS hs (fun _ _ hs=>?_)|refine sX hs (fun _ hs=>?_)|(refine dI (fun hc=>?_) (fun hc=>?_) <;> try (exfalso;omega))|(refine hK0 _ _ ?_;clear hK0)|fail)
  refine xG (α := Nat) tok (fun i=>i<=xs.length/\∀ j,j<i->xs[j]? = ys[j]?) (fun i=>[(0,sv a xs.length),(1,sv b ys.length),(5, .int .i64 i)]) (fun _=>H) (fun i=>xs.length-i)
   0 ⟨Nat.zero_le _,fun j hj=>absurd hj (by omega)⟩ ⟨⟨_,rfl, .rfl⟩,⟨_,rfl, .rfl⟩,⟨_,rfl, .rfl⟩,trivial⟩ WkH.rfl ?_
  rintro i ⟨hi,he⟩
  try dsimp only at hi he ⊢
  repeat' (first|refine nX ?_|refine nY (fun K0 hK0=>?_)|refine bH ?_|refine bM ?_|refine iS hs ?_|refine rS hs ?_|refine eI _ (aI rfl ?_)|refine qi ?_|refine qh ?_|refine qf ?_|refine oJ ?_|refine nN hs (fun _ _ hs=>?_)|refine nS hs (fun _ _ hs=>?_)|refine sX hs (fun _ hs=>?_)|(refine hK0 _ _ ?_;clear hK0)|fail)
  refine And.intro (fun hc=>?_) (fun hc=>?_)
  ·have hlt:i<xs.length:=by simp at hc;omega
   clear hc
   repeat' (first|refine nX ?_|refine nY (fun K0 hK0=>?_)|refine bH ?_|refine bM ?_|refine iS hs ?_|refine rS hs ?_|refine eI _ (aI rfl ?_)|refine qi ?_|refine qh ?_|refine qf ?_|refine oJ ?_|refine nN hs (fun _ _ hs=>?_)|refine nS hs (fun _ _ hs=>?_)|refine sX hs (fun _ hs=>?_)|(refine hK0 _ _ ?_;clear hK0)|fail)
   refine wC tok mx [0,0,3,7,0,0,48,112,255] [false,false,false,false,true,true,true,true,false] (.first 0 (.first 1 (.first 2 (.first 3 (.first 4 (.first 5 (.first 6 (.first 7 (.first 8 .done))))))))) (by kernel_rfl) ?_
   refine wK (fun K0 hK0=>?_)
   have hlt2:i<ys.length:=by omega
   repeat' (first|refine iS hs ?_|refine rS hs ?_|refine eI _ (aI rfl ?_)|refine eI 0 (aI (by decide) ?_)|refine eI 1 (aI (by decide) ?_)|refine eI 2 (aI (by decide) ?_)|refine eI 3 (aI (by decide) ?_)|refine qi ?_|refine qh ?_|refine qf ?_|refine oJ ?_|refine vO hs (fun _ _ _ _ hs=>?_)|refine xx hs (fun _ _ _ _ hs=>?_)|refine sS hs 0 (fun _ _ hs=>?_)|refine sS hs 1 (fun _ _ hs=>?_)|refine sS hs 2 (fun _ _ hs=>?_)|refine sS hs 3 (fun _ _ hs=>?_)|refine sS hs 4 (fun _ _ hs=>?_)|refine sS hs 5 (fun _ _ hs=>?_)|refine vK tok (hs.get 0 rfl) ?_|refine qP hs 0 rfl (fun _ hs=>?_)|refine vk hs 0 rfl (fun _ hs=>?_)|refine qW hs 0 rfl (by intro h;cases h) (fun _ hs=>?_)|refine vK tok (hs.get 1 rfl) ?_|refine qP hs 1 rfl (fun _ hs=>?_)|refine vk hs 1 rfl (fun _ hs=>?_)|refine qW hs 1 rfl (by intro h;cases h) (fun _ hs=>?_)|refine vK tok (hs.get 2 rfl) ?_|refine qP hs 2 rfl (fun _ hs=>?_)|refine vk hs 2 rfl (fun _ hs=>?_)|refine qW hs 2 rfl (by intro h;cases h) (fun _ hs=>?_)|refine vK tok (hs.get 3 rfl) ?_|refine qP hs 3 rfl (fun _ hs=>?_)|refine vk hs 3 rfl (fun _ hs=>?_)|refine qW hs 3 rfl (by intro h;cases h) (fun _ hs=>?_)|refine vK tok (hs.get 4 rfl) ?_|refine qP hs 4 rfl (fun _ hs=>?_)|refine vk hs 4 rfl (fun _ hs=>?_)|refine qW hs 4 rfl (by intro h;cases h) (fun _ hs=>?_)|refine vK tok (hs.get 5 rfl) ?_|refine qP hs 5 rfl (fun _ hs=>?_)|refine vk hs 5 rfl (fun _ hs=>?_)|refine qW hs 5 rfl (by intro h;cases h) (fun _ hs=>?_)|first|(refine qg ha ?_)|(refine qg hb ?_)|(refine qc ha ?_)|(refine qc hb ?_)|(refine Ld_at hlt ?_)|(refine Ld_at hlt2 ?_)|(refine And.intro ?_ ?_)|exact trivial|refine hK0 _ _ ?_|fail)
   ·intro hc
    have hne:xs[i]! ≠ ys[i]! := by
     intro e
     rw[e] at hc
     simp at hc
    rw[decide_eq_false (fun e=>hne (by rw[e]))] at h
    repeat' (first|refine nX ?_|refine nY (fun K0 hK0=>?_)|refine bH ?_|refine bM ?_|refine iS hs ?_|refine rS hs ?_|refine eI _ (aI rfl ?_)|refine qi ?_|refine qh ?_|refine qf ?_|refine oJ ?_|refine nN hs (fun _ _ hs=>?_)|refine nS hs (fun _ _ hs=>?_)|refine sX hs (fun _ hs=>?_)|(refine hK0 _ _ ?_;clear hK0)|fail)
    exact h
   ·intro hc
    have heq:xs[i]! = ys[i]! := by
     by_cases e:xs[i]! = ys[i]!
     ·exact e
     ·rw[decide_eq_false e] at hc
      simp at hc
    have he2 : ∀ j,j<i+1->xs[j]? = ys[j]? := fun j hj=>by
     by_cases hji:j=i
     ·subst hji
      rw[getElem!_pos xs j hlt,getElem!_pos ys j hlt2] at heq
      rw[List.getElem?_eq_getElem hlt,List.getElem?_eq_getElem hlt2,heq]
     ·exact he j (by omega)
    repeat' (first|refine nX ?_|refine nY (fun K0 hK0=>?_)|refine bH ?_|refine bM ?_|refine iS hs ?_|refine rS hs ?_|refine eI _ (aI rfl ?_)|refine qi ?_|refine qh ?_|refine qf ?_|refine oJ ?_|refine nN hs (fun _ _ hs=>?_)|refine nS hs (fun _ _ hs=>?_)|refine sX hs (fun _ hs=>?_)|(refine hK0 _ _ ?_;clear hK0)|fail)
    exact⟨i+1,⟨hlt,he2⟩,by omega,Or.inl ⟨⟨rfl,rfl,rfl,trivial⟩,rfl⟩⟩
  ·have hie:i=xs.length:=by simp at hc;omega
   subst hie
   have he2:xs=ys:=by
    apply List.ext_getElem?
    intro j
    by_cases hj:j<xs.length
    ·exact he j hj
    ·rw[List.getElem?_eq_none (by omega),List.getElem?_eq_none (by omega)]
   rw[decide_eq_true he2] at h
   repeat' (first|refine nX ?_|refine nY (fun K0 hK0=>?_)|refine bH ?_|refine bM ?_|refine iS hs ?_|refine rS hs ?_|refine eI _ (aI rfl ?_)|refine qi ?_|refine qh ?_|refine qf ?_|refine oJ ?_|refine nN hs (fun _ _ hs=>?_)|refine nS hs (fun _ _ hs=>?_)|refine sX hs (fun _ hs=>?_)|(refine hK0 _ _ ?_;clear hK0)|fail)
   exact h
 ·rw[decide_eq_false (fun e=>hq (by rw[e]))] at h
  repeat' (first|refine nX ?_|refine nY (fun K0 hK0=>?_)|refine bH ?_|refine bM ?_|refine iS hs ?_|refine rS hs ?_|refine eI _ (aI rfl ?_)|refine qi ?_|refine qh ?_|refine qf ?_|refine oJ ?_|refine nN hs (fun _ _ hs=>?_)|refine nS hs (fun _ _ hs=>?_)|refine sX hs (fun _ hs=>?_)|(refine dI (fun hc=>?_) (fun hc=>?_) <;> try (exfalso;omega))|(refine hK0 _ _ ?_;clear hK0)|fail)
  exact h
theorem c16 {H:List Blk} {m:Mc} {b c:Nat} {R:Value->List Blk->Prop} (h : ∀ H',HS H none' [] H' -> R (mcV m b c) H'):qo Tryz.prog 16 [mcV m b c] H R:=by
 refine qj tok Tryz.call16 Tryz.func16 rfl Tryz.ntmps16 rfl (by simp) ?_
 refine vO (HS.start H none') (fun H1 b1 e1 l1 hs=>?_)
 refine vO hs (fun H2 b2 e2 l2 hs=>?_)
 refine qZ (fun _ hKs=>hKs _ _ ?_);clear hKs
 clear e1 l1 e2 l2
 repeat' (first|refine nX ?_|refine nY (fun K0 hK0=>?_)|refine bH ?_|refine bM ?_|refine iS hs ?_|refine rS hs ?_|refine eI _ (aI rfl ?_)|refine qi ?_|refine qh ?_|refine qf ?_|refine oJ ?_|refine nN hs (fun _ _ hs=>?_)|refine nS hs (fun _ _ hs=>?_)|refine sX hs (fun _ hs=>?_)|(refine hK0 _ _ ?_;clear hK0)|fail)
 change resK T _ _ _ _
 refine resK_agg (by rfl) (by rfl) (hs.get 0 rfl) (by rfl) ?_
 refine⟨_,rfl,_,rfl,_,rfl,_,rfl,_,rfl,_,rfl,_,rfl,_,rfl, ?_⟩
 exact h _ (qU hs)
theorem c90 {H:List Blk} {n:Int} {R:Value->List Blk->Prop} (h:R (.bool (decide (0<=n/\n<=1000000))) H):qo Tryz.prog 90 [.int .i64 n] H R:=by
 refine qj tok Tryz.call90 Tryz.func90 rfl Tryz.ntmps90 rfl (by simp) ?_
 refine qZ (fun _ hKs=>hKs _ _ ?_);clear hKs
 have hs:=HS.start H none'
 by_cases h0:0<=n
 ·by_cases h1:n<=1000000
  ·rw[decide_eq_true ⟨h0,h1⟩] at h
   repeat' (first|refine nX ?_|refine nY (fun K0 hK0=>?_)|refine bH ?_|refine bM ?_|refine iS hs ?_|refine rS hs ?_|refine eI _ (aI rfl ?_)|refine qi ?_|refine qh ?_|refine qf ?_|refine oJ ?_|refine nN hs (fun _ _ hs=>?_)|refine nS hs (fun _ _ hs=>?_)|refine sX hs (fun _ hs=>?_)|(refine dI (fun hc=>?_) (fun hc=>?_) <;> try (exfalso;omega))|(refine hK0 _ _ ?_;clear hK0)|fail)
   all_goals first | exact h | (exfalso;omega) | (rw[decide_eq_true h1];exact h)
  ·rw[decide_eq_false (by omega)] at h
   repeat' (first|refine nX ?_|refine nY (fun K0 hK0=>?_)|refine bH ?_|refine bM ?_|refine iS hs ?_|refine rS hs ?_|refine eI _ (aI rfl ?_)|refine qi ?_|refine qh ?_|refine qf ?_|refine oJ ?_|refine nN hs (fun _ _ hs=>?_)|refine nS hs (fun _ _ hs=>?_)|refine sX hs (fun _ hs=>?_)|(refine dI (fun hc=>?_) (fun hc=>?_) <;> try (exfalso;omega))|(refine hK0 _ _ ?_;clear hK0)|fail)
   all_goals first | exact h | (exfalso;omega) | (rw[decide_eq_false h1];exact h)
 ·rw[decide_eq_false (by omega)] at h
  repeat' (first|refine nX ?_|refine nY (fun K0 hK0=>?_)|refine bH ?_|refine bM ?_|refine iS hs ?_|refine rS hs ?_|refine eI _ (aI rfl ?_)|refine qi ?_|refine qh ?_|refine qf ?_|refine oJ ?_|refine nN hs (fun _ _ hs=>?_)|refine nS hs (fun _ _ hs=>?_)|refine sX hs (fun _ hs=>?_)|(refine dI (fun hc=>?_) (fun hc=>?_) <;> try (exfalso;omega))|(refine hK0 _ _ ?_;clear hK0)|fail)
  all_goals first | exact h | (exfalso;omega)
theorem c40 {H:List Blk} {m:Mc} {b c:Nat} {procs:Int} {R:Value->List Blk->Prop} (g:Mr H m b c) (hsd:m.hs.length<=9223372036854775807) (h : ∀ H',HS H none' [] H' -> R (.int .i64 (chkM m procs)) H'):qo Tryz.prog 40 [mcV m b c, .int .i64 procs] H R:=by
 obtain ⟨w1,hc0⟩:=g.h
 obtain ⟨w0,hb0⟩:=g.s
 refine qj tok Tryz.call40 Tryz.func40 rfl Tryz.ntmps40 rfl (by simp) ?_
 refine vO (HS.start H none') (fun H1 b2 e1 l1 hs=>?_)
 refine qZ (fun _ hKs=>hKs _ _ ?_);clear hKs
 clear e1 l1
 repeat' (first|refine nX ?_|refine nY (fun K0 hK0=>?_)|refine bH ?_|refine bM ?_|refine iS hs ?_|refine rS hs ?_|refine eI _ (aI rfl ?_)|refine qi ?_|refine qh ?_|refine qf ?_|refine oJ ?_|refine nN hs (fun _ _ hs=>?_)|refine nS hs (fun _ _ hs=>?_)|refine sX hs (fun _ hs=>?_)|(refine hK0 _ _ ?_;clear hK0)|fail)
 have hb:=zq (qU hs) hb0
 (first | refine Ne.c23 hb (Nat.le_refl _) ?_ | refine (Ne.c23 hb (Nat.le_refl _) ?_).call)
 unfold chkM at h
 cases hsh:qp m.kd m.sd m.ho with
 | none =>
   rw[hsh] at h
   unfold sizeV
   repeat' (first|refine nX ?_|refine nY (fun K0 hK0=>?_)|refine bH ?_|refine bM ?_|refine iS hs ?_|refine rS hs ?_|refine eI _ (aI rfl ?_)|refine qi ?_|refine qh ?_|refine qf ?_|refine oJ ?_|refine nN hs (fun _ _ hs=>?_)|refine nS hs (fun _ _ hs=>?_)|refine sX hs (fun _ hs=>?_)|(refine dI (fun hc=>?_) (fun hc=>?_) <;> try (exfalso;omega))|(refine hK0 _ _ ?_;clear hK0)|fail)
   exact h _ (qU hs)
 | some s =>
   rw[hsh] at h
   unfold sizeV
   dsimp only at h
   repeat' (first|refine nX ?_|refine nY (fun K0 hK0=>?_)|refine bH ?_|refine bM ?_|refine iS hs ?_|refine rS hs ?_|refine eI _ (aI rfl ?_)|refine qi ?_|refine qh ?_|refine qf ?_|refine oJ ?_|refine nN hs (fun _ _ hs=>?_)|refine nS hs (fun _ _ hs=>?_)|refine sX hs (fun _ hs=>?_)|(refine dI (fun hc=>?_) (fun hc=>?_) <;> try (exfalso;omega))|(refine hK0 _ _ ?_;clear hK0)|fail)
   (first | refine c90 ?_ | refine (c90 ?_).call)
   by_cases p1:0<=m.st/\m.st<=1000000
   rotate_left
   ·rw[decide_eq_false p1]
    rw[if_pos (by unfold prE;omega)] at h
    repeat' (first|refine nX ?_|refine nY (fun K0 hK0=>?_)|refine bH ?_|refine bM ?_|refine iS hs ?_|refine rS hs ?_|refine eI _ (aI rfl ?_)|refine qi ?_|refine qh ?_|refine qf ?_|refine oJ ?_|refine nN hs (fun _ _ hs=>?_)|refine nS hs (fun _ _ hs=>?_)|refine sX hs (fun _ hs=>?_)|(refine dI (fun hc=>?_) (fun hc=>?_) <;> try (exfalso;omega))|(refine hK0 _ _ ?_;clear hK0)|fail)
    exact h _ (qU hs)
   rw[decide_eq_true p1]
   repeat' (first|refine nX ?_|refine nY (fun K0 hK0=>?_)|refine bH ?_|refine bM ?_|refine iS hs ?_|refine rS hs ?_|refine eI _ (aI rfl ?_)|refine qi ?_|refine qh ?_|refine qf ?_|refine oJ ?_|refine nN hs (fun _ _ hs=>?_)|refine nS hs (fun _ _ hs=>?_)|refine sX hs (fun _ hs=>?_)|(refine dI (fun hc=>?_) (fun hc=>?_) <;> try (exfalso;omega))|(refine hK0 _ _ ?_;clear hK0)|fail)
   (first | refine c90 ?_ | refine (c90 ?_).call)
   by_cases p2:0<=m.hp/\m.hp<=1000000
   rotate_left
   ·rw[decide_eq_false p2]
    rw[if_pos (by unfold prE;omega)] at h
    repeat' (first|refine nX ?_|refine nY (fun K0 hK0=>?_)|refine bH ?_|refine bM ?_|refine iS hs ?_|refine rS hs ?_|refine eI _ (aI rfl ?_)|refine qi ?_|refine qh ?_|refine qf ?_|refine oJ ?_|refine nN hs (fun _ _ hs=>?_)|refine nS hs (fun _ _ hs=>?_)|refine sX hs (fun _ hs=>?_)|(refine dI (fun hc=>?_) (fun hc=>?_) <;> try (exfalso;omega))|(refine hK0 _ _ ?_;clear hK0)|fail)
    exact h _ (qU hs)
   rw[decide_eq_true p2]
   repeat' (first|refine nX ?_|refine nY (fun K0 hK0=>?_)|refine bH ?_|refine bM ?_|refine iS hs ?_|refine rS hs ?_|refine eI _ (aI rfl ?_)|refine qi ?_|refine qh ?_|refine qf ?_|refine oJ ?_|refine nN hs (fun _ _ hs=>?_)|refine nS hs (fun _ _ hs=>?_)|refine sX hs (fun _ hs=>?_)|(refine dI (fun hc=>?_) (fun hc=>?_) <;> try (exfalso;omega))|(refine hK0 _ _ ?_;clear hK0)|fail)
   (first | refine c90 ?_ | refine (c90 ?_).call)
   by_cases p3:0<=m.wd/\m.wd<=1000000
   rotate_left
   ·rw[decide_eq_false p3]
    rw[if_pos (by unfold prE;omega)] at h
    repeat' (first|refine nX ?_|refine nY (fun K0 hK0=>?_)|refine bH ?_|refine bM ?_|refine iS hs ?_|refine rS hs ?_|refine eI _ (aI rfl ?_)|refine qi ?_|refine qh ?_|refine qf ?_|refine oJ ?_|refine nN hs (fun _ _ hs=>?_)|refine nS hs (fun _ _ hs=>?_)|refine sX hs (fun _ hs=>?_)|(refine dI (fun hc=>?_) (fun hc=>?_) <;> try (exfalso;omega))|(refine hK0 _ _ ?_;clear hK0)|fail)
    exact h _ (qU hs)
   rw[decide_eq_true p3]
   repeat' (first|refine nX ?_|refine nY (fun K0 hK0=>?_)|refine bH ?_|refine bM ?_|refine iS hs ?_|refine rS hs ?_|refine eI _ (aI rfl ?_)|refine qi ?_|refine qh ?_|refine qf ?_|refine oJ ?_|refine nN hs (fun _ _ hs=>?_)|refine nS hs (fun _ _ hs=>?_)|refine sX hs (fun _ hs=>?_)|(refine dI (fun hc=>?_) (fun hc=>?_) <;> try (exfalso;omega))|(refine hK0 _ _ ?_;clear hK0)|fail)
   (first | refine c90 ?_ | refine (c90 ?_).call)
   by_cases p4:0<=m.jn/\m.jn<=1000000
   rotate_left
   ·rw[decide_eq_false p4]
    rw[if_pos (by unfold prE;omega)] at h
    repeat' (first|refine nX ?_|refine nY (fun K0 hK0=>?_)|refine bH ?_|refine bM ?_|refine iS hs ?_|refine rS hs ?_|refine eI _ (aI rfl ?_)|refine qi ?_|refine qh ?_|refine qf ?_|refine oJ ?_|refine nN hs (fun _ _ hs=>?_)|refine nS hs (fun _ _ hs=>?_)|refine sX hs (fun _ hs=>?_)|(refine dI (fun hc=>?_) (fun hc=>?_) <;> try (exfalso;omega))|(refine hK0 _ _ ?_;clear hK0)|fail)
    exact h _ (qU hs)
   rw[decide_eq_true p4]
   rw[if_neg (by unfold prE;omega)] at h
   repeat' (first|refine nX ?_|refine nY (fun K0 hK0=>?_)|refine bH ?_|refine bM ?_|refine iS hs ?_|refine rS hs ?_|refine eI _ (aI rfl ?_)|refine qi ?_|refine qh ?_|refine qf ?_|refine oJ ?_|refine nN hs (fun _ _ hs=>?_)|refine nS hs (fun _ _ hs=>?_)|refine sX hs (fun _ hs=>?_)|(refine hK0 _ _ ?_;clear hK0)|fail)
   by_cases hlen:(m.hs.length:Int)=procs
   rotate_left
   ·rw[if_pos hlen] at h
    repeat' (first|refine nX ?_|refine nY (fun K0 hK0=>?_)|refine bH ?_|refine bM ?_|refine iS hs ?_|refine rS hs ?_|refine eI _ (aI rfl ?_)|refine qi ?_|refine qh ?_|refine qf ?_|refine oJ ?_|refine nN hs (fun _ _ hs=>?_)|refine nS hs (fun _ _ hs=>?_)|refine sX hs (fun _ hs=>?_)|(refine dI (fun hc=>?_) (fun hc=>?_) <;> try (exfalso;omega))|(refine hK0 _ _ ?_;clear hK0)|fail)
    all_goals first | exact h _ (qU hs) | (exfalso;omega)
   rw[if_neg (fun e=>e hlen)] at h
   repeat' (first|refine nX ?_|refine nY (fun K0 hK0=>?_)|refine bH ?_|refine bM ?_|refine iS hs ?_|refine rS hs ?_|refine eI _ (aI rfl ?_)|refine qi ?_|refine qh ?_|refine qf ?_|refine oJ ?_|refine nN hs (fun _ _ hs=>?_)|refine nS hs (fun _ _ hs=>?_)|refine sX hs (fun _ hs=>?_)|(refine dI (fun hc=>?_) (fun hc=>?_) <;> try (exfalso;omega))|(refine hK0 _ _ ?_;clear hK0)|fail)
   all_goals try (exfalso;omega)
   refine qJ (α := K1) tok (fun z=>HS H none' [(true,b2, .cells true 1 (mcC m b c))] z.H/\z.i<=m.hs.length/\hostE (s.hm*m.ho) [] m.hs=hostE (s.hm*m.ho) (m.hs.take z.i) (m.hs.drop z.i))
    (fun z=>[(2, .pointer (some ⟨b2,0,none⟩)),(6, .int .i64 (s.hm*m.ho)),(8, .int .i64 (z.i:Int))]) (fun z=>z.H) (fun z=>m.hs.length-z.i)
    ⟨_,0⟩ ⟨hs,Nat.zero_le _,rfl⟩ (Or.inl ⟨⟨rfl,rfl,rfl,trivial⟩,rfl⟩) ?_
   clear hs
   rintro ⟨H6,i⟩ ⟨hs,hi,hE⟩
   dsimp only at hs hi hE ⊢
   have hcw:=zq (qU hs) hc0
   repeat' (first|refine nX ?_|refine nY (fun K0 hK0=>?_)|refine bH ?_|refine bM ?_|refine iS hs ?_|refine rS hs ?_|refine eI _ (aI rfl ?_)|refine qi ?_|refine qh ?_|refine qf ?_|refine oJ ?_|refine nN hs (fun _ _ hs=>?_)|refine nS hs (fun _ _ hs=>?_)|refine sX hs (fun _ hs=>?_)|(refine hK0 _ _ ?_;clear hK0)|fail)
   refine aI (fun hc=>?_) (fun hc=>?_)
   ·have hlt:i<m.hs.length:=by simp at hc;omega
    clear hc
    have hdr:m.hs.drop i=m.hs[i]! :: m.hs.drop (i+1):=by rw[getElem!_pos m.hs i hlt];exact List.drop_eq_getElem_cons hlt
    have htk:m.hs.take (i+1)=m.hs.take i ++ [m.hs[i]!]:=by rw[List.take_succ_eq_append_getElem hlt,getElem!_pos m.hs i hlt]
    rw[hdr,hostE,<- htk] at hE
    repeat' (first|refine nX ?_|refine nY (fun K0 hK0=>?_)|refine bH ?_|refine bM ?_|refine iS hs ?_|refine rS hs ?_|refine eI _ (aI rfl ?_)|refine qi ?_|refine qh ?_|refine qf ?_|refine oJ ?_|refine nN hs (fun _ _ hs=>?_)|refine nS hs (fun _ _ hs=>?_)|refine sX hs (fun _ hs=>?_)|(refine hK0 _ _ ?_;clear hK0)|fail)
    refine qg hcw ⟨i,rfl,hlt, ?_⟩
    repeat' (first|refine nX ?_|refine nY (fun K0 hK0=>?_)|refine bH ?_|refine bM ?_|refine iS hs ?_|refine rS hs ?_|refine eI _ (aI rfl ?_)|refine qi ?_|refine qh ?_|refine qf ?_|refine oJ ?_|refine nN hs (fun _ _ hs=>?_)|refine nS hs (fun _ _ hs=>?_)|refine sX hs (fun _ hs=>?_)|(refine hK0 _ _ ?_;clear hK0)|fail)
    refine qc hcw (Ld_at hlt ?_)
    by_cases hx0:m.hs[i]! < 0
    ·rw[if_pos (.inl hx0)] at hE
     rw[hE] at h
     repeat' (first|refine nX ?_|refine nY (fun K0 hK0=>?_)|refine bH ?_|refine bM ?_|refine iS hs ?_|refine rS hs ?_|refine eI _ (aI rfl ?_)|refine qi ?_|refine qh ?_|refine qf ?_|refine oJ ?_|refine nN hs (fun _ _ hs=>?_)|refine nS hs (fun _ _ hs=>?_)|refine sX hs (fun _ hs=>?_)|(refine dI (fun hc=>?_) (fun hc=>?_) <;> try (exfalso;omega))|(refine hK0 _ _ ?_;clear hK0)|fail)
     all_goals first | exact h _ (qU hs) | (exfalso;omega)
    repeat' (first|refine nX ?_|refine nY (fun K0 hK0=>?_)|refine bH ?_|refine bM ?_|refine iS hs ?_|refine rS hs ?_|refine eI _ (aI rfl ?_)|refine qi ?_|refine qh ?_|refine qf ?_|refine oJ ?_|refine nN hs (fun _ _ hs=>?_)|refine nS hs (fun _ _ hs=>?_)|refine sX hs (fun _ hs=>?_)|(refine dI (fun hc=>?_) (fun hc=>?_) <;> try (exfalso;omega))|(refine hK0 _ _ ?_;clear hK0)|fail)
    all_goals try (exfalso;omega)
    refine qg hcw ⟨i,rfl,hlt, ?_⟩
    repeat' (first|refine nX ?_|refine nY (fun K0 hK0=>?_)|refine bH ?_|refine bM ?_|refine iS hs ?_|refine rS hs ?_|refine eI _ (aI rfl ?_)|refine qi ?_|refine qh ?_|refine qf ?_|refine oJ ?_|refine nN hs (fun _ _ hs=>?_)|refine nS hs (fun _ _ hs=>?_)|refine sX hs (fun _ hs=>?_)|(refine hK0 _ _ ?_;clear hK0)|fail)
    refine qc hcw (Ld_at hlt ?_)
    by_cases hx:s.hm*m.ho<=m.hs[i]!
    ·rw[if_pos (.inr hx)] at hE
     rw[hE] at h
     repeat' (first|refine nX ?_|refine nY (fun K0 hK0=>?_)|refine bH ?_|refine bM ?_|refine iS hs ?_|refine rS hs ?_|refine eI _ (aI rfl ?_)|refine qi ?_|refine qh ?_|refine qf ?_|refine oJ ?_|refine nN hs (fun _ _ hs=>?_)|refine nS hs (fun _ _ hs=>?_)|refine sX hs (fun _ hs=>?_)|(refine dI (fun hc=>?_) (fun hc=>?_) <;> try (exfalso;omega))|(refine hK0 _ _ ?_;clear hK0)|fail)
     all_goals first | exact h _ (qU hs) | (exfalso;omega)
    rw[if_neg (by omega)] at hE
    repeat' (first|refine nX ?_|refine nY (fun K0 hK0=>?_)|refine bH ?_|refine bM ?_|refine iS hs ?_|refine rS hs ?_|refine eI _ (aI rfl ?_)|refine qi ?_|refine qh ?_|refine qf ?_|refine oJ ?_|refine nN hs (fun _ _ hs=>?_)|refine nS hs (fun _ _ hs=>?_)|refine sX hs (fun _ hs=>?_)|(refine dI (fun hc=>?_) (fun hc=>?_) <;> try (exfalso;omega))|(refine hK0 _ _ ?_;clear hK0)|fail)
    all_goals try (exfalso;omega)
    refine qJ (α := K1) tok (fun z=>HS H none' [(true,b2, .cells true 1 (mcC m b c))] z.H/\z.i<=i/\m.hs[i]! ∉ m.hs.take z.i)
     (fun z=>[(2, .pointer (some ⟨b2,0,none⟩)),(6, .int .i64 (s.hm*m.ho)),(8, .int .i64 (i:Int)),(9, .int .i64 (z.i:Int))]) (fun z=>z.H) (fun z=>i-z.i)
     ⟨_,0⟩ ⟨hs,Nat.zero_le _,by simp⟩ (Or.inl ⟨⟨rfl,rfl,rfl,rfl,trivial⟩,rfl⟩) ?_
    clear hs hcw
    rintro ⟨H7,k⟩ ⟨hs,hk,hN⟩
    dsimp only at hs hk hN ⊢
    have hcw:=zq (qU hs) hc0
    repeat' (first|refine nX ?_|refine nY (fun K0 hK0=>?_)|refine bH ?_|refine bM ?_|refine iS hs ?_|refine rS hs ?_|refine eI _ (aI rfl ?_)|refine qi ?_|refine qh ?_|refine qf ?_|refine oJ ?_|refine nN hs (fun _ _ hs=>?_)|refine nS hs (fun _ _ hs=>?_)|refine sX hs (fun _ hs=>?_)|(refine hK0 _ _ ?_;clear hK0)|fail)
    refine aI (fun hc=>?_) (fun hc=>?_)
    ·have hlt2:k<i:=by simp at hc;omega
     have hlt3:k<m.hs.length:=by omega
     clear hc
     have htk2:m.hs.take (k+1)=m.hs.take k ++ [m.hs[k]!]:=by rw[List.take_succ_eq_append_getElem hlt3,getElem!_pos m.hs k hlt3]
     repeat' (first|refine nX ?_|refine nY (fun K0 hK0=>?_)|refine bH ?_|refine bM ?_|refine iS hs ?_|refine rS hs ?_|refine eI _ (aI rfl ?_)|refine qi ?_|refine qh ?_|refine qf ?_|refine oJ ?_|refine nN hs (fun _ _ hs=>?_)|refine nS hs (fun _ _ hs=>?_)|refine sX hs (fun _ hs=>?_)|(refine hK0 _ _ ?_;clear hK0)|fail)
     refine wC tok mx [0,1,0,7,15,0,32,0,224,480,1023] [false,false,true,false,false,true,true,true,true,true,false] (.first 0 (.first 1 (.first 2 (.first 3 (.first 4 (.first 5 (.first 6 (.first 7 (.first 8 (.first 9 (.first 10 .done))))))))))) (by kernel_rfl) ?_
     refine wK (fun K0 hK0=>?_)
     repeat' (first|refine iS hs ?_|refine rS hs ?_|refine eI _ (aI rfl ?_)|refine eI 0 (aI (by decide) ?_)|refine eI 1 (aI (by decide) ?_)|refine eI 2 (aI (by decide) ?_)|refine eI 3 (aI (by decide) ?_)|refine qi ?_|refine qh ?_|refine qf ?_|refine oJ ?_|refine vO hs (fun _ _ _ _ hs=>?_)|refine xx hs (fun _ _ _ _ hs=>?_)|refine sS hs 0 (fun _ _ hs=>?_)|refine sS hs 1 (fun _ _ hs=>?_)|refine sS hs 2 (fun _ _ hs=>?_)|refine sS hs 3 (fun _ _ hs=>?_)|refine sS hs 4 (fun _ _ hs=>?_)|refine sS hs 5 (fun _ _ hs=>?_)|refine vK tok (hs.get 0 rfl) ?_|refine qP hs 0 rfl (fun _ hs=>?_)|refine vk hs 0 rfl (fun _ hs=>?_)|refine qW hs 0 rfl (by intro h;cases h) (fun _ hs=>?_)|refine vK tok (hs.get 1 rfl) ?_|refine qP hs 1 rfl (fun _ hs=>?_)|refine vk hs 1 rfl (fun _ hs=>?_)|refine qW hs 1 rfl (by intro h;cases h) (fun _ hs=>?_)|refine vK tok (hs.get 2 rfl) ?_|refine qP hs 2 rfl (fun _ hs=>?_)|refine vk hs 2 rfl (fun _ hs=>?_)|refine qW hs 2 rfl (by intro h;cases h) (fun _ hs=>?_)|refine vK tok (hs.get 3 rfl) ?_|refine qP hs 3 rfl (fun _ hs=>?_)|refine vk hs 3 rfl (fun _ hs=>?_)|refine qW hs 3 rfl (by intro h;cases h) (fun _ hs=>?_)|refine vK tok (hs.get 4 rfl) ?_|refine qP hs 4 rfl (fun _ hs=>?_)|refine vk hs 4 rfl (fun _ hs=>?_)|refine qW hs 4 rfl (by intro h;cases h) (fun _ hs=>?_)|refine vK tok (hs.get 5 rfl) ?_|refine qP hs 5 rfl (fun _ hs=>?_)|refine vk hs 5 rfl (fun _ hs=>?_)|refine qW hs 5 rfl (by intro h;cases h) (fun _ hs=>?_)|first|(refine qg hcw ?_)|(refine qc hcw ?_)|(refine Ld_at hlt3 ?_)|(refine Ld_at hlt ?_)|(refine And.intro ?_ ?_)|exact trivial|refine hK0 _ _ ?_|fail)
     ·intro hc
      have he:m.hs[k]! = m.hs[i]! := by simpa using hc
      have hin:m.hs[i]! ∈ m.hs.take i:=by
       rw[<- he]
       rw[getElem!_pos m.hs k hlt3]
       exact List.mem_take_iff_getElem.2 ⟨k,by omega,rfl⟩
      rw[if_pos hin] at hE
      rw[hE] at h
      repeat' (first|refine nX ?_|refine nY (fun K0 hK0=>?_)|refine bH ?_|refine bM ?_|refine iS hs ?_|refine rS hs ?_|refine eI _ (aI rfl ?_)|refine qi ?_|refine qh ?_|refine qf ?_|refine oJ ?_|refine nN hs (fun _ _ hs=>?_)|refine nS hs (fun _ _ hs=>?_)|refine sX hs (fun _ hs=>?_)|(refine hK0 _ _ ?_;clear hK0)|fail)
      exact h _ (qU hs)
     ·intro hc
      have he:m.hs[k]! ≠ m.hs[i]! := by
       intro e
       rw[e] at hc
       simp at hc
      repeat' (first|refine nX ?_|refine nY (fun K0 hK0=>?_)|refine bH ?_|refine bM ?_|refine iS hs ?_|refine rS hs ?_|refine eI _ (aI rfl ?_)|refine qi ?_|refine qh ?_|refine qf ?_|refine oJ ?_|refine nN hs (fun _ _ hs=>?_)|refine nS hs (fun _ _ hs=>?_)|refine sX hs (fun _ hs=>?_)|(refine hK0 _ _ ?_;clear hK0)|fail)
      refine⟨⟨_,k+1⟩,⟨hs,hlt2, ?_⟩,by dsimp only;omega,Or.inl ⟨⟨rfl,rfl,rfl,rfl,trivial⟩,rfl⟩⟩
      dsimp only
      rw[htk2]
      simp only[List.mem_append,List.mem_singleton,not_or]
      exact⟨hN,fun e=>he e.symm⟩
    ·have hki:k=i:=by simp at hc;omega
     subst hki
     rw[if_neg hN] at hE
     repeat' (first|refine nX ?_|refine nY (fun K0 hK0=>?_)|refine bH ?_|refine bM ?_|refine iS hs ?_|refine rS hs ?_|refine eI _ (aI rfl ?_)|refine qi ?_|refine qh ?_|refine qf ?_|refine oJ ?_|refine nN hs (fun _ _ hs=>?_)|refine nS hs (fun _ _ hs=>?_)|refine sX hs (fun _ hs=>?_)|(refine hK0 _ _ ?_;clear hK0)|fail)
     exact⟨⟨_,k+1⟩,⟨hs,hlt,hE⟩,by dsimp only;omega,Or.inl ⟨⟨rfl,rfl,rfl,trivial⟩,rfl⟩⟩
   ·have hie:i=m.hs.length:=by simp at hc;omega
    subst hie
    rw[List.drop_length] at hE
    rw[hE] at h
    repeat' (first|refine nX ?_|refine nY (fun K0 hK0=>?_)|refine bH ?_|refine bM ?_|refine iS hs ?_|refine rS hs ?_|refine eI _ (aI rfl ?_)|refine qi ?_|refine qh ?_|refine qf ?_|refine oJ ?_|refine nN hs (fun _ _ hs=>?_)|refine nS hs (fun _ _ hs=>?_)|refine sX hs (fun _ hs=>?_)|(refine dI (fun hc=>?_) (fun hc=>?_) <;> try (exfalso;omega))|(refine hK0 _ _ ?_;clear hK0)|fail)
    exact h _ (qU hs)
end Go.Af.Tryz
namespace Go.Af.Tryz
open Go Go.Proofs Go.Af.Pl Co
open Ne hiding none' bls
open Go.Af.Coll (St)
set_option maxRecDepth 100000
set_option maxHeartbeats 4000000
attribute [local irreducible] awp qo qA qN qI qG isCells qC qw qY ve qM roundEnd xK zN keyK wY zS xA
def spL (s:Sh) (ho:Int) (n:Nat):List Int:=(List.range n).map fun i=>s.snk[i % s.snk.length]! * ho+((i / s.snk.length:Nat):Int)
theorem spL_succ (s:Sh) (ho:Int) (n:Nat):spL s ho (n+1)=spL s ho n ++ [s.snk[n % s.snk.length]! * ho+((n / s.snk.length:Nat):Int)]:=by unfold spL;rw[List.range_succ,List.map_append];rfl
theorem spL_len (s:Sh) (ho:Int) (n:Nat):(spL s ho n).length=n:=by simp[spL]
def spE (o:Option Sh) (ho procs:Int):Int:=match o with
 | none=>2
 | some s=>if procs<0\/s.hm*ho<procs then 3 else 0
structure K2 where
 H:List Blk
 k:Nat
 i:Nat
theorem c37 {H:List Blk} {kd ho procs:Int} {sd:List Int} {b:Nat} {R:Value->List Blk->Prop} (hb : ∃ w,bget H b=some (.cells w 1 (ints sd)))
 (h0:spE (qp kd sd ho) ho procs≠0->∀ H',HS H none' [] H' -> R (.tuple ⟨[.slice none 0 0, .int .i64 (spE (qp kd sd ho) ho procs)]⟩) H')
 (h1 : ∀ (s:Sh) (n:Nat),qp kd sd ho=some s->procs=n->procs<=s.hm*ho->∀ H' k,HS H none' [(true,k,rw' (spL s ho n))] H' -> R (.tuple ⟨[sv k n, .int .i64 0]⟩) H'):qo Tryz.prog 37 [spV kd (sv b sd.length) ho, .int .i64 procs] H R:=by
 obtain ⟨w0,hb0⟩:=hb
 refine qj tok Tryz.call37 Tryz.func37 rfl Tryz.ntmps37 rfl (by simp) ?_
 refine vO (HS.start H none') (fun H1 b2 e1 l1 hs=>?_)
 refine qZ (fun _ hKs=>hKs _ _ ?_);clear hKs
 clear e1 l1
 repeat' (first|refine nX ?_|refine nY (fun K0 hK0=>?_)|refine bH ?_|refine bM ?_|refine iS hs ?_|refine rS hs ?_|refine eI _ (aI rfl ?_)|refine qi ?_|refine qh ?_|refine qf ?_|refine oJ ?_|refine nN hs (fun _ _ hs=>?_)|refine nS hs (fun _ _ hs=>?_)|refine sX hs (fun _ hs=>?_)|(refine hK0 _ _ ?_;clear hK0)|fail)
 have hb:=zq (qU hs) hb0
 (first | refine c22 hb (Nat.le_refl _) ?_ | refine (c22 hb (Nat.le_refl _) ?_).call)
 unfold spE at h0
 cases hsh:qp kd sd ho with
 | none =>
   rw[hsh] at h0
   unfold sizeV
   repeat' (first|refine nX ?_|refine nY (fun K0 hK0=>?_)|refine bH ?_|refine bM ?_|refine iS hs ?_|refine rS hs ?_|refine eI _ (aI rfl ?_)|refine qi ?_|refine qh ?_|refine qf ?_|refine oJ ?_|refine nN hs (fun _ _ hs=>?_)|refine nS hs (fun _ _ hs=>?_)|refine sX hs (fun _ hs=>?_)|(refine dI (fun hc=>?_) (fun hc=>?_) <;> try (exfalso;omega))|(refine hK0 _ _ ?_;clear hK0)|fail)
   exact h0 (show (2:Int)≠0 by decide) _ (qU hs)
 | some s =>
   rw[hsh] at h0
   unfold sizeV
   dsimp only at h0
   have hok:=wP hsh
   have hho:=zB hsh
   have hbd:=sw_bd hok
   obtain ⟨L,hL⟩ : ∃ L:Nat,s.hm=L:=⟨s.hm.toNat,by omega⟩
   have hlen:=snk_len s
   rw[hL,Int.toNat_natCast] at hlen
   by_cases hp:procs<0\/s.hm*ho<procs
   ·rw[if_pos hp] at h0
    repeat' (first|refine nX ?_|refine nY (fun K0 hK0=>?_)|refine bH ?_|refine bM ?_|refine iS hs ?_|refine rS hs ?_|refine eI _ (aI rfl ?_)|refine qi ?_|refine qh ?_|refine qf ?_|refine oJ ?_|refine nN hs (fun _ _ hs=>?_)|refine nS hs (fun _ _ hs=>?_)|refine sX hs (fun _ hs=>?_)|(refine dI (fun hc=>?_) (fun hc=>?_) <;> try (exfalso;omega))|(refine hK0 _ _ ?_;clear hK0)|fail)
    all_goals first | exact h0 (by decide) _ (qU hs) | (exfalso;omega)
   clear h0
   obtain ⟨n,rfl⟩ : ∃ n:Nat,procs=n:=⟨procs.toNat,by omega⟩
   have hm8:s.hm*ho<=65536*8:=Int.mul_le_mul hbd.2.2 hho.2 (by omega) (by decide)
   have hn:(n:Int)<=524288:=by omega
   repeat' (first|refine nX ?_|refine nY (fun K0 hK0=>?_)|refine bH ?_|refine bM ?_|refine iS hs ?_|refine rS hs ?_|refine eI _ (aI rfl ?_)|refine qi ?_|refine qh ?_|refine qf ?_|refine oJ ?_|refine nN hs (fun _ _ hs=>?_)|refine nS hs (fun _ _ hs=>?_)|refine sX hs (fun _ hs=>?_)|(refine dI (fun hc=>?_) (fun hc=>?_) <;> try (exfalso;omega))|(refine hK0 _ _ ?_;clear hK0)|fail)
   all_goals try (exfalso;omega)
   refine g34 hsh hb (fun H2 k hn=>?_)
   have hs:=hs.call hn rfl
   repeat' (first|refine nX ?_|refine nY (fun K0 hK0=>?_)|refine bH ?_|refine bM ?_|refine iS hs ?_|refine rS hs ?_|refine eI _ (aI rfl ?_)|refine qi ?_|refine qh ?_|refine qf ?_|refine oJ ?_|refine nN hs (fun _ _ hs=>?_)|refine nS hs (fun _ _ hs=>?_)|refine sX hs (fun _ hs=>?_)|(refine hK0 _ _ ?_;clear hK0)|fail)
   refine xG (α := K2) tok (fun z=>HS H none' [(true,z.k,rw' (spL s ho z.i)),(true,k,rw' s.snk),(true,b2, .cells true 1 [.int .i64 kd,sv b sd.length, .int .i64 ho])] z.H/\z.i<=n)
    (fun z=>[(2,pV b2),(9,sv k s.snk.length),(11,sv z.k (spL s ho z.i).length),(35, .int .i64 n),(36, .int .i64 z.i)]) (fun z=>z.H) (fun z=>n-z.i)
    ⟨_ ++ [rw' []],_,0⟩ ⟨hs.virt _,Nat.zero_le _⟩ ⟨⟨_,rfl, .rfl⟩,⟨_,rfl, .rfl⟩,⟨_,rfl,WkV.nil _⟩,⟨_,rfl, .rfl⟩,⟨_,rfl, .rfl⟩,trivial⟩ (WkH.rfl.app _) ?_
   clear hs
   rintro ⟨H3,q,i⟩ ⟨hs,hi⟩
   dsimp only at hs hi ⊢
   repeat' (first|refine nX ?_|refine nY (fun K0 hK0=>?_)|refine bH ?_|refine bM ?_|refine iS hs ?_|refine rS hs ?_|refine eI _ (aI rfl ?_)|refine qi ?_|refine qh ?_|refine qf ?_|refine oJ ?_|refine nN hs (fun _ _ hs=>?_)|refine nS hs (fun _ _ hs=>?_)|refine sX hs (fun _ hs=>?_)|(refine hK0 _ _ ?_;clear hK0)|fail)
   refine aI (fun hc=>?_) (fun hc=>?_)
   ·have hlt:i<n:=by simp at hc;omega
    clear hc
    have hsn:=snk_in hok hL (i:=i % L) (Nat.mod_lt _ (by omega))
    have hsl:=spL_succ s ho i
    have hsl2:=spL_len s ho i
    rw[hlen] at hsl
    have hL0:(L:Int)≠0:=by omega
    have hmod:(i:Int).tmod (L:Int)=((i % L:Nat):Int):=by rw[Int.tmod_eq_emod_of_nonneg (by omega)];rfl
    have hdiv:(i:Int).tdiv (L:Int)=((i / L:Nat):Int):=by rw[Int.tdiv_eq_ediv_of_nonneg (by omega)];rfl
    have hlt2:i % L<L:=Nat.mod_lt _ (by omega)
    have hle2:i / L<=i:=Nat.div_le_self i L
    generalize i / L=qd at hsl hdiv hle2
    rw[hlen]
    repeat' (first|refine nX ?_|refine nY (fun K0 hK0=>?_)|refine bH ?_|refine bM ?_|refine iS hs ?_|refine rS hs ?_|refine eI _ (aI rfl ?_)|refine qi ?_|refine qh ?_|refine qf ?_|refine oJ ?_|refine nN hs (fun _ _ hs=>?_)|refine nS hs (fun _ _ hs=>?_)|refine sX hs (fun _ hs=>?_)|(refine hK0 _ _ ?_;clear hK0)|fail)
    refine wC tok mx [0,0,0,0,8,28,62,126,0,256,1022,0,0,4096,14336,32766,65534,131071,262143] [false,false,false,false,false,false,false,false,true,true,false,true,true,true,true,false,false,false,false] (.first 0 (.first 1 (.first 2 (.first 3 (.first 4 (.first 5 (.first 6 (.first 7 (.first 8 (.first 9 (.first 10 (.first 11 (.first 12 (.first 13 (.first 14 (.first 15 (.first 16 (.first 17 (.first 18 .done))))))))))))))))))) (by kernel_rfl) ?_
    refine wK (fun K0 hK0=>?_)
    have hltk:i % L<s.snk.length:=by omega
    have hmul0:I64 ((i:Int).tmod (L:Int)):=by rw[hmod];unfold I64;omega
    have hmul:0<=s.snk[i % L]! * ho/\s.snk[i % L]! * ho<=65536*8:=⟨Int.mul_nonneg hsn.1 (by omega),Int.mul_le_mul (by omega) hho.2 (by omega) (by decide)⟩
    have hdb:0<=(i:Int).tdiv (L:Int)/\(i:Int).tdiv (L:Int)<=524288:=by rw[hdiv];omega
    repeat' (first|refine iS hs ?_|refine rS hs ?_|refine eI _ (aI rfl ?_)|refine eI 0 (aI (by decide) ?_)|refine eI 1 (aI (by decide) ?_)|refine eI 2 (aI (by decide) ?_)|refine eI 3 (aI (by decide) ?_)|refine qi ?_|refine qh ?_|refine qf ?_|refine oJ ?_|refine vO hs (fun _ _ _ _ hs=>?_)|refine xx hs (fun _ _ _ _ hs=>?_)|refine sS hs 0 (fun _ _ hs=>?_)|refine sS hs 1 (fun _ _ hs=>?_)|refine sS hs 2 (fun _ _ hs=>?_)|refine sS hs 3 (fun _ _ hs=>?_)|refine sS hs 4 (fun _ _ hs=>?_)|refine sS hs 5 (fun _ _ hs=>?_)|refine vK tok (hs.get 0 rfl) ?_|refine qP hs 0 rfl (fun _ hs=>?_)|refine vk hs 0 rfl (fun _ hs=>?_)|refine qW hs 0 rfl (by intro h;cases h) (fun _ hs=>?_)|refine vK tok (hs.get 1 rfl) ?_|refine qP hs 1 rfl (fun _ hs=>?_)|refine vk hs 1 rfl (fun _ hs=>?_)|refine qW hs 1 rfl (by intro h;cases h) (fun _ hs=>?_)|refine vK tok (hs.get 2 rfl) ?_|refine qP hs 2 rfl (fun _ hs=>?_)|refine vk hs 2 rfl (fun _ hs=>?_)|refine qW hs 2 rfl (by intro h;cases h) (fun _ hs=>?_)|refine vK tok (hs.get 3 rfl) ?_|refine qP hs 3 rfl (fun _ hs=>?_)|refine vk hs 3 rfl (fun _ hs=>?_)|refine qW hs 3 rfl (by intro h;cases h) (fun _ hs=>?_)|refine vK tok (hs.get 4 rfl) ?_|refine qP hs 4 rfl (fun _ hs=>?_)|refine vk hs 4 rfl (fun _ hs=>?_)|refine qW hs 4 rfl (by intro h;cases h) (fun _ hs=>?_)|refine vK tok (hs.get 5 rfl) ?_|refine qP hs 5 rfl (fun _ hs=>?_)|refine vk hs 5 rfl (fun _ hs=>?_)|refine qW hs 5 rfl (by intro h;cases h) (fun _ hs=>?_)|first|(refine qg (hs.get 1 rfl) ⟨i % L,hmod,hltk, ?_⟩)|(refine Ld_at hltk ?_)|(refine app_hs hs 1 rfl (by decide) (hs.get 0 rfl) rfl rfl (by simp[hsl2]) (by simp only[hsl2];omega) (fun H4 k' _ _ hs=>?_))|refine hK0 _ _ ?_|fail)
    have hs:=hs.tail
    rw[hdiv] at hs
    refine⟨⟨H4,k',i+1⟩,⟨?_,hlt⟩,by dsimp only;omega,Or.inl ⟨⟨rfl,rfl,congrArg (fun z=>some (sv k' z)) (by rw[hsl];simp),rfl,rfl,trivial⟩,rfl⟩⟩
    dsimp only
    rw[hsl,rw',wo]
    exact hs
   ·have hie:i=n:=by simp at hc;omega
    subst hie
    repeat' (first|refine nX ?_|refine nY (fun K0 hK0=>?_)|refine bH ?_|refine bM ?_|refine iS hs ?_|refine rS hs ?_|refine eI _ (aI rfl ?_)|refine qi ?_|refine qh ?_|refine qf ?_|refine oJ ?_|refine nN hs (fun _ _ hs=>?_)|refine nS hs (fun _ _ hs=>?_)|refine sX hs (fun _ hs=>?_)|(refine dI (fun hc=>?_) (fun hc=>?_) <;> try (exfalso;omega))|(refine hK0 _ _ ?_;clear hK0)|fail)
    have e:=h1 s i hsh rfl (by omega) _ q (hs.pick [0] (by decide) rfl)
    rw[show sv q i=sv q (spL s ho i).length by rw[spL_len]] at e
    exact e
theorem c38 {H:List Blk} {kd ho procs:Int} {sd:List Int} {b:Nat} {R:Value->List Blk->Prop} (hb : ∃ w,bget H b=some (.cells w 1 (ints sd)))
 (h0:spE (qp kd sd ho) ho procs≠0->∀ H',HS H none' [] H' -> R (.tuple ⟨[.slice none 0 0, .int .i64 (spE (qp kd sd ho) ho procs)]⟩) H')
 (h1 : ∀ (s:Sh) (n:Nat),qp kd sd ho=some s->procs=n->procs<=s.hm*ho->∀ H' k,HS H none' [(true,k,rw' (spL s ho n))] H' -> R (.tuple ⟨[sv k n, .int .i64 0]⟩) H'):qo Tryz.prog 38 [spV kd (sv b sd.length) ho, .int .i64 procs] H R:=by
 obtain ⟨w0,hb0⟩:=hb
 refine qj tok Tryz.call38 Tryz.func38 rfl Tryz.ntmps38 rfl (by simp) ?_
 refine vO (HS.start H none') (fun H1 b2 e1 l1 hs=>?_)
 refine qZ (fun _ hKs=>hKs _ _ ?_);clear hKs
 clear e1 l1
 repeat' (first|refine nX ?_|refine nY (fun K0 hK0=>?_)|refine bH ?_|refine bM ?_|refine iS hs ?_|refine rS hs ?_|refine eI _ (aI rfl ?_)|refine qi ?_|refine qh ?_|refine qf ?_|refine oJ ?_|refine nN hs (fun _ _ hs=>?_)|refine nS hs (fun _ _ hs=>?_)|refine sX hs (fun _ hs=>?_)|(refine hK0 _ _ ?_;clear hK0)|fail)
 have hb:=zq (qU hs) hb0
 (first | refine Ne.c23 hb (Nat.le_refl _) ?_ | refine (Ne.c23 hb (Nat.le_refl _) ?_).call)
 unfold spE at h0
 cases hsh:qp kd sd ho with
 | none =>
   rw[hsh] at h0
   unfold sizeV
   repeat' (first|refine nX ?_|refine nY (fun K0 hK0=>?_)|refine bH ?_|refine bM ?_|refine iS hs ?_|refine rS hs ?_|refine eI _ (aI rfl ?_)|refine qi ?_|refine qh ?_|refine qf ?_|refine oJ ?_|refine nN hs (fun _ _ hs=>?_)|refine nS hs (fun _ _ hs=>?_)|refine sX hs (fun _ hs=>?_)|(refine dI (fun hc=>?_) (fun hc=>?_) <;> try (exfalso;omega))|(refine hK0 _ _ ?_;clear hK0)|fail)
   exact h0 (show (2:Int)≠0 by decide) _ (qU hs)
 | some s =>
   rw[hsh] at h0
   unfold sizeV
   dsimp only at h0
   have hok:=wP hsh
   have hho:=zB hsh
   have hbd:=sw_bd hok
   obtain ⟨L,hL⟩ : ∃ L:Nat,s.hm=L:=⟨s.hm.toNat,by omega⟩
   have hlen:=snk_len s
   rw[hL,Int.toNat_natCast] at hlen
   by_cases hp:procs<0\/s.hm*ho<procs
   ·rw[if_pos hp] at h0
    repeat' (first|refine nX ?_|refine nY (fun K0 hK0=>?_)|refine bH ?_|refine bM ?_|refine iS hs ?_|refine rS hs ?_|refine eI _ (aI rfl ?_)|refine qi ?_|refine qh ?_|refine qf ?_|refine oJ ?_|refine nN hs (fun _ _ hs=>?_)|refine nS hs (fun _ _ hs=>?_)|refine sX hs (fun _ hs=>?_)|(refine dI (fun hc=>?_) (fun hc=>?_) <;> try (exfalso;omega))|(refine hK0 _ _ ?_;clear hK0)|fail)
    all_goals first | exact h0 (by decide) _ (qU hs) | (exfalso;omega)
   clear h0
   obtain ⟨n,rfl⟩ : ∃ n:Nat,procs=n:=⟨procs.toNat,by omega⟩
   have hm8:s.hm*ho<=65536*8:=Int.mul_le_mul hbd.2.2 hho.2 (by omega) (by decide)
   have hn:(n:Int)<=524288:=by omega
   repeat' (first|refine nX ?_|refine nY (fun K0 hK0=>?_)|refine bH ?_|refine bM ?_|refine iS hs ?_|refine rS hs ?_|refine eI _ (aI rfl ?_)|refine qi ?_|refine qh ?_|refine qf ?_|refine oJ ?_|refine nN hs (fun _ _ hs=>?_)|refine nS hs (fun _ _ hs=>?_)|refine sX hs (fun _ hs=>?_)|(refine dI (fun hc=>?_) (fun hc=>?_) <;> try (exfalso;omega))|(refine hK0 _ _ ?_;clear hK0)|fail)
   all_goals try (exfalso;omega)
   refine g35 hsh hb (fun H2 k hn=>?_)
   have hs:=hs.call hn rfl
   repeat' (first|refine nX ?_|refine nY (fun K0 hK0=>?_)|refine bH ?_|refine bM ?_|refine iS hs ?_|refine rS hs ?_|refine eI _ (aI rfl ?_)|refine qi ?_|refine qh ?_|refine qf ?_|refine oJ ?_|refine nN hs (fun _ _ hs=>?_)|refine nS hs (fun _ _ hs=>?_)|refine sX hs (fun _ hs=>?_)|(refine hK0 _ _ ?_;clear hK0)|fail)
   refine xG (α := K2) tok (fun z=>HS H none' [(true,z.k,rw' (spL s ho z.i)),(true,k,rw' s.snk),(true,b2, .cells true 1 [.int .i64 kd,sv b sd.length, .int .i64 ho])] z.H/\z.i<=n)
    (fun z=>[(1, .int .i64 n),(2,pV b2),(9,sv k s.snk.length),(11,sv z.k (spL s ho z.i).length),(12, .int .i64 z.i)]) (fun z=>z.H) (fun z=>n-z.i)
    ⟨_ ++ [rw' []],_,0⟩ ⟨hs.virt _,Nat.zero_le _⟩ ⟨⟨_,rfl, .rfl⟩,⟨_,rfl, .rfl⟩,⟨_,rfl, .rfl⟩,⟨_,rfl,WkV.nil _⟩,⟨_,rfl, .rfl⟩,trivial⟩ (WkH.rfl.app _) ?_
   clear hs
   rintro ⟨H3,q,i⟩ ⟨hs,hi⟩
   dsimp only at hs hi ⊢
   repeat' (first|refine nX ?_|refine nY (fun K0 hK0=>?_)|refine bH ?_|refine bM ?_|refine iS hs ?_|refine rS hs ?_|refine eI _ (aI rfl ?_)|refine qi ?_|refine qh ?_|refine qf ?_|refine oJ ?_|refine nN hs (fun _ _ hs=>?_)|refine nS hs (fun _ _ hs=>?_)|refine sX hs (fun _ hs=>?_)|(refine hK0 _ _ ?_;clear hK0)|fail)
   refine aI (fun hc=>?_) (fun hc=>?_)
   ·have hlt:i<n:=by simp at hc;omega
    clear hc
    have hsn:=snk_in hok hL (i:=i % L) (Nat.mod_lt _ (by omega))
    have hsl:=spL_succ s ho i
    have hsl2:=spL_len s ho i
    rw[hlen] at hsl
    have hL0:(L:Int)≠0:=by omega
    have hmod:(i:Int).tmod (L:Int)=((i % L:Nat):Int):=by rw[Int.tmod_eq_emod_of_nonneg (by omega)];rfl
    have hdiv:(i:Int).tdiv (L:Int)=((i / L:Nat):Int):=by rw[Int.tdiv_eq_ediv_of_nonneg (by omega)];rfl
    have hlt2:i % L<L:=Nat.mod_lt _ (by omega)
    have hle2:i / L<=i:=Nat.div_le_self i L
    generalize i / L=qd at hsl hdiv hle2
    rw[hlen]
    repeat' (first|refine nX ?_|refine nY (fun K0 hK0=>?_)|refine bH ?_|refine bM ?_|refine iS hs ?_|refine rS hs ?_|refine eI _ (aI rfl ?_)|refine qi ?_|refine qh ?_|refine qf ?_|refine oJ ?_|refine nN hs (fun _ _ hs=>?_)|refine nS hs (fun _ _ hs=>?_)|refine sX hs (fun _ hs=>?_)|(refine hK0 _ _ ?_;clear hK0)|fail)
    refine wC tok mx [0,0,0,0,8,28,62,126,0,256,1022,0,0,4096,14336,32766,65534,131071,262143] [false,false,false,false,false,false,false,false,true,true,false,true,true,true,true,false,false,false,false] (.first 0 (.first 1 (.first 2 (.first 3 (.first 4 (.first 5 (.first 6 (.first 7 (.first 8 (.first 9 (.first 10 (.first 11 (.first 12 (.first 13 (.first 14 (.first 15 (.first 16 (.first 17 (.first 18 .done))))))))))))))))))) (by kernel_rfl) ?_
    refine wK (fun K0 hK0=>?_)
    have hltk:i % L<s.snk.length:=by omega
    have hmul0:I64 ((i:Int).tmod (L:Int)):=by rw[hmod];unfold I64;omega
    have hmul:0<=s.snk[i % L]! * ho/\s.snk[i % L]! * ho<=65536*8:=⟨Int.mul_nonneg hsn.1 (by omega),Int.mul_le_mul (by omega) hho.2 (by omega) (by decide)⟩
    have hdb:0<=(i:Int).tdiv (L:Int)/\(i:Int).tdiv (L:Int)<=524288:=by rw[hdiv];omega
    repeat' (first|refine iS hs ?_|refine rS hs ?_|refine eI _ (aI rfl ?_)|refine eI 0 (aI (by decide) ?_)|refine eI 1 (aI (by decide) ?_)|refine eI 2 (aI (by decide) ?_)|refine eI 3 (aI (by decide) ?_)|refine qi ?_|refine qh ?_|refine qf ?_|refine oJ ?_|refine vO hs (fun _ _ _ _ hs=>?_)|refine xx hs (fun _ _ _ _ hs=>?_)|refine sS hs 0 (fun _ _ hs=>?_)|refine sS hs 1 (fun _ _ hs=>?_)|refine sS hs 2 (fun _ _ hs=>?_)|refine sS hs 3 (fun _ _ hs=>?_)|refine sS hs 4 (fun _ _ hs=>?_)|refine sS hs 5 (fun _ _ hs=>?_)|refine vK tok (hs.get 0 rfl) ?_|refine qP hs 0 rfl (fun _ hs=>?_)|refine vk hs 0 rfl (fun _ hs=>?_)|refine qW hs 0 rfl (by intro h;cases h) (fun _ hs=>?_)|refine vK tok (hs.get 1 rfl) ?_|refine qP hs 1 rfl (fun _ hs=>?_)|refine vk hs 1 rfl (fun _ hs=>?_)|refine qW hs 1 rfl (by intro h;cases h) (fun _ hs=>?_)|refine vK tok (hs.get 2 rfl) ?_|refine qP hs 2 rfl (fun _ hs=>?_)|refine vk hs 2 rfl (fun _ hs=>?_)|refine qW hs 2 rfl (by intro h;cases h) (fun _ hs=>?_)|refine vK tok (hs.get 3 rfl) ?_|refine qP hs 3 rfl (fun _ hs=>?_)|refine vk hs 3 rfl (fun _ hs=>?_)|refine qW hs 3 rfl (by intro h;cases h) (fun _ hs=>?_)|refine vK tok (hs.get 4 rfl) ?_|refine qP hs 4 rfl (fun _ hs=>?_)|refine vk hs 4 rfl (fun _ hs=>?_)|refine qW hs 4 rfl (by intro h;cases h) (fun _ hs=>?_)|refine vK tok (hs.get 5 rfl) ?_|refine qP hs 5 rfl (fun _ hs=>?_)|refine vk hs 5 rfl (fun _ hs=>?_)|refine qW hs 5 rfl (by intro h;cases h) (fun _ hs=>?_)|first|(refine qg (hs.get 1 rfl) ⟨i % L,hmod,hltk, ?_⟩)|(refine Ld_at hltk ?_)|(refine app_hs hs 1 rfl (by decide) (hs.get 0 rfl) rfl rfl (by simp[hsl2]) (by simp only[hsl2];omega) (fun H4 k' _ _ hs=>?_))|refine hK0 _ _ ?_|fail)
    have hs:=hs.tail
    rw[hdiv] at hs
    refine⟨⟨H4,k',i+1⟩,⟨?_,hlt⟩,by dsimp only;omega,Or.inl ⟨⟨rfl,rfl,rfl,congrArg (fun z=>some (sv k' z)) (by rw[hsl];simp),rfl,trivial⟩,rfl⟩⟩
    dsimp only
    rw[hsl,rw',wo]
    exact hs
   ·have hie:i=n:=by simp at hc;omega
    subst hie
    repeat' (first|refine nX ?_|refine nY (fun K0 hK0=>?_)|refine bH ?_|refine bM ?_|refine iS hs ?_|refine rS hs ?_|refine eI _ (aI rfl ?_)|refine qi ?_|refine qh ?_|refine qf ?_|refine oJ ?_|refine nN hs (fun _ _ hs=>?_)|refine nS hs (fun _ _ hs=>?_)|refine sX hs (fun _ hs=>?_)|(refine dI (fun hc=>?_) (fun hc=>?_) <;> try (exfalso;omega))|(refine hK0 _ _ ?_;clear hK0)|fail)
    have e:=h1 s i hsh rfl (by omega) _ q (hs.pick [0] (by decide) rfl)
    rw[show sv q i=sv q (spL s ho i).length by rw[spL_len]] at e
    exact e
end Go.Af.Tryz
namespace Go.Af.Tryz
open Go Go.Proofs Go.Af.Pl Co
open Ne hiding none' bls
open Go.Af.Coll (St)
set_option maxRecDepth 100000
set_option maxHeartbeats 4000000
attribute [local irreducible] awp qo qA qN qI qG isCells qC qw qY ve qM roundEnd xK zN keyK wY zS xA
def fewP (m:Mc) (t:Tk) (sw pr:Int):Prop:=m.sd.length<=10/\m.hs.length<=100/\t.sz.length<=10/\t.ws.length<=10/\(∀ s,qp m.kd m.sd m.ho=some s->s.sw<=sw)/\(chkF t=0->t.pr<=pr/\sltF t<=40)
theorem c12 {H:List Blk} {m:Mc} {t:Tk} {b c e f:Nat} {sw pr:Int} {R:Value->List Blk->Prop} (g:Mr H m b c) (gr:Gr H t.sz e) (hl:t.sz.length<=9223372036854775807) (hw:t.ws.length<=9223372036854775807)
 (h : ∀ H' u,HS H none' [] H' -> (u=true->fewP m t sw pr)->R (.bool u) H'):qo Tryz.prog 12 [mcV m b c,tkV t e f, .int .i64 sw, .int .i64 pr] H R:=by
 obtain ⟨w0,hb0⟩:=g.s
 refine qj tok Tryz.call12 Tryz.func12 rfl Tryz.ntmps12 rfl (by simp) ?_
 refine vO (HS.start H none') (fun H1 b2 e1 l1 hs=>?_)
 refine vO hs (fun H2 b3 e2 l2 hs=>?_)
 refine qZ (fun _ hKs=>hKs _ _ ?_);clear hKs
 clear e1 l1 e2 l2
 repeat' (first|refine nX ?_|refine nY (fun K0 hK0=>?_)|refine bH ?_|refine bM ?_|refine iS hs ?_|refine rS hs ?_|refine eI _ (aI rfl ?_)|refine qi ?_|refine qh ?_|refine qf ?_|refine oJ ?_|refine nN hs (fun _ _ hs=>?_)|refine nS hs (fun _ _ hs=>?_)|refine sX hs (fun _ hs=>?_)|(refine hK0 _ _ ?_;clear hK0)|fail)
 have hb:=zq (qU hs) hb0
 (first | refine Ne.c23 hb (Nat.le_refl _) ?_ | refine (Ne.c23 hb (Nat.le_refl _) ?_).call)
 cases hsh:qp m.kd m.sd m.ho with
 | none =>
   unfold sizeV
   repeat' (first|refine nX ?_|refine nY (fun K0 hK0=>?_)|refine bH ?_|refine bM ?_|refine iS hs ?_|refine rS hs ?_|refine eI _ (aI rfl ?_)|refine qi ?_|refine qh ?_|refine qf ?_|refine oJ ?_|refine nN hs (fun _ _ hs=>?_)|refine nS hs (fun _ _ hs=>?_)|refine sX hs (fun _ hs=>?_)|(refine hK0 _ _ ?_;clear hK0)|fail)
   (first | refine c18 (fun H3 hn=>?_) | refine (c18 (fun H3 hn=>?_)).call)
   have hs:=vP hs hn
   clear hn
   repeat' (first|refine nX ?_|refine nY (fun K0 hK0=>?_)|refine bH ?_|refine bM ?_|refine iS hs ?_|refine rS hs ?_|refine eI _ (aI rfl ?_)|refine qi ?_|refine qh ?_|refine qf ?_|refine oJ ?_|refine nN hs (fun _ _ hs=>?_)|refine nS hs (fun _ _ hs=>?_)|refine sX hs (fun _ hs=>?_)|(refine hK0 _ _ ?_;clear hK0)|fail)
   refine c35L (gr.up (qU hs)) hl hw (fun H4 hn=>?_)
   have hs:=vP hs hn
   clear hn
   unfold fewP at h
   generalize chkF t=ce at h ⊢
   generalize sltF t=sl at h ⊢
   repeat' (first|refine nX ?_|refine nY (fun K0 hK0=>?_)|refine bH ?_|refine bM ?_|refine iS hs ?_|refine rS hs ?_|refine eI _ (aI rfl ?_)|refine qi ?_|refine qh ?_|refine qf ?_|refine oJ ?_|refine nN hs (fun _ _ hs=>?_)|refine nS hs (fun _ _ hs=>?_)|refine sX hs (fun _ hs=>?_)|(refine dI (fun hc=>?_) (fun hc=>?_) <;> try (exfalso;omega))|(refine hK0 _ _ ?_;clear hK0)|fail)
   all_goals (
    refine h _ _ (qU hs) (fun hu=>?_)
    first
    | exact absurd hu (by decide)
    | (have hu' := hu
       first | (have hu' := of_decide_eq_true hu) | skip
       exact⟨by omega,by omega,by omega,by omega,fun s' he=>(by rw[hsh] at he;cases he),fun e=>by omega⟩))
 | some s =>
   unfold sizeV
   repeat' (first|refine nX ?_|refine nY (fun K0 hK0=>?_)|refine bH ?_|refine bM ?_|refine iS hs ?_|refine rS hs ?_|refine eI _ (aI rfl ?_)|refine qi ?_|refine qh ?_|refine qf ?_|refine oJ ?_|refine nN hs (fun _ _ hs=>?_)|refine nS hs (fun _ _ hs=>?_)|refine sX hs (fun _ hs=>?_)|(refine hK0 _ _ ?_;clear hK0)|fail)
   (first | refine c18 (fun H3 hn=>?_) | refine (c18 (fun H3 hn=>?_)).call)
   have hs:=vP hs hn
   clear hn
   repeat' (first|refine nX ?_|refine nY (fun K0 hK0=>?_)|refine bH ?_|refine bM ?_|refine iS hs ?_|refine rS hs ?_|refine eI _ (aI rfl ?_)|refine qi ?_|refine qh ?_|refine qf ?_|refine oJ ?_|refine nN hs (fun _ _ hs=>?_)|refine nS hs (fun _ _ hs=>?_)|refine sX hs (fun _ hs=>?_)|(refine hK0 _ _ ?_;clear hK0)|fail)
   refine c35L (gr.up (qU hs)) hl hw (fun H4 hn=>?_)
   have hs:=vP hs hn
   clear hn
   unfold fewP at h
   generalize chkF t=ce at h ⊢
   generalize sltF t=sl at h ⊢
   repeat' (first|refine nX ?_|refine nY (fun K0 hK0=>?_)|refine bH ?_|refine bM ?_|refine iS hs ?_|refine rS hs ?_|refine eI _ (aI rfl ?_)|refine qi ?_|refine qh ?_|refine qf ?_|refine oJ ?_|refine nN hs (fun _ _ hs=>?_)|refine nS hs (fun _ _ hs=>?_)|refine sX hs (fun _ hs=>?_)|(refine dI (fun hc=>?_) (fun hc=>?_) <;> try (exfalso;omega))|(refine hK0 _ _ ?_;clear hK0)|fail)
   all_goals (
    refine h _ _ (qU hs) (fun hu=>?_)
    first
    | exact absurd hu (by decide)
    | (have hu' := hu
       first | (have hu' := of_decide_eq_true hu) | skip
       exact⟨by omega,by omega,by omega,by omega,fun s' he=>(by rw[hsh] at he;cases he;omega),fun e=>by omega⟩))
theorem c36n {H:List Blk} {R:Value->List Blk->Prop} (h:R (.bool true) H):qo Tryz.prog 36 [.slice none 0 0, .slice none 0 0] H R:=by
 refine qj tok Tryz.call36 Tryz.func36 rfl Tryz.ntmps36 rfl (by simp) ?_
 refine qZ (fun _ hKs=>hKs _ _ ?_);clear hKs
 have hs:=HS.start H none'
 repeat' (first|refine nX ?_|refine nY (fun K0 hK0=>?_)|refine bH ?_|refine bM ?_|refine iS hs ?_|refine rS hs ?_|refine eI _ (aI rfl ?_)|refine qi ?_|refine qh ?_|refine qf ?_|refine oJ ?_|refine nN hs (fun _ _ hs=>?_)|refine nS hs (fun _ _ hs=>?_)|refine sX hs (fun _ hs=>?_)|(refine dI (fun hc=>?_) (fun hc=>?_) <;> try (exfalso;omega))|(refine hK0 _ _ ?_;clear hK0)|fail)
 refine xG (α := Nat) tok (fun i=>i=0) (fun i=>[(0, .slice none 0 0),(1, .slice none 0 0),(5, .int .i64 i)]) (fun _=>H) (fun i=>0)
  0 rfl ⟨⟨_,rfl, .rfl⟩,⟨_,rfl, .rfl⟩,⟨_,rfl, .rfl⟩,trivial⟩ WkH.rfl ?_
 rintro i rfl
 repeat' (first|refine nX ?_|refine nY (fun K0 hK0=>?_)|refine bH ?_|refine bM ?_|refine iS hs ?_|refine rS hs ?_|refine eI _ (aI rfl ?_)|refine qi ?_|refine qh ?_|refine qf ?_|refine oJ ?_|refine nN hs (fun _ _ hs=>?_)|refine nS hs (fun _ _ hs=>?_)|refine sX hs (fun _ hs=>?_)|(refine dI (fun hc=>?_) (fun hc=>?_) <;> try (exfalso;omega))|(refine hK0 _ _ ?_;clear hK0)|fail)
 exact h
end Go.Af.Tryz
