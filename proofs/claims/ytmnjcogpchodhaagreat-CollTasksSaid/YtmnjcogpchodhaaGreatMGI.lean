/-
  The law CollTasks, as a call.
-/
import Derived.Test.YtmnjcogpchodhaaGreatMGH
import Derived.Test.YtmnjcogpchodhaaGreatMGC
import Derived.Test.YtmnjcogpchodhaaGreatMWA
set_option linter.all false
namespace Go.Af.Tryz
open Go Go.Proofs
set_option maxRecDepth 100000
set_option maxHeartbeats 4000000
attribute [local irreducible] awp qV vU vZ vW ve isCells qP qN vN vz qW roundEnd

theorem c19s {H : List Blk} {xs : List Int} {a b : Nat} {wa wb : Bool} {R : Value→List Blk→Prop} (ha : bget H a = some (.cells wa 1 (ints xs))) (hb : bget H b = some (.cells wb 1 (ints xs))) (hl : xs.length≤1000000) (h : R (.bool true) H) : qV Tryz.prog 19 [sv a xs.length,sv b xs.length] H R :=
  c19 ha hb hl (by rw [decide_eq_true rfl];exact h)
theorem lens (t : Tk) (r : Int) : (iniF t r).length≤1000000∧(finS t r).length≤1000000∧(algS t).length≤1000000 := by
  refine ⟨?_, ?_, ?_⟩
  · unfold iniF
    split
    · rename_i h
      have kt := (is_ok h).1
      have hb := zZ kt
      have hpa := kt.pa
      have hpr := kt.pr
      have h1 : (spnF t r (r + 1)).length≤10000 := by rw [wU,Int.add_mul];omega
      have h2 : (spnF t 0 t.pr).length≤10000 := by have := zA kt (g := t.pr) (by omega) (by omega);have q : t.pr * t.pa≤128 * 16 := Int.mul_le_mul (by omega) hpa.2 (by omega) (by omega);rw [wU];omega
      have h3 : (spnF t 0 1).length≤10000 := by rw [wU];omega
      have h4 : (spnF t 0 (blkF t)).length≤10000 := by rw [wU];omega
      unfold fstF
      repeat' split
      all_goals first | omega | simp
    · simp
  · unfold finS
    split
    · rename_i h
      have := hal_len (is_ok h).1 r
      rw [List.length_map];omega
    · simp
  · unfold algS
    split
    · rename_i h;have := (alg_lens (tk_ok h).op (powB t.pr)).1;omega
    · simp
theorem wk9 (t : Tk) (r : Int) {m : LM} {argsR : Array Value} {w : World}
    (ha : LRel m [tkV t 0 1, .int .i64 r] argsR.toList) (hr : HRel m [ro t.sz, .cells false 1 (bls t.ws)] w) :
    Calls Tryz.prog 9 argsR w fun e w' => ∃ vR,e = .returned vR∧xg m [ro t.sz, .cells false 1 (bls t.ws)] w (fun v _=>v = .bool true) vR w' := by
  refine calls_vcg tok Tryz.func9 rfl Tryz.ntmps9 rfl (by simp) ?_ ha hr
  generalize hH0 : [ro t.sz,Blk.cells false 1 (bls t.ws)] = H0
  have g0 : Gr H0 t.sz 0 := ⟨_,by rw [← hH0];rfl⟩
  have w0 : Gw H0 t.ws 0 1 := ⟨by decide,_,by rw [← hH0];rfl⟩
  clear hH0 ha hr
  refine qI (HS.start H0 none') (fun H1 b1 e1 l1 hs=>?_)
  refine qO (fun _ hKs=>hKs _ _ ?_);clear hKs
  clear e1 l1
  repeat' (first|with_reducible (first|refine ql ?_|refine qo (fun K0 hK0=>?_)|refine qw ?_|refine qx ?_|refine qf ?_|refine qi ?_|refine qg ?_|refine qc ?_|refine qy (fun K0 hK0=>?_)|refine qB ?_|refine qH ?_|refine qp ?_|refine qG ?_|refine qA ?_|refine qj ?_|refine qh ?_|refine qC ?_|refine qE rfl ?_|refine qm rfl ?_)|refine aI (by decide) ?_|refine iS hs ?_|refine rS hs ?_|refine eI _ (aI rfl ?_)|refine cF (fun _=>?_)|refine cT (fun _=>?_)|refine aI (by omega) ?_|refine oJ ?_|refine qI hs (fun _ _ _ _ hs=>?_)|refine qF hs (fun _ _ _ _ hs=>?_)|refine sS hs 0 (fun _ _ hs=>?_)|refine sS hs 1 (fun _ _ hs=>?_)|refine sS hs 2 (fun _ _ hs=>?_)|refine rd ?_|(refine hK0 _ _ ?_;clear hK0)|fail)
  refine c14 (fun H2 hn=>?_)
  have hs := qX hs hn
  clear hn
  have works : ∀ (H : List Blk) {R : Value→List Blk→Prop} (_ : R (.bool true) H),qV Tryz.prog 15 [] H R := fun H _ h=>(W.worksX H h).call
  by_cases q : t.sz.length≤10∧t.ws.length≤10
  · rw [decide_eq_true (by omega)]
    obtain ⟨hl,hw⟩ := q
    repeat' (first|with_reducible (first|refine ql ?_|refine qo (fun K0 hK0=>?_)|refine qw ?_|refine qx ?_|refine qf ?_|refine qi ?_|refine qg ?_|refine qc ?_|refine qy (fun K0 hK0=>?_)|refine qB ?_|refine qH ?_|refine qp ?_|refine qG ?_|refine qA ?_|refine qj ?_|refine qh ?_|refine qC ?_|refine qE rfl ?_|refine qm rfl ?_)|refine aI (by decide) ?_|refine iS hs ?_|refine rS hs ?_|refine eI _ (aI rfl ?_)|refine cF (fun _=>?_)|refine cT (fun _=>?_)|refine aI (by omega) ?_|refine oJ ?_|refine qI hs (fun _ _ _ _ hs=>?_)|refine qF hs (fun _ _ _ _ hs=>?_)|refine sS hs 0 (fun _ _ hs=>?_)|refine sS hs 1 (fun _ _ hs=>?_)|refine sS hs 2 (fun _ _ hs=>?_)|((refine aI (fun hc=>?_) (fun hc=>?_)) <;> (try simp only [decide_eq_true_eq,decide_eq_false_iff_not,Bool.not_eq_true',Bool.not_eq_false',Bool.not_false,Bool.not_true,bne_iff_ne,ne_eq,Decidable.not_not,Int.not_lt,Int.not_le] at hc) <;> (try (exfalso;omega)))|refine rd ?_|(refine hK0 _ _ ?_;clear hK0)|fail)
    refine c34 (g0.up (qQ hs)) hl hw (fun H3 hn=>?_)
    have hs := qX hs hn
    clear hn
    repeat' (first|with_reducible (first|refine ql ?_|refine qo (fun K0 hK0=>?_)|refine qw ?_|refine qx ?_|refine qf ?_|refine qi ?_|refine qg ?_|refine qc ?_|refine qy (fun K0 hK0=>?_)|refine qB ?_|refine qH ?_|refine qp ?_|refine qG ?_|refine qA ?_|refine qj ?_|refine qh ?_|refine qC ?_|refine qE rfl ?_|refine qm rfl ?_)|refine aI (by decide) ?_|refine iS hs ?_|refine rS hs ?_|refine eI _ (aI rfl ?_)|refine cF (fun _=>?_)|refine cT (fun _=>?_)|refine aI (by omega) ?_|refine oJ ?_|refine qI hs (fun _ _ _ _ hs=>?_)|refine qF hs (fun _ _ _ _ hs=>?_)|refine sS hs 0 (fun _ _ hs=>?_)|refine sS hs 1 (fun _ _ hs=>?_)|refine sS hs 2 (fun _ _ hs=>?_)|((refine aI (fun hc=>?_) (fun hc=>?_)) <;> (try simp only [decide_eq_true_eq,decide_eq_false_iff_not,Bool.not_eq_true',Bool.not_eq_false',Bool.not_false,Bool.not_true,bne_iff_ne,ne_eq,Decidable.not_not,Int.not_lt,Int.not_le] at hc) <;> (try (exfalso;omega)))|refine rd ?_|(refine hK0 _ _ ?_;clear hK0)|fail)
    refine c18 (fun H4 hn=>?_)
    have hs := qX hs hn
    clear hn
    repeat' (first|with_reducible (first|refine ql ?_|refine qo (fun K0 hK0=>?_)|refine qw ?_|refine qx ?_|refine qf ?_|refine qi ?_|refine qg ?_|refine qc ?_|refine qy (fun K0 hK0=>?_)|refine qB ?_|refine qH ?_|refine qp ?_|refine qG ?_|refine qA ?_|refine qj ?_|refine qh ?_|refine qC ?_|refine qE rfl ?_|refine qm rfl ?_)|refine aI (by decide) ?_|refine iS hs ?_|refine rS hs ?_|refine eI _ (aI rfl ?_)|refine cF (fun _=>?_)|refine cT (fun _=>?_)|refine aI (by omega) ?_|refine oJ ?_|refine qI hs (fun _ _ _ _ hs=>?_)|refine qF hs (fun _ _ _ _ hs=>?_)|refine sS hs 0 (fun _ _ hs=>?_)|refine sS hs 1 (fun _ _ hs=>?_)|refine sS hs 2 (fun _ _ hs=>?_)|((refine aI (fun hc=>?_) (fun hc=>?_)) <;> (try simp only [decide_eq_true_eq,decide_eq_false_iff_not,Bool.not_eq_true',Bool.not_eq_false',Bool.not_false,Bool.not_true,bne_iff_ne,ne_eq,Decidable.not_not,Int.not_lt,Int.not_le] at hc) <;> (try (exfalso;omega)))|refine rd ?_|(refine hK0 _ _ ?_;clear hK0)|fail)
    refine c35 (g0.up (qQ hs)) hl hw (fun H3 hn=>?_)
    have hs := qX hs hn
    clear hn
    repeat' (first|with_reducible (first|refine ql ?_|refine qo (fun K0 hK0=>?_)|refine qw ?_|refine qx ?_|refine qf ?_|refine qi ?_|refine qg ?_|refine qc ?_|refine qy (fun K0 hK0=>?_)|refine qB ?_|refine qH ?_|refine qp ?_|refine qG ?_|refine qA ?_|refine qj ?_|refine qh ?_|refine qC ?_|refine qE rfl ?_|refine qm rfl ?_)|refine aI (by decide) ?_|refine iS hs ?_|refine rS hs ?_|refine eI _ (aI rfl ?_)|refine cF (fun _=>?_)|refine cT (fun _=>?_)|refine aI (by omega) ?_|refine oJ ?_|refine qI hs (fun _ _ _ _ hs=>?_)|refine qF hs (fun _ _ _ _ hs=>?_)|refine sS hs 0 (fun _ _ hs=>?_)|refine sS hs 1 (fun _ _ hs=>?_)|refine sS hs 2 (fun _ _ hs=>?_)|((refine aI (fun hc=>?_) (fun hc=>?_)) <;> (try simp only [decide_eq_true_eq,decide_eq_false_iff_not,Bool.not_eq_true',Bool.not_eq_false',Bool.not_false,Bool.not_true,bne_iff_ne,ne_eq,Decidable.not_not,Int.not_lt,Int.not_le] at hc) <;> (try (exfalso;omega)))|refine rd ?_|(refine hK0 _ _ ?_;clear hK0)|fail)
    refine vO tok mx [0,1,0,7,15,31,63,127,127,511,1023,2047,4095,4095,16383,32767] [false,false,true,false,false,false,false,false,false,false,false,false,false,false,false,false] (.first 0 (.alt 1 (.first 2 (.first 3 (.first 4 (.first 5 (.first 6 (.first 7 (.first 8 (.first 9 (.first 10 (.first 11 (.first 12 (.first 13 (.first 14 (.first 15 .done)))))))))))))) (.alt 2 (.first 1 (.first 3 (.first 4 (.first 5 (.first 6 (.first 7 (.first 8 (.first 9 (.first 10 (.first 11 (.first 12 (.first 13 (.first 14 (.first 15 .done)))))))))))))) .no))) (by kernel_rfl) ?_
    refine wo (fun K0 hK0=>?_)
    repeat' (first|with_reducible (first|refine ql ?_|refine qo (fun K0 hK0=>?_)|refine qw ?_|refine qx ?_|refine qf ?_|refine qi ?_|refine qg ?_|refine qc ?_|refine qy (fun K0 hK0=>?_)|refine qB ?_|refine qH ?_|refine qp ?_|refine qG ?_|refine qA ?_|refine qj ?_|refine qh ?_|refine qC ?_|refine qE rfl ?_|refine qm rfl ?_)|refine aI (by decide) ?_|refine iS hs ?_|refine rS hs ?_|refine eI _ (aI rfl ?_)|refine cF (fun _=>?_)|refine cT (fun _=>?_)|refine aI (by omega) ?_|refine oJ ?_|refine qI hs (fun _ _ _ _ hs=>?_)|refine qF hs (fun _ _ _ _ hs=>?_)|refine sS hs 0 (fun _ _ hs=>?_)|refine sS hs 1 (fun _ _ hs=>?_)|refine sS hs 2 (fun _ _ hs=>?_)|((refine aI (fun hc=>?_) (fun hc=>?_)) <;> (try simp only [decide_eq_true_eq,decide_eq_false_iff_not,Bool.not_eq_true',Bool.not_eq_false',Bool.not_false,Bool.not_true,bne_iff_ne,ne_eq,Decidable.not_not,Int.not_lt,Int.not_le] at hc) <;> (try (exfalso;omega)))|refine rd ?_|(refine hK0 _ _ ?_;clear hK0)|fail)
    iterate 8 (
      all_goals try exact trivial
      all_goals try (refine c31 (g0.up (qQ hs)) hl hw (fun H5 hn=>?_);have hs := qX hs hn;clear hn)
      all_goals try (refine c18 (fun H5 hn=>?_);have hs := qX hs hn;clear hn)
      all_goals try (refine c36 (g0.up (qQ hs)) hl hw (fun H5 hn=>?_);have hs := qX hs hn;clear hn)
      all_goals try (first | refine And.intro ?_ trivial | refine And.intro ?_ (And.intro ?_ trivial) | refine And.intro ?_ (And.intro ?_ (And.intro ?_ trivial)))
      all_goals try (
        repeat' (first|with_reducible (first|refine ql ?_|refine qo (fun K0 hK0=>?_)|refine qw ?_|refine qx ?_|refine qf ?_|refine qi ?_|refine qg ?_|refine qc ?_|refine qy (fun K0 hK0=>?_)|refine qB ?_|refine qH ?_|refine qp ?_|refine qG ?_|refine qA ?_|refine qj ?_|refine qh ?_|refine qC ?_|refine qE rfl ?_|refine qm rfl ?_)|refine aI (by decide) ?_|refine iS hs ?_|refine rS hs ?_|refine eI _ (aI rfl ?_)|refine cF (fun _=>?_)|refine cT (fun _=>?_)|refine aI (by omega) ?_|refine oJ ?_|refine qI hs (fun _ _ _ _ hs=>?_)|refine qF hs (fun _ _ _ _ hs=>?_)|refine sS hs 0 (fun _ _ hs=>?_)|refine sS hs 1 (fun _ _ hs=>?_)|refine sS hs 2 (fun _ _ hs=>?_)|((refine aI (fun hc=>?_) (fun hc=>?_)) <;> (try simp only [decide_eq_true_eq,decide_eq_false_iff_not,Bool.not_eq_true',Bool.not_eq_false',Bool.not_false,Bool.not_true,bne_iff_ne,ne_eq,Decidable.not_not,Int.not_lt,Int.not_le] at hc) <;> (try (exfalso;omega)))|refine rd ?_|(refine hK0 _ _ ?_;clear hK0)|fail)
        )
      all_goals try exact absurd trivial hc)
    all_goals (
      repeat' (first|with_reducible (first|refine ql ?_|refine qo (fun K0 hK0=>?_)|refine qw ?_|refine qx ?_|refine qf ?_|refine qi ?_|refine qg ?_|refine qc ?_|refine qy (fun K0 hK0=>?_)|refine qB ?_|refine qH ?_|refine qp ?_|refine qG ?_|refine qA ?_|refine qj ?_|refine qh ?_|refine qC ?_|refine qE rfl ?_|refine qm rfl ?_)|refine aI (by decide) ?_|refine iS hs ?_|refine rS hs ?_|refine eI _ (aI rfl ?_)|refine cF (fun _=>?_)|refine cT (fun _=>?_)|refine aI (by omega) ?_|refine oJ ?_|refine qI hs (fun _ _ _ _ hs=>?_)|refine qF hs (fun _ _ _ _ hs=>?_)|refine sS hs 0 (fun _ _ hs=>?_)|refine sS hs 1 (fun _ _ hs=>?_)|refine sS hs 2 (fun _ _ hs=>?_)|refine sS hs 3 (fun _ _ hs=>?_)|refine sS hs 4 (fun _ _ hs=>?_)|((refine aI (fun hc=>?_) (fun hc=>?_)) <;> (try simp only [decide_eq_true_eq,decide_eq_false_iff_not,Bool.not_eq_true',Bool.not_eq_false',Bool.not_false,Bool.not_true,bne_iff_ne,ne_eq,Decidable.not_not,Int.not_lt,Int.not_le] at hc) <;> (try (exfalso;omega)))|refine rd ?_|(refine hK0 _ _ ?_;clear hK0)|fail)
      refine c37 (g0.up (qQ hs)) hl hw (fun H5 k1 hn=>?_)
      have hs := hs.call hn rfl
      clear hn
      repeat' (first|with_reducible (first|refine ql ?_|refine qo (fun K0 hK0=>?_)|refine qw ?_|refine qx ?_|refine qf ?_|refine qi ?_|refine qg ?_|refine qc ?_|refine qy (fun K0 hK0=>?_)|refine qB ?_|refine qH ?_|refine qp ?_|refine qG ?_|refine qA ?_|refine qj ?_|refine qh ?_|refine qC ?_|refine qE rfl ?_|refine qm rfl ?_)|refine aI (by decide) ?_|refine iS hs ?_|refine rS hs ?_|refine eI _ (aI rfl ?_)|refine cF (fun _=>?_)|refine cT (fun _=>?_)|refine aI (by omega) ?_|refine oJ ?_|refine qI hs (fun _ _ _ _ hs=>?_)|refine qF hs (fun _ _ _ _ hs=>?_)|refine sS hs 0 (fun _ _ hs=>?_)|refine sS hs 1 (fun _ _ hs=>?_)|refine sS hs 2 (fun _ _ hs=>?_)|refine sS hs 3 (fun _ _ hs=>?_)|refine sS hs 4 (fun _ _ hs=>?_)|((refine aI (fun hc=>?_) (fun hc=>?_)) <;> (try simp only [decide_eq_true_eq,decide_eq_false_iff_not,Bool.not_eq_true',Bool.not_eq_false',Bool.not_false,Bool.not_true,bne_iff_ne,ne_eq,Decidable.not_not,Int.not_lt,Int.not_le] at hc) <;> (try (exfalso;omega)))|refine rd ?_|(refine hK0 _ _ ?_;clear hK0)|fail)
      refine c18 (fun H4 hn=>?_)
      have hs := qX hs hn
      clear hn
      repeat' (first|with_reducible (first|refine ql ?_|refine qo (fun K0 hK0=>?_)|refine qw ?_|refine qx ?_|refine qf ?_|refine qi ?_|refine qg ?_|refine qc ?_|refine qy (fun K0 hK0=>?_)|refine qB ?_|refine qH ?_|refine qp ?_|refine qG ?_|refine qA ?_|refine qj ?_|refine qh ?_|refine qC ?_|refine qE rfl ?_|refine qm rfl ?_)|refine aI (by decide) ?_|refine iS hs ?_|refine rS hs ?_|refine eI _ (aI rfl ?_)|refine cF (fun _=>?_)|refine cT (fun _=>?_)|refine aI (by omega) ?_|refine oJ ?_|refine qI hs (fun _ _ _ _ hs=>?_)|refine qF hs (fun _ _ _ _ hs=>?_)|refine sS hs 0 (fun _ _ hs=>?_)|refine sS hs 1 (fun _ _ hs=>?_)|refine sS hs 2 (fun _ _ hs=>?_)|refine sS hs 3 (fun _ _ hs=>?_)|refine sS hs 4 (fun _ _ hs=>?_)|((refine aI (fun hc=>?_) (fun hc=>?_)) <;> (try simp only [decide_eq_true_eq,decide_eq_false_iff_not,Bool.not_eq_true',Bool.not_eq_false',Bool.not_false,Bool.not_true,bne_iff_ne,ne_eq,Decidable.not_not,Int.not_lt,Int.not_le] at hc) <;> (try (exfalso;omega)))|refine rd ?_|(refine hK0 _ _ ?_;clear hK0)|fail)
      refine c38 (g0.up (qQ hs)) hl hw (fun H5 k2 hn=>?_)
      have hs := hs.call hn rfl
      clear hn
      repeat' (first|with_reducible (first|refine ql ?_|refine qo (fun K0 hK0=>?_)|refine qw ?_|refine qx ?_|refine qf ?_|refine qi ?_|refine qg ?_|refine qc ?_|refine qy (fun K0 hK0=>?_)|refine qB ?_|refine qH ?_|refine qp ?_|refine qG ?_|refine qA ?_|refine qj ?_|refine qh ?_|refine qC ?_|refine qE rfl ?_|refine qm rfl ?_)|refine aI (by decide) ?_|refine iS hs ?_|refine rS hs ?_|refine eI _ (aI rfl ?_)|refine cF (fun _=>?_)|refine cT (fun _=>?_)|refine aI (by omega) ?_|refine oJ ?_|refine qI hs (fun _ _ _ _ hs=>?_)|refine qF hs (fun _ _ _ _ hs=>?_)|refine sS hs 0 (fun _ _ hs=>?_)|refine sS hs 1 (fun _ _ hs=>?_)|refine sS hs 2 (fun _ _ hs=>?_)|refine sS hs 3 (fun _ _ hs=>?_)|refine sS hs 4 (fun _ _ hs=>?_)|((refine aI (fun hc=>?_) (fun hc=>?_)) <;> (try simp only [decide_eq_true_eq,decide_eq_false_iff_not,Bool.not_eq_true',Bool.not_eq_false',Bool.not_false,Bool.not_true,bne_iff_ne,ne_eq,Decidable.not_not,Int.not_lt,Int.not_le] at hc) <;> (try (exfalso;omega)))|refine rd ?_|(refine hK0 _ _ ?_;clear hK0)|fail)
      refine c39 (g0.up (qQ hs)) (w0.up (qQ hs)) hl hw (fun H5 k3 hn=>?_)
      have hs := hs.call hn rfl
      clear hn
      repeat' (first|with_reducible (first|refine ql ?_|refine qo (fun K0 hK0=>?_)|refine qw ?_|refine qx ?_|refine qf ?_|refine qi ?_|refine qg ?_|refine qc ?_|refine qy (fun K0 hK0=>?_)|refine qB ?_|refine qH ?_|refine qp ?_|refine qG ?_|refine qA ?_|refine qj ?_|refine qh ?_|refine qC ?_|refine qE rfl ?_|refine qm rfl ?_)|refine aI (by decide) ?_|refine iS hs ?_|refine rS hs ?_|refine eI _ (aI rfl ?_)|refine cF (fun _=>?_)|refine cT (fun _=>?_)|refine aI (by omega) ?_|refine oJ ?_|refine qI hs (fun _ _ _ _ hs=>?_)|refine qF hs (fun _ _ _ _ hs=>?_)|refine sS hs 0 (fun _ _ hs=>?_)|refine sS hs 1 (fun _ _ hs=>?_)|refine sS hs 2 (fun _ _ hs=>?_)|refine sS hs 3 (fun _ _ hs=>?_)|refine sS hs 4 (fun _ _ hs=>?_)|((refine aI (fun hc=>?_) (fun hc=>?_)) <;> (try simp only [decide_eq_true_eq,decide_eq_false_iff_not,Bool.not_eq_true',Bool.not_eq_false',Bool.not_false,Bool.not_true,bne_iff_ne,ne_eq,Decidable.not_not,Int.not_lt,Int.not_le] at hc) <;> (try (exfalso;omega)))|refine rd ?_|(refine hK0 _ _ ?_;clear hK0)|fail)
      refine c18 (fun H4 hn=>?_)
      have hs := qX hs hn
      clear hn
      repeat' (first|with_reducible (first|refine ql ?_|refine qo (fun K0 hK0=>?_)|refine qw ?_|refine qx ?_|refine qf ?_|refine qi ?_|refine qg ?_|refine qc ?_|refine qy (fun K0 hK0=>?_)|refine qB ?_|refine qH ?_|refine qp ?_|refine qG ?_|refine qA ?_|refine qj ?_|refine qh ?_|refine qC ?_|refine qE rfl ?_|refine qm rfl ?_)|refine aI (by decide) ?_|refine iS hs ?_|refine rS hs ?_|refine eI _ (aI rfl ?_)|refine cF (fun _=>?_)|refine cT (fun _=>?_)|refine aI (by omega) ?_|refine oJ ?_|refine qI hs (fun _ _ _ _ hs=>?_)|refine qF hs (fun _ _ _ _ hs=>?_)|refine sS hs 0 (fun _ _ hs=>?_)|refine sS hs 1 (fun _ _ hs=>?_)|refine sS hs 2 (fun _ _ hs=>?_)|refine sS hs 3 (fun _ _ hs=>?_)|refine sS hs 4 (fun _ _ hs=>?_)|((refine aI (fun hc=>?_) (fun hc=>?_)) <;> (try simp only [decide_eq_true_eq,decide_eq_false_iff_not,Bool.not_eq_true',Bool.not_eq_false',Bool.not_false,Bool.not_true,bne_iff_ne,ne_eq,Decidable.not_not,Int.not_lt,Int.not_le] at hc) <;> (try (exfalso;omega)))|refine rd ?_|(refine hK0 _ _ ?_;clear hK0)|fail)
      refine c40 (g0.up (qQ hs)) (w0.up (qQ hs)) hl hw (fun H5 k4 hn=>?_)
      have hs := hs.call hn rfl
      clear hn
      repeat' (first|with_reducible (first|refine ql ?_|refine qo (fun K0 hK0=>?_)|refine qw ?_|refine qx ?_|refine qf ?_|refine qi ?_|refine qg ?_|refine qc ?_|refine qy (fun K0 hK0=>?_)|refine qB ?_|refine qH ?_|refine qp ?_|refine qG ?_|refine qA ?_|refine qj ?_|refine qh ?_|refine qC ?_|refine qE rfl ?_|refine qm rfl ?_)|refine aI (by decide) ?_|refine iS hs ?_|refine rS hs ?_|refine eI _ (aI rfl ?_)|refine cF (fun _=>?_)|refine cT (fun _=>?_)|refine aI (by omega) ?_|refine oJ ?_|refine qI hs (fun _ _ _ _ hs=>?_)|refine qF hs (fun _ _ _ _ hs=>?_)|refine sS hs 0 (fun _ _ hs=>?_)|refine sS hs 1 (fun _ _ hs=>?_)|refine sS hs 2 (fun _ _ hs=>?_)|refine sS hs 3 (fun _ _ hs=>?_)|refine sS hs 4 (fun _ _ hs=>?_)|((refine aI (fun hc=>?_) (fun hc=>?_)) <;> (try simp only [decide_eq_true_eq,decide_eq_false_iff_not,Bool.not_eq_true',Bool.not_eq_false',Bool.not_false,Bool.not_true,bne_iff_ne,ne_eq,Decidable.not_not,Int.not_lt,Int.not_le] at hc) <;> (try (exfalso;omega)))|refine rd ?_|(refine hK0 _ _ ?_;clear hK0)|fail)
      refine c41 (g0.up (qQ hs)) hl hw (fun H5 k5 hn=>?_)
      have hs := hs.call hn rfl
      clear hn
      repeat' (first|with_reducible (first|refine ql ?_|refine qo (fun K0 hK0=>?_)|refine qw ?_|refine qx ?_|refine qf ?_|refine qi ?_|refine qg ?_|refine qc ?_|refine qy (fun K0 hK0=>?_)|refine qB ?_|refine qH ?_|refine qp ?_|refine qG ?_|refine qA ?_|refine qj ?_|refine qh ?_|refine qC ?_|refine qE rfl ?_|refine qm rfl ?_)|refine aI (by decide) ?_|refine iS hs ?_|refine rS hs ?_|refine eI _ (aI rfl ?_)|refine cF (fun _=>?_)|refine cT (fun _=>?_)|refine aI (by omega) ?_|refine oJ ?_|refine qI hs (fun _ _ _ _ hs=>?_)|refine qF hs (fun _ _ _ _ hs=>?_)|refine sS hs 0 (fun _ _ hs=>?_)|refine sS hs 1 (fun _ _ hs=>?_)|refine sS hs 2 (fun _ _ hs=>?_)|refine sS hs 3 (fun _ _ hs=>?_)|refine sS hs 4 (fun _ _ hs=>?_)|((refine aI (fun hc=>?_) (fun hc=>?_)) <;> (try simp only [decide_eq_true_eq,decide_eq_false_iff_not,Bool.not_eq_true',Bool.not_eq_false',Bool.not_false,Bool.not_true,bne_iff_ne,ne_eq,Decidable.not_not,Int.not_lt,Int.not_le] at hc) <;> (try (exfalso;omega)))|refine rd ?_|(refine hK0 _ _ ?_;clear hK0)|fail)
      refine c18 (fun H4 hn=>?_)
      have hs := qX hs hn
      clear hn
      repeat' (first|with_reducible (first|refine ql ?_|refine qo (fun K0 hK0=>?_)|refine qw ?_|refine qx ?_|refine qf ?_|refine qi ?_|refine qg ?_|refine qc ?_|refine qy (fun K0 hK0=>?_)|refine qB ?_|refine qH ?_|refine qp ?_|refine qG ?_|refine qA ?_|refine qj ?_|refine qh ?_|refine qC ?_|refine qE rfl ?_|refine qm rfl ?_)|refine aI (by decide) ?_|refine iS hs ?_|refine rS hs ?_|refine eI _ (aI rfl ?_)|refine cF (fun _=>?_)|refine cT (fun _=>?_)|refine aI (by omega) ?_|refine oJ ?_|refine qI hs (fun _ _ _ _ hs=>?_)|refine qF hs (fun _ _ _ _ hs=>?_)|refine sS hs 0 (fun _ _ hs=>?_)|refine sS hs 1 (fun _ _ hs=>?_)|refine sS hs 2 (fun _ _ hs=>?_)|refine sS hs 3 (fun _ _ hs=>?_)|refine sS hs 4 (fun _ _ hs=>?_)|((refine aI (fun hc=>?_) (fun hc=>?_)) <;> (try simp only [decide_eq_true_eq,decide_eq_false_iff_not,Bool.not_eq_true',Bool.not_eq_false',Bool.not_false,Bool.not_true,bne_iff_ne,ne_eq,Decidable.not_not,Int.not_lt,Int.not_le] at hc) <;> (try (exfalso;omega)))|refine rd ?_|(refine hK0 _ _ ?_;clear hK0)|fail)
      refine c42 (g0.up (qQ hs)) hl hw (fun H5 k6 hn=>?_)
      have hs := hs.call hn rfl
      clear hn
      obtain ⟨n1,n2,n3⟩ := lens t r
      generalize iniF t r = x1 at hs n1
      generalize finS t r = x2 at hs n2
      generalize algS t = x3 at hs n3
      generalize isF t r = z1
      repeat' (first|with_reducible (first|refine ql ?_|refine qo (fun K0 hK0=>?_)|refine qw ?_|refine qx ?_|refine qf ?_|refine qi ?_|refine qg ?_|refine qc ?_|refine qy (fun K0 hK0=>?_)|refine qB ?_|refine qH ?_|refine qp ?_|refine qG ?_|refine qA ?_|refine qj ?_|refine qh ?_|refine qC ?_|refine qE rfl ?_|refine qm rfl ?_)|refine aI (by decide) ?_|refine iS hs ?_|refine rS hs ?_|refine eI _ (aI rfl ?_)|refine cF (fun _=>?_)|refine cT (fun _=>?_)|refine aI (by omega) ?_|refine oJ ?_|refine qI hs (fun _ _ _ _ hs=>?_)|refine qF hs (fun _ _ _ _ hs=>?_)|refine sS hs 0 (fun _ _ hs=>?_)|refine sS hs 1 (fun _ _ hs=>?_)|refine sS hs 2 (fun _ _ hs=>?_)|refine sS hs 3 (fun _ _ hs=>?_)|refine sS hs 4 (fun _ _ hs=>?_)|((refine aI (fun hc=>?_) (fun hc=>?_)) <;> (try simp only [decide_eq_true_eq,decide_eq_false_iff_not,Bool.not_eq_true',Bool.not_eq_false',Bool.not_false,Bool.not_true,bne_iff_ne,ne_eq,Decidable.not_not,Int.not_lt,Int.not_le] at hc) <;> (try (exfalso;omega)))|refine rd ?_|(refine hK0 _ _ ?_;clear hK0)|fail)
      all_goals try exact absurd trivial hc
      refine c19s (hs.get 5 rfl) (hs.get 4 rfl) n1 ?_
      repeat' (first|with_reducible (first|refine ql ?_|refine qo (fun K0 hK0=>?_)|refine qw ?_|refine qx ?_|refine qf ?_|refine qi ?_|refine qg ?_|refine qc ?_|refine qy (fun K0 hK0=>?_)|refine qB ?_|refine qH ?_|refine qp ?_|refine qG ?_|refine qA ?_|refine qj ?_|refine qh ?_|refine qC ?_|refine qE rfl ?_|refine qm rfl ?_)|refine aI (by decide) ?_|refine iS hs ?_|refine rS hs ?_|refine eI _ (aI rfl ?_)|refine cF (fun _=>?_)|refine cT (fun _=>?_)|refine aI (by omega) ?_|refine oJ ?_|refine qI hs (fun _ _ _ _ hs=>?_)|refine qF hs (fun _ _ _ _ hs=>?_)|refine sS hs 0 (fun _ _ hs=>?_)|refine sS hs 1 (fun _ _ hs=>?_)|refine sS hs 2 (fun _ _ hs=>?_)|refine sS hs 3 (fun _ _ hs=>?_)|refine sS hs 4 (fun _ _ hs=>?_)|((refine aI (fun hc=>?_) (fun hc=>?_)) <;> (try simp only [decide_eq_true_eq,decide_eq_false_iff_not,Bool.not_eq_true',Bool.not_eq_false',Bool.not_false,Bool.not_true,bne_iff_ne,ne_eq,Decidable.not_not,Int.not_lt,Int.not_le] at hc) <;> (try (exfalso;omega)))|refine rd ?_|(refine hK0 _ _ ?_;clear hK0)|fail)
      all_goals try exact absurd trivial hc
      refine c19s (hs.get 3 rfl) (hs.get 2 rfl) n2 ?_
      repeat' (first|with_reducible (first|refine ql ?_|refine qo (fun K0 hK0=>?_)|refine qw ?_|refine qx ?_|refine qf ?_|refine qi ?_|refine qg ?_|refine qc ?_|refine qy (fun K0 hK0=>?_)|refine qB ?_|refine qH ?_|refine qp ?_|refine qG ?_|refine qA ?_|refine qj ?_|refine qh ?_|refine qC ?_|refine qE rfl ?_|refine qm rfl ?_)|refine aI (by decide) ?_|refine iS hs ?_|refine rS hs ?_|refine eI _ (aI rfl ?_)|refine cF (fun _=>?_)|refine cT (fun _=>?_)|refine aI (by omega) ?_|refine oJ ?_|refine qI hs (fun _ _ _ _ hs=>?_)|refine qF hs (fun _ _ _ _ hs=>?_)|refine sS hs 0 (fun _ _ hs=>?_)|refine sS hs 1 (fun _ _ hs=>?_)|refine sS hs 2 (fun _ _ hs=>?_)|refine sS hs 3 (fun _ _ hs=>?_)|refine sS hs 4 (fun _ _ hs=>?_)|((refine aI (fun hc=>?_) (fun hc=>?_)) <;> (try simp only [decide_eq_true_eq,decide_eq_false_iff_not,Bool.not_eq_true',Bool.not_eq_false',Bool.not_false,Bool.not_true,bne_iff_ne,ne_eq,Decidable.not_not,Int.not_lt,Int.not_le] at hc) <;> (try (exfalso;omega)))|refine rd ?_|(refine hK0 _ _ ?_;clear hK0)|fail)
      all_goals try exact absurd trivial hc
      refine c19s (hs.get 1 rfl) (hs.get 0 rfl) n3 ?_
      repeat' (first|with_reducible (first|refine ql ?_|refine qo (fun K0 hK0=>?_)|refine qw ?_|refine qx ?_|refine qf ?_|refine qi ?_|refine qg ?_|refine qc ?_|refine qy (fun K0 hK0=>?_)|refine qB ?_|refine qH ?_|refine qp ?_|refine qG ?_|refine qA ?_|refine qj ?_|refine qh ?_|refine qC ?_|refine qE rfl ?_|refine qm rfl ?_)|refine aI (by decide) ?_|refine iS hs ?_|refine rS hs ?_|refine eI _ (aI rfl ?_)|refine cF (fun _=>?_)|refine cT (fun _=>?_)|refine aI (by omega) ?_|refine oJ ?_|refine qI hs (fun _ _ _ _ hs=>?_)|refine qF hs (fun _ _ _ _ hs=>?_)|refine sS hs 0 (fun _ _ hs=>?_)|refine sS hs 1 (fun _ _ hs=>?_)|refine sS hs 2 (fun _ _ hs=>?_)|refine sS hs 3 (fun _ _ hs=>?_)|refine sS hs 4 (fun _ _ hs=>?_)|((refine aI (fun hc=>?_) (fun hc=>?_)) <;> (try simp only [decide_eq_true_eq,decide_eq_false_iff_not,Bool.not_eq_true',Bool.not_eq_false',Bool.not_false,Bool.not_true,bne_iff_ne,ne_eq,Decidable.not_not,Int.not_lt,Int.not_le] at hc) <;> (try (exfalso;omega)))|refine rd ?_|(refine hK0 _ _ ?_;clear hK0)|fail)
      all_goals try exact absurd trivial hc
      refine works _ ?_
      repeat' (first|with_reducible (first|refine ql ?_|refine qo (fun K0 hK0=>?_)|refine qw ?_|refine qx ?_|refine qf ?_|refine qi ?_|refine qg ?_|refine qc ?_|refine qy (fun K0 hK0=>?_)|refine qB ?_|refine qH ?_|refine qp ?_|refine qG ?_|refine qA ?_|refine qj ?_|refine qh ?_|refine qC ?_|refine qE rfl ?_|refine qm rfl ?_)|refine aI (by decide) ?_|refine iS hs ?_|refine rS hs ?_|refine eI _ (aI rfl ?_)|refine cF (fun _=>?_)|refine cT (fun _=>?_)|refine aI (by omega) ?_|refine oJ ?_|refine qI hs (fun _ _ _ _ hs=>?_)|refine qF hs (fun _ _ _ _ hs=>?_)|refine sS hs 0 (fun _ _ hs=>?_)|refine sS hs 1 (fun _ _ hs=>?_)|refine sS hs 2 (fun _ _ hs=>?_)|refine sS hs 3 (fun _ _ hs=>?_)|refine sS hs 4 (fun _ _ hs=>?_)|((refine aI (fun hc=>?_) (fun hc=>?_)) <;> (try simp only [decide_eq_true_eq,decide_eq_false_iff_not,Bool.not_eq_true',Bool.not_eq_false',Bool.not_false,Bool.not_true,bne_iff_ne,ne_eq,Decidable.not_not,Int.not_lt,Int.not_le] at hc) <;> (try (exfalso;omega)))|refine rd ?_|(refine hK0 _ _ ?_;clear hK0)|fail)
      rfl
      )
  · rw [decide_eq_false (by omega)]
    repeat' (first|with_reducible (first|refine ql ?_|refine qo (fun K0 hK0=>?_)|refine qw ?_|refine qx ?_|refine qf ?_|refine qi ?_|refine qg ?_|refine qc ?_|refine qy (fun K0 hK0=>?_)|refine qB ?_|refine qH ?_|refine qp ?_|refine qG ?_|refine qA ?_|refine qj ?_|refine qh ?_|refine qC ?_|refine qE rfl ?_|refine qm rfl ?_)|refine aI (by decide) ?_|refine iS hs ?_|refine rS hs ?_|refine eI _ (aI rfl ?_)|refine cF (fun _=>?_)|refine cT (fun _=>?_)|refine aI (by omega) ?_|refine oJ ?_|refine qI hs (fun _ _ _ _ hs=>?_)|refine qF hs (fun _ _ _ _ hs=>?_)|refine sS hs 0 (fun _ _ hs=>?_)|refine sS hs 1 (fun _ _ hs=>?_)|refine sS hs 2 (fun _ _ hs=>?_)|((refine aI (fun hc=>?_) (fun hc=>?_)) <;> (try simp only [decide_eq_true_eq,decide_eq_false_iff_not,Bool.not_eq_true',Bool.not_eq_false',Bool.not_false,Bool.not_true,bne_iff_ne,ne_eq,Decidable.not_not,Int.not_lt,Int.not_le] at hc) <;> (try (exfalso;omega)))|refine rd ?_|(refine hK0 _ _ ?_;clear hK0)|fail)
    refine works _ ?_
    repeat' (first|with_reducible (first|refine ql ?_|refine qo (fun K0 hK0=>?_)|refine qw ?_|refine qx ?_|refine qf ?_|refine qi ?_|refine qg ?_|refine qc ?_|refine qy (fun K0 hK0=>?_)|refine qB ?_|refine qH ?_|refine qp ?_|refine qG ?_|refine qA ?_|refine qj ?_|refine qh ?_|refine qC ?_|refine qE rfl ?_|refine qm rfl ?_)|refine aI (by decide) ?_|refine iS hs ?_|refine rS hs ?_|refine eI _ (aI rfl ?_)|refine cF (fun _=>?_)|refine cT (fun _=>?_)|refine aI (by omega) ?_|refine oJ ?_|refine qI hs (fun _ _ _ _ hs=>?_)|refine qF hs (fun _ _ _ _ hs=>?_)|refine sS hs 0 (fun _ _ hs=>?_)|refine sS hs 1 (fun _ _ hs=>?_)|refine sS hs 2 (fun _ _ hs=>?_)|((refine aI (fun hc=>?_) (fun hc=>?_)) <;> (try simp only [decide_eq_true_eq,decide_eq_false_iff_not,Bool.not_eq_true',Bool.not_eq_false',Bool.not_false,Bool.not_true,bne_iff_ne,ne_eq,Decidable.not_not,Int.not_lt,Int.not_le] at hc) <;> (try (exfalso;omega)))|refine rd ?_|(refine hK0 _ _ ?_;clear hK0)|fail)
    rfl
end Go.Af.Tryz
