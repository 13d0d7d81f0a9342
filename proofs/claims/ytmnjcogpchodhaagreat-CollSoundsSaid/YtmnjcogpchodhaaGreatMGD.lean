/-
  Schedules for the reference; rounds; what is examined.
  The form of a schedule: the reference's Sound and Rounds.
-/
import Derived.Test.YtmnjcogpchodhaaGreatMGC
set_option linter.all false
namespace Go.Af.Tryz
open Go Go.Proofs
open Go.Af.Coll (St Ck lk upd takesF emp sndP selfF roundF freshF addF badP cmpF befF)
set_option maxRecDepth 100000
set_option maxHeartbeats 4000000
attribute [local irreducible] awp ACall ACallX AYield AInvoke newSlice isCells rdCells wrCells aAppend rangeEnd roundBegin roundEnd rdMap wrMap keyK mfind

theorem c14 {H : List Blk} {t : Tk} {b c : Nat} {m : Int} {R : Value → List Blk → Prop} (h : ∀ H', HS H none' [] H' → R (.bool (decide (t.sz.length ≤ 10 ∧ t.ws.length ≤ 10 ∧ (t.pr ≤ m ∨ 64 < t.pr)))) H') : ACall Tryz.prog 14 [tkV t b c, .int .i64 m] H R := by
  refine acall_vcg tok Tryz.call14 Tryz.func14 rfl Tryz.ntmps14 rfl (by simp) ?_
  refine new_hs (HS.start H none') (fun H1 b1 e1 l1 hs => ?_)
  refine vops_gen (fun _ hKs => hKs _ _ ?_); clear hKs
  replace h := h H1 (hs_nil hs)
  repeat' (first | with_reducible refine vcg_assoc ?_ | with_reducible refine vcg_seqR (fun K0 hK0 => ?_) | with_reducible refine vcg_seqC ?_ | with_reducible refine vcg_seqB ?_ | with_reducible refine vcg_seqSkip ?_ | with_reducible refine vcg_seqRet ?_ | with_reducible refine vcg_seqExit ?_ | with_reducible refine vcg_seqScope ?_ | with_reducible refine vcg_regR (fun K0 hK0 => ?_) | with_reducible refine vcg_cond ?_ | with_reducible refine vcg_blk ?_ | with_reducible refine vcg_skip ?_ | with_reducible refine vcg_ret ?_ | with_reducible refine vcg_exit ?_ | with_reducible refine vcg_scope ?_ | with_reducible refine blkQ_normal ?_ | with_reducible refine blkQ_ret ?_ | with_reducible refine blkQ_hit rfl ?_ | with_reducible refine blkQ_miss rfl ?_ | refine And.intro (by decide) ?_ | refine isCells_of (hs.get 0 rfl) ?_ | refine rdCells_of (hs.get 0 rfl) ?_ | refine isCells_of (hs.get 1 rfl) ?_ | refine rdCells_of (hs.get 1 rfl) ?_ | refine isCells_of (hs.get 2 rfl) ?_ | refine rdCells_of (hs.get 2 rfl) ?_ | refine isCells_of (hs.get 3 rfl) ?_ | refine rdCells_of (hs.get 3 rfl) ?_ | refine Exists.intro _ (And.intro rfl ?_) | refine And.intro (fun h => absurd h (by decide)) (fun _ => ?_) | refine And.intro (fun _ => ?_) (fun h => absurd h (by decide)) | refine And.intro (by omega) ?_ | refine Or.inl (Exists.intro _ (And.intro rfl (And.intro (by unfold I64; omega) ?_))) | refine new_hs hs (fun _ _ _ _ hs => ?_) | refine newS_hs hs (fun _ _ _ _ hs => ?_) | refine store_hs hs 0 rfl _ rfl rfl (Nat.le_of_ble_eq_true rfl) rfl (fun _ _ hs => ?_) | refine store_hs hs 1 rfl _ rfl rfl (Nat.le_of_ble_eq_true rfl) rfl (fun _ _ hs => ?_) | refine store_hs hs 2 rfl _ rfl rfl (Nat.le_of_ble_eq_true rfl) rfl (fun _ _ hs => ?_) | ((refine And.intro (fun hc => ?_) (fun hc => ?_)) <;> (try simp only [decide_eq_true_eq, decide_eq_false_iff_not, Bool.not_eq_true', Bool.not_eq_false', Bool.not_false, Bool.not_true, bne_iff_ne, ne_eq, Decidable.not_not, Int.not_lt, Int.not_le] at hc) <;> (try (exfalso; omega))) | refine rd ?_ | (refine hK0 _ _ ?_; clear hK0) | fail)
  all_goals try (rw [decide_eq_true (by omega)] at h; exact h; done)
  all_goals try (rw [decide_eq_false (by omega)] at h; exact h; done)
  all_goals (
    first
      | (rw [show decide (t.sz.length ≤ 10 ∧ t.ws.length ≤ 10 ∧ (t.pr ≤ m ∨ 64 < t.pr)) = decide (64 < t.pr) from decide_eq_decide.2 (by omega)] at h; exact h)
      | (rw [show decide (t.sz.length ≤ 10 ∧ t.ws.length ≤ 10 ∧ (t.pr ≤ m ∨ 64 < t.pr)) = decide (t.pr > 64) from decide_eq_decide.2 (by omega)] at h; exact h))

theorem snd_rg {procs slots : Int} : ∀ {l : List St} {prev : Option St} {c : Ck}, sndP procs slots prev c l = 0 → ∀ x ∈ l, 0 ≤ x.rd ∧ x.rd < 256
  | [], _, _, _, x, hx => by cases hx
  | y :: l, prev, c, h, x, hx => by
    simp only [sndP] at h
    split at h
    · rename_i hs; exact absurd h hs
    · rename_i hs
      split at h
      · rename_i hr; exact absurd h hr
      · rcases List.mem_cons.1 hx with e | e
        · subst e
          have hs : selfF procs slots prev x = 0 := by simpa using hs
          unfold selfF at hs
          split at hs
          · cases hs
          · omega
        · exact snd_rg h x e
def rndF (t : Tk) (l : List St) : Int := if sndF t l ≠ 0 ∨ l.length = 0 then 0 else l[l.length - 1]!.rd + 1
theorem c27 {H : List Blk} {t : Tk} {alg : Int} {l : List St} {b c d : Nat} {R : Value → List Blk → Prop} (gr : Gr H t.sz b) (hst : Sts H l d) (hl : t.sz.length ≤ 10) (hw : t.ws.length ≤ 10) (hll : l.length ≤ 1000000) (h : ∀ H', HS H none' [] H' → R (.tuple ⟨[.int .i64 (rndF t l), .int .i64 (sndF t l)]⟩) H') :
    ACall Tryz.prog 27 [schV t alg b c d l.length] H R := by
  obtain ⟨w1, hd0⟩ := hst.s
  refine acall_vcg tok Tryz.call27 Tryz.func27 rfl Tryz.ntmps27 rfl (by simp) ?_
  refine new_hs (HS.start H none') (fun H1 b1 e1 l1 hs => ?_)
  refine vops_gen (fun _ hKs => hKs _ _ ?_); clear hKs
  repeat' (first | with_reducible refine vcg_assoc ?_ | with_reducible refine vcg_seqR (fun K0 hK0 => ?_) | with_reducible refine vcg_seqC ?_ | with_reducible refine vcg_seqB ?_ | with_reducible refine vcg_seqSkip ?_ | with_reducible refine vcg_seqRet ?_ | with_reducible refine vcg_seqExit ?_ | with_reducible refine vcg_seqScope ?_ | with_reducible refine vcg_regR (fun K0 hK0 => ?_) | with_reducible refine vcg_cond ?_ | with_reducible refine vcg_blk ?_ | with_reducible refine vcg_skip ?_ | with_reducible refine vcg_ret ?_ | with_reducible refine vcg_exit ?_ | with_reducible refine vcg_scope ?_ | with_reducible refine blkQ_normal ?_ | with_reducible refine blkQ_ret ?_ | with_reducible refine blkQ_hit rfl ?_ | with_reducible refine blkQ_miss rfl ?_ | refine And.intro (by decide) ?_ | refine isCells_of (hs.get 0 rfl) ?_ | refine rdCells_of (hs.get 0 rfl) ?_ | refine isCells_of (hs.get 1 rfl) ?_ | refine rdCells_of (hs.get 1 rfl) ?_ | refine isCells_of (hs.get 2 rfl) ?_ | refine rdCells_of (hs.get 2 rfl) ?_ | refine isCells_of (hs.get 3 rfl) ?_ | refine rdCells_of (hs.get 3 rfl) ?_ | refine Exists.intro _ (And.intro rfl ?_) | refine And.intro (fun h => absurd h (by decide)) (fun _ => ?_) | refine And.intro (fun _ => ?_) (fun h => absurd h (by decide)) | refine And.intro (by omega) ?_ | refine Or.inl (Exists.intro _ (And.intro rfl (And.intro (by unfold I64; omega) ?_))) | refine new_hs hs (fun _ _ _ _ hs => ?_) | refine newS_hs hs (fun _ _ _ _ hs => ?_) | refine store_hs hs 0 rfl _ rfl rfl (Nat.le_of_ble_eq_true rfl) rfl (fun _ _ hs => ?_) | refine store_hs hs 1 rfl _ rfl rfl (Nat.le_of_ble_eq_true rfl) rfl (fun _ _ hs => ?_) | refine store_hs hs 2 rfl _ rfl rfl (Nat.le_of_ble_eq_true rfl) rfl (fun _ _ hs => ?_) | refine rd ?_ | (refine hK0 _ _ ?_; clear hK0) | fail)
  refine c29 (gr.up (hs_nil hs)) (hst.up (hs_nil hs)) hl hw hll (fun H2 hn => ?_)
  have hs := hs_none hs hn
  clear hn
  have hd := hs_get (hs_nil hs) hd0
  replace h := h H2 (hs_nil hs)
  have hrg : sndF t l = 0 → ∀ x ∈ l, 0 ≤ x.rd ∧ x.rd < 256 := fun h0 => by
    unfold sndF at h0
    split at h0
    · rename_i hz; exact absurd h0 hz
    · exact snd_rg h0
  unfold rndF at h
  generalize sndF t l = z at h hrg ⊢
  repeat' (first | with_reducible refine vcg_assoc ?_ | with_reducible refine vcg_seqR (fun K0 hK0 => ?_) | with_reducible refine vcg_seqC ?_ | with_reducible refine vcg_seqB ?_ | with_reducible refine vcg_seqSkip ?_ | with_reducible refine vcg_seqRet ?_ | with_reducible refine vcg_seqExit ?_ | with_reducible refine vcg_seqScope ?_ | with_reducible refine vcg_regR (fun K0 hK0 => ?_) | with_reducible refine vcg_cond ?_ | with_reducible refine vcg_blk ?_ | with_reducible refine vcg_skip ?_ | with_reducible refine vcg_ret ?_ | with_reducible refine vcg_exit ?_ | with_reducible refine vcg_scope ?_ | with_reducible refine blkQ_normal ?_ | with_reducible refine blkQ_ret ?_ | with_reducible refine blkQ_hit rfl ?_ | with_reducible refine blkQ_miss rfl ?_ | refine And.intro (by decide) ?_ | refine isCells_of (hs.get 0 rfl) ?_ | refine rdCells_of (hs.get 0 rfl) ?_ | refine isCells_of (hs.get 1 rfl) ?_ | refine rdCells_of (hs.get 1 rfl) ?_ | refine isCells_of (hs.get 2 rfl) ?_ | refine rdCells_of (hs.get 2 rfl) ?_ | refine isCells_of (hs.get 3 rfl) ?_ | refine rdCells_of (hs.get 3 rfl) ?_ | refine Exists.intro _ (And.intro rfl ?_) | refine And.intro (fun h => absurd h (by decide)) (fun _ => ?_) | refine And.intro (fun _ => ?_) (fun h => absurd h (by decide)) | refine And.intro (by omega) ?_ | refine Or.inl (Exists.intro _ (And.intro rfl (And.intro (by unfold I64; omega) ?_))) | refine new_hs hs (fun _ _ _ _ hs => ?_) | refine newS_hs hs (fun _ _ _ _ hs => ?_) | refine store_hs hs 0 rfl _ rfl rfl (Nat.le_of_ble_eq_true rfl) rfl (fun _ _ hs => ?_) | refine store_hs hs 1 rfl _ rfl rfl (Nat.le_of_ble_eq_true rfl) rfl (fun _ _ hs => ?_) | refine store_hs hs 2 rfl _ rfl rfl (Nat.le_of_ble_eq_true rfl) rfl (fun _ _ hs => ?_) | ((refine And.intro (fun hc => ?_) (fun hc => ?_)) <;> (try simp only [decide_eq_true_eq, decide_eq_false_iff_not, Bool.not_eq_true', Bool.not_eq_false', Bool.not_false, Bool.not_true, bne_iff_ne, ne_eq, Decidable.not_not, Int.not_lt, Int.not_le] at hc) <;> (try (exfalso; omega))) | refine rd ?_ | (refine hK0 _ _ ?_; clear hK0) | fail)
  all_goals try (
    (repeat (first | rw [if_pos (by omega)] at h | rw [if_neg (by omega)] at h))
    exact h; done)
  have hlt : l.length - 1 < l.length := by omega
  have hx := hrg (by omega) l[l.length - 1]! (by rw [getElem!_pos l _ hlt]; exact List.getElem_mem _)
  rw [if_neg (by omega)] at h
  refine isCells_of hd (Exists.intro (l.length - 1) (And.intro (by omega) (And.intro hlt ?_)))
  repeat' (first | with_reducible refine vcg_assoc ?_ | with_reducible refine vcg_seqR (fun K0 hK0 => ?_) | with_reducible refine vcg_seqC ?_ | with_reducible refine vcg_seqB ?_ | with_reducible refine vcg_seqSkip ?_ | with_reducible refine vcg_seqRet ?_ | with_reducible refine vcg_seqExit ?_ | with_reducible refine vcg_seqScope ?_ | with_reducible refine vcg_regR (fun K0 hK0 => ?_) | with_reducible refine vcg_cond ?_ | with_reducible refine vcg_blk ?_ | with_reducible refine vcg_skip ?_ | with_reducible refine vcg_ret ?_ | with_reducible refine vcg_exit ?_ | with_reducible refine vcg_scope ?_ | with_reducible refine blkQ_normal ?_ | with_reducible refine blkQ_ret ?_ | with_reducible refine blkQ_hit rfl ?_ | with_reducible refine blkQ_miss rfl ?_ | refine And.intro (by decide) ?_ | refine isCells_of (hs.get 0 rfl) ?_ | refine rdCells_of (hs.get 0 rfl) ?_ | refine isCells_of (hs.get 1 rfl) ?_ | refine rdCells_of (hs.get 1 rfl) ?_ | refine isCells_of (hs.get 2 rfl) ?_ | refine rdCells_of (hs.get 2 rfl) ?_ | refine isCells_of (hs.get 3 rfl) ?_ | refine rdCells_of (hs.get 3 rfl) ?_ | refine Exists.intro _ (And.intro rfl ?_) | refine And.intro (fun h => absurd h (by decide)) (fun _ => ?_) | refine And.intro (fun _ => ?_) (fun h => absurd h (by decide)) | refine And.intro (by omega) ?_ | refine Or.inl (Exists.intro _ (And.intro rfl (And.intro (by unfold I64; omega) ?_))) | refine new_hs hs (fun _ _ _ _ hs => ?_) | refine newS_hs hs (fun _ _ _ _ hs => ?_) | refine store_hs hs 0 rfl _ rfl rfl (Nat.le_of_ble_eq_true rfl) rfl (fun _ _ hs => ?_) | refine store_hs hs 1 rfl _ rfl rfl (Nat.le_of_ble_eq_true rfl) rfl (fun _ _ hs => ?_) | refine store_hs hs 2 rfl _ rfl rfl (Nat.le_of_ble_eq_true rfl) rfl (fun _ _ hs => ?_) | ((refine And.intro (fun hc => ?_) (fun hc => ?_)) <;> (try simp only [decide_eq_true_eq, decide_eq_false_iff_not, Bool.not_eq_true', Bool.not_eq_false', Bool.not_false, Bool.not_true, bne_iff_ne, ne_eq, Decidable.not_not, Int.not_lt, Int.not_le] at hc) <;> (try (exfalso; omega))) | refine rd ?_ | (refine hK0 _ _ ?_; clear hK0) | fail)
  refine isCells_of hd ?_
  repeat' (first | with_reducible refine vcg_assoc ?_ | with_reducible refine vcg_seqR (fun K0 hK0 => ?_) | with_reducible refine vcg_seqC ?_ | with_reducible refine vcg_seqB ?_ | with_reducible refine vcg_seqSkip ?_ | with_reducible refine vcg_seqRet ?_ | with_reducible refine vcg_seqExit ?_ | with_reducible refine vcg_seqScope ?_ | with_reducible refine vcg_regR (fun K0 hK0 => ?_) | with_reducible refine vcg_cond ?_ | with_reducible refine vcg_blk ?_ | with_reducible refine vcg_skip ?_ | with_reducible refine vcg_ret ?_ | with_reducible refine vcg_exit ?_ | with_reducible refine vcg_scope ?_ | with_reducible refine blkQ_normal ?_ | with_reducible refine blkQ_ret ?_ | with_reducible refine blkQ_hit rfl ?_ | with_reducible refine blkQ_miss rfl ?_ | refine And.intro (by decide) ?_ | refine isCells_of (hs.get 0 rfl) ?_ | refine rdCells_of (hs.get 0 rfl) ?_ | refine isCells_of (hs.get 1 rfl) ?_ | refine rdCells_of (hs.get 1 rfl) ?_ | refine isCells_of (hs.get 2 rfl) ?_ | refine rdCells_of (hs.get 2 rfl) ?_ | refine isCells_of (hs.get 3 rfl) ?_ | refine rdCells_of (hs.get 3 rfl) ?_ | refine Exists.intro _ (And.intro rfl ?_) | refine And.intro (fun h => absurd h (by decide)) (fun _ => ?_) | refine And.intro (fun _ => ?_) (fun h => absurd h (by decide)) | refine And.intro (by omega) ?_ | refine Or.inl (Exists.intro _ (And.intro rfl (And.intro (by unfold I64; omega) ?_))) | refine new_hs hs (fun _ _ _ _ hs => ?_) | refine newS_hs hs (fun _ _ _ _ hs => ?_) | refine store_hs hs 0 rfl _ rfl rfl (Nat.le_of_ble_eq_true rfl) rfl (fun _ _ hs => ?_) | refine store_hs hs 1 rfl _ rfl rfl (Nat.le_of_ble_eq_true rfl) rfl (fun _ _ hs => ?_) | refine store_hs hs 2 rfl _ rfl rfl (Nat.le_of_ble_eq_true rfl) rfl (fun _ _ hs => ?_) | ((refine And.intro (fun hc => ?_) (fun hc => ?_)) <;> (try simp only [decide_eq_true_eq, decide_eq_false_iff_not, Bool.not_eq_true', Bool.not_eq_false', Bool.not_false, Bool.not_true, bne_iff_ne, ne_eq, Decidable.not_not, Int.not_lt, Int.not_le] at hc) <;> (try (exfalso; omega))) | refine rd ?_ | (refine hK0 _ _ ?_; clear hK0) | fail)
  refine rdCells_of hd ?_
  refine Ld_st (k := 0) hlt (by decide) rfl ?_
  generalize l[l.length - 1]! = x at h hx ⊢
  repeat' (first | with_reducible refine vcg_assoc ?_ | with_reducible refine vcg_seqR (fun K0 hK0 => ?_) | with_reducible refine vcg_seqC ?_ | with_reducible refine vcg_seqB ?_ | with_reducible refine vcg_seqSkip ?_ | with_reducible refine vcg_seqRet ?_ | with_reducible refine vcg_seqExit ?_ | with_reducible refine vcg_seqScope ?_ | with_reducible refine vcg_regR (fun K0 hK0 => ?_) | with_reducible refine vcg_cond ?_ | with_reducible refine vcg_blk ?_ | with_reducible refine vcg_skip ?_ | with_reducible refine vcg_ret ?_ | with_reducible refine vcg_exit ?_ | with_reducible refine vcg_scope ?_ | with_reducible refine blkQ_normal ?_ | with_reducible refine blkQ_ret ?_ | with_reducible refine blkQ_hit rfl ?_ | with_reducible refine blkQ_miss rfl ?_ | refine And.intro (by decide) ?_ | refine isCells_of (hs.get 0 rfl) ?_ | refine rdCells_of (hs.get 0 rfl) ?_ | refine isCells_of (hs.get 1 rfl) ?_ | refine rdCells_of (hs.get 1 rfl) ?_ | refine isCells_of (hs.get 2 rfl) ?_ | refine rdCells_of (hs.get 2 rfl) ?_ | refine isCells_of (hs.get 3 rfl) ?_ | refine rdCells_of (hs.get 3 rfl) ?_ | refine Exists.intro _ (And.intro rfl ?_) | refine And.intro (fun h => absurd h (by decide)) (fun _ => ?_) | refine And.intro (fun _ => ?_) (fun h => absurd h (by decide)) | refine And.intro (by omega) ?_ | refine Or.inl (Exists.intro _ (And.intro rfl (And.intro (by unfold I64; omega) ?_))) | refine new_hs hs (fun _ _ _ _ hs => ?_) | refine newS_hs hs (fun _ _ _ _ hs => ?_) | refine store_hs hs 0 rfl _ rfl rfl (Nat.le_of_ble_eq_true rfl) rfl (fun _ _ hs => ?_) | refine store_hs hs 1 rfl _ rfl rfl (Nat.le_of_ble_eq_true rfl) rfl (fun _ _ hs => ?_) | refine store_hs hs 2 rfl _ rfl rfl (Nat.le_of_ble_eq_true rfl) rfl (fun _ _ hs => ?_) | ((refine And.intro (fun hc => ?_) (fun hc => ?_)) <;> (try simp only [decide_eq_true_eq, decide_eq_false_iff_not, Bool.not_eq_true', Bool.not_eq_false', Bool.not_false, Bool.not_true, bne_iff_ne, ne_eq, Decidable.not_not, Int.not_lt, Int.not_le] at hc) <;> (try (exfalso; omega))) | refine rd ?_ | (refine hK0 _ _ ?_; clear hK0) | fail)
  have hz : z = 0 := by omega
  subst hz
  exact h

abbrev schN (t : Tk) (alg : Int) (b c : Nat) : List Value := [.int .i64 t.op, .int .i64 t.pr, .int .i64 t.ro, .int .i64 t.pa, sv b t.sz.length, sv c t.ws.length, .int .i64 alg, .slice none 0 0]
abbrev zer8 : List Value := [.int .i64 0, .int .i64 0, .int .i64 0, .int .i64 0, .slice none 0 0, .slice none 0 0, .int .i64 0, .slice none 0 0]
theorem sch_wk (t : Tk) (alg : Int) (b c k : Nat) : ∀ (i : Nat) (v v' : Value), (schN t alg b c)[i]? = some v → (schC t alg b c k 0)[i]? = some v' → WkV v v'
  | 0, v, v', h1, h2 => by cases h1; cases h2; exact .rfl
  | 1, v, v', h1, h2 => by cases h1; cases h2; exact .rfl
  | 2, v, v', h1, h2 => by cases h1; cases h2; exact .rfl
  | 3, v, v', h1, h2 => by cases h1; cases h2; exact .rfl
  | 4, v, v', h1, h2 => by cases h1; cases h2; exact .rfl
  | 5, v, v', h1, h2 => by cases h1; cases h2; exact .rfl
  | 6, v, v', h1, h2 => by cases h1; cases h2; exact .rfl
  | 7, v, v', h1, h2 => by cases h1; cases h2; exact .nil _
  | i + 8, v, v', h1, h2 => by simp at h1
theorem c23 {H : List Blk} {t : Tk} {alg : Int} {l : List St} {b c d : Nat} {R : Value → List Blk → Prop} (hst : Sts H l d) (hll : l.length ≤ 1000000) (h : ∀ H' k, HS H none' [(true, k, .cells true 6 (stsC l))] H' → R (schV t alg b c k l.length) H') :
    ACall Tryz.prog 23 [schV t alg b c d l.length] H R := by
  obtain ⟨w1, hd0⟩ := hst.s
  refine acall_vcg tok Tryz.call23 Tryz.func23 rfl Tryz.ntmps23 rfl (by simp) ?_
  refine new_hs (HS.start H none') (fun H1 b1 e1 l1 hs => ?_)
  refine new_hs hs (fun H1 b2 e2 l2 hs => ?_)
  clear e1 l1 e2 l2
  refine vcg_drawT tok mx [0, 1, 3, 0, 8, 31, 0, 127] [false, false, false, true, true, false, true, false] (.first 0 (.first 1 (.first 3 (.alt 2 (.first 4 (.first 5 (.first 6 (.first 7 .done)))) (.alt 4 (.alt 2 (.first 5 (.first 6 (.first 7 .done))) (.alt 6 (.first 2 (.first 5 (.first 7 .done))) .no)) (.alt 6 (.alt 2 (.first 4 (.first 5 (.first 7 .done))) (.alt 4 (.first 2 (.first 5 (.first 7 .done))) .no)) .no)))))) (by kernel_rfl) ?_
  refine vopsT_gen (fun K0 hK0 => ?_)
  repeat' (first | refine And.intro (by decide) ?_ | refine isCells_of (hs.get 0 rfl) ?_ | refine isCells_of (hs.get 1 rfl) ?_ | refine isCells_of (hs.get 2 rfl) ?_ | refine rdCells_of (hs.get 0 rfl) ?_ | refine rdCells_of (hs.get 1 rfl) ?_ | refine rdCells_of (hs.get 2 rfl) ?_ | refine Exists.intro _ (And.intro rfl ?_) | (refine c18 (fun _ hn => ?_); have hs := hs_none hs hn; clear hn) | refine new_hs hs (fun H3 b3 e3 l3 hs => ?_) | refine store_hs hs 0 rfl (schN t alg b c) rfl rfl (Nat.le_of_ble_eq_true rfl) rfl (fun H4 e4 hs => ?_) | exact True.intro | refine And.intro ?_ ?_ | (refine hK0 _ _ ?_; clear hK0) | fail)
  all_goals (
    have hs := hs.pick [0, 1, 2] (by decide) rfl (L' := [(true, b3, .cells true 1 (schN t alg b c)), (true, b2, .cells true 1 zer8), (true, b1, .cells true 1 (schC t alg b c d l.length))])
    clear e3 l3 e4
    refine vcg_loopV (α := List Blk × Nat × Nat) tok (fun z => HS H none' [(true, z.2.1, .cells true 6 (stsC (l.take z.2.2))), (true, b3, .cells true 1 (schC t alg b c z.2.1 z.2.2)), (true, b2, .cells true 1 zer8), (true, b1, .cells true 1 (schC t alg b c d l.length))] z.1 ∧ z.2.2 ≤ l.length)
      (fun | ⟨_, _, i⟩ => [(1, .pointer (some ⟨b1, 0, none⟩)), (2, .pointer (some ⟨b2, 0, none⟩)), (3, .pointer (some ⟨b3, 0, none⟩)), (4, .int .i64 (i : Int))]) (fun | ⟨H', _, _⟩ => H') (fun z => l.length - z.2.2)
      ⟨(H4.set b3 (.cells true 1 (schC t alg b c H4.length 0))) ++ [.cells true 6 []], H4.length, 0⟩ ⟨?_, Nat.zero_le _⟩ ⟨⟨_, rfl, .rfl⟩, ⟨_, rfl, .rfl⟩, ⟨_, rfl, .rfl⟩, ⟨_, rfl, .rfl⟩, trivial⟩ ((WkH.rfl.set (vs' := schC t alg b c H4.length 0) (hs.get 0 rfl) rfl (sch_wk t alg b c _)).app _) ?_
    · have hv := (hs.vset 0 rfl (B' := .cells true 1 (schC t alg b c H4.length 0))).virt (.cells true 6 [])
      rw [List.length_set] at hv
      exact hv
    clear hs
    rintro ⟨H5, k, i⟩ ⟨hs, hi⟩
    dsimp only at hs hi ⊢
    have hd := hs_get (hs_nil hs) hd0
    refine And.intro (by decide) ?_
    refine isCells_of (hs.get 3 rfl) ?_
    refine rdCells_of (hs.get 3 rfl) ⟨_, rfl, ?_⟩
    refine And.intro (fun hc => ?_) (fun hc => ?_)
    · have hlt : i < l.length := by simp at hc; omega
      clear hc
      have et : stsC (l.take (i + 1)) = stsC (l.take i) ++ stC l[i]! := by rw [List.take_succ_eq_append_getElem hlt, stsC_snoc, getElem!_pos l i hlt]
      refine vcg_draw tok mx [0, 1, 0, 4, 0, 28, 60, 124, 255, 511, 1023] [false, false, true, true, true, true, true, true, false, false, false] [0, 1, 2, 3, 4, 5, 6, 7, 8, 9, 10] (by kernel_rfl) ?_
      refine vopsO_gen (fun K0 hK0 => ?_)
      refine And.intro (by decide) ?_
      refine isCells_of (hs.get 1 rfl) ?_
      refine rdCells_of (hs.get 1 rfl) ⟨_, rfl, ?_⟩
      refine And.intro (by decide) ?_
      refine isCells_of (hs.get 3 rfl) ?_
      refine rdCells_of (hs.get 3 rfl) ⟨_, rfl, ?_⟩
      refine isCells_of hd ⟨i, rfl, hlt, ?_⟩
      refine rdCells_of hd ?_
      refine seg_st hlt ?_
      generalize l[i]! = x at et ⊢
      refine And.intro (by decide) ?_
      refine newS_hs hs (fun H6 j e6 l6 hs => ?_)
      refine And.intro rfl ?_
      refine app_hs hs 1 (us := stC x) rfl (by decide) (hs.get 0 rfl) rfl rfl (by show (stsC (l.take i)).length = i * 6; rw [stsC_len, List.length_take]; omega) (by show (i + 1) * (48 + 1) ≤ _; omega) (fun H7 k' e7 l7 hs => ?_)
      refine And.intro (by decide) ?_
      refine isCells_of (hs.get 2 rfl) ?_
      refine store_hs hs 2 rfl (schC t alg b c k' (i + 1)) rfl rfl (Nat.le_of_ble_eq_true rfl) rfl (fun H8 e8 hs => ?_)
      refine hK0 _ _ ?_
      clear hK0
      refine Or.inl ⟨((i + 1 : Nat) : Int), by simp, by unfold I64; omega, ?_⟩
      refine ⟨⟨H8, k', i + 1⟩, ⟨?_, hlt⟩, by dsimp only; omega, Or.inl ⟨⟨rfl, rfl, rfl, rfl, trivial⟩, rfl⟩⟩
      dsimp only
      rw [et]
      exact hs.pick [1, 2, 3, 4] (by decide) rfl
    · have hie : i = l.length := by simp at hc; omega
      subst hie
      rw [List.take_length] at hs
      refine rdCells_of (hs.get 1 rfl) ⟨_, rfl, _, rfl, _, rfl, _, rfl, _, rfl, _, rfl, _, rfl, _, rfl, ?_⟩
      refine store_hs hs 2 rfl (schC t alg b c k l.length) rfl rfl (Nat.le_of_ble_eq_true rfl) rfl (fun H8 e8 hs => ?_)
      change resK T _ _ _ _
      refine resK_agg (by rfl) (by rfl) (hs.get 2 rfl) (by rfl) ?_
      refine ⟨_, rfl, _, rfl, _, rfl, _, rfl, _, rfl, _, rfl, _, rfl, _, rfl, ?_⟩
      exact h H8 k (hs.pick [0] (by decide) rfl))
end Go.Af.Tryz
namespace Go.Af.Tryz
open Go Go.Proofs
open Go.Af.Coll (St Ck lk upd takesF emp sndP sndR selfF roundF freshF addF badP cmpF befF faultF twiceF busyF)
set_option maxRecDepth 100000
set_option maxHeartbeats 4000000
attribute [local irreducible] awp ACall ACallX AYield AInvoke newSlice isCells rdCells wrCells aAppend rangeEnd roundBegin roundEnd rdMap wrMap keyK mfind

def ftwF (x y : St) : Bool := decide (y.rd = x.rd) && (decide (y.to = x.to) && decide (y.ds = x.ds))
def fbsF (x y : St) : Bool := decide (y.rd = x.rd) && (decide (x.fr ≠ x.to) && (decide (y.fr ≠ y.to) && ((decide (y.fr = x.fr) && decide (y.to ≠ x.to)) || (decide (y.to = x.to) && decide (y.fr ≠ x.fr)))))
theorem twice_snoc (p : List St) (y x : St) : twiceF (p ++ [y]) x = (twiceF p x || ftwF x y) := by unfold twiceF ftwF; rw [List.any_append]; simp
theorem busy_snoc (p : List St) (y x : St) : busyF (p ++ [y]) x = (busyF p x || fbsF x y) := by unfold busyF fbsF; rw [List.any_append]; simp

theorem c85 {H : List Blk} {t : Tk} {alg slots : Int} {l : List St} {i : Nat} {b c d : Nat} {R : Value → List Blk → Prop} (hst : Sts H l d) (hll : l.length ≤ 1000000) (hlt : i < l.length) (h : ∀ H', HS H none' [] H' → R (.int .i64 (faultF t.pr slots (l.take i) l[i]!)) H') :
    ACall Tryz.prog 85 [schV t alg b c d l.length, .int .i64 slots, .int .i64 (i : Int)] H R := by
  obtain ⟨w1, hd0⟩ := hst.s
  refine acall_vcg tok Tryz.call85 Tryz.func85 rfl Tryz.ntmps85 rfl (by simp) ?_
  refine new_hs (HS.start H none') (fun H1 b1 e1 l1 hs => ?_)
  refine vops_gen (fun _ hKs => hKs _ _ ?_); clear hKs
  have hd := hs_get (hs_nil hs) hd0
  repeat' (first | with_reducible refine vcg_assoc ?_ | with_reducible refine vcg_seqR (fun K0 hK0 => ?_) | with_reducible refine vcg_seqC ?_ | with_reducible refine vcg_seqB ?_ | with_reducible refine vcg_seqSkip ?_ | with_reducible refine vcg_seqRet ?_ | with_reducible refine vcg_seqExit ?_ | with_reducible refine vcg_seqScope ?_ | with_reducible refine vcg_regR (fun K0 hK0 => ?_) | with_reducible refine vcg_cond ?_ | with_reducible refine vcg_blk ?_ | with_reducible refine vcg_skip ?_ | with_reducible refine vcg_ret ?_ | with_reducible refine vcg_exit ?_ | with_reducible refine vcg_scope ?_ | with_reducible refine blkQ_normal ?_ | with_reducible refine blkQ_ret ?_ | with_reducible refine blkQ_hit rfl ?_ | with_reducible refine blkQ_miss rfl ?_ | refine And.intro (by decide) ?_ | refine isCells_of (hs.get 0 rfl) ?_ | refine rdCells_of (hs.get 0 rfl) ?_ | refine isCells_of (hs.get 1 rfl) ?_ | refine rdCells_of (hs.get 1 rfl) ?_ | refine isCells_of (hs.get 2 rfl) ?_ | refine rdCells_of (hs.get 2 rfl) ?_ | refine isCells_of (hs.get 3 rfl) ?_ | refine rdCells_of (hs.get 3 rfl) ?_ | refine Exists.intro _ (And.intro rfl ?_) | refine And.intro (fun h => absurd h (by decide)) (fun _ => ?_) | refine And.intro (fun _ => ?_) (fun h => absurd h (by decide)) | refine And.intro (by omega) ?_ | refine Or.inl (Exists.intro _ (And.intro rfl (And.intro (by unfold I64; omega) ?_))) | refine new_hs hs (fun _ _ _ _ hs => ?_) | refine newS_hs hs (fun _ _ _ _ hs => ?_) | refine store_hs hs 0 rfl _ rfl rfl (Nat.le_of_ble_eq_true rfl) rfl (fun _ _ hs => ?_) | refine store_hs hs 1 rfl _ rfl rfl (Nat.le_of_ble_eq_true rfl) rfl (fun _ _ hs => ?_) | refine store_hs hs 2 rfl _ rfl rfl (Nat.le_of_ble_eq_true rfl) rfl (fun _ _ hs => ?_) | refine rd ?_ | (refine hK0 _ _ ?_; clear hK0) | fail)
  refine isCells_of hd ⟨i, rfl, hlt, ?_⟩
  refine rdCells_of hd ?_
  refine seg_st hlt ?_
  unfold faultF at h
  generalize hprev : (l.take i).getLast? = prev at h
  generalize l[i]! = x at h ⊢
  refine new_hs hs (fun H2 xb e2 l2 hs => ?_)
  refine store_hs hs 0 rfl (stC x) rfl rfl (Nat.le_of_ble_eq_true rfl) rfl (fun H3 e3 hs => ?_)
  refine hK0 _ _ ?_
  clear hK0 e1 l1 e2 l2 e3
  have hs := hs.pick [0, 1] (by decide) rfl (L' := [(true, xb, .cells true 1 (stC x)), (true, b1, .cells true 1 (schC t alg b c d l.length))])
  have bad : ∀ v H', v ≠ 0 → selfF t.pr slots prev x = v → HS H none' [] H' → R (.int .i64 v) H' := fun v H' hv he hn => by
    have := h H' hn
    simp only [he, ne_eq, hv, not_false_eq_true, if_true] at this
    exact this
  repeat' (first | with_reducible refine vcg_assoc ?_ | with_reducible refine vcg_seqR (fun K0 hK0 => ?_) | with_reducible refine vcg_seqC ?_ | with_reducible refine vcg_seqB ?_ | with_reducible refine vcg_seqSkip ?_ | with_reducible refine vcg_seqRet ?_ | with_reducible refine vcg_seqExit ?_ | with_reducible refine vcg_seqScope ?_ | with_reducible refine vcg_regR (fun K0 hK0 => ?_) | with_reducible refine vcg_cond ?_ | with_reducible refine vcg_blk ?_ | with_reducible refine vcg_skip ?_ | with_reducible refine vcg_ret ?_ | with_reducible refine vcg_exit ?_ | with_reducible refine vcg_scope ?_ | with_reducible refine blkQ_normal ?_ | with_reducible refine blkQ_ret ?_ | with_reducible refine blkQ_hit rfl ?_ | with_reducible refine blkQ_miss rfl ?_ | refine And.intro (by decide) ?_ | refine isCells_of (hs.get 0 rfl) ?_ | refine rdCells_of (hs.get 0 rfl) ?_ | refine isCells_of (hs.get 1 rfl) ?_ | refine rdCells_of (hs.get 1 rfl) ?_ | refine isCells_of (hs.get 2 rfl) ?_ | refine rdCells_of (hs.get 2 rfl) ?_ | refine isCells_of (hs.get 3 rfl) ?_ | refine rdCells_of (hs.get 3 rfl) ?_ | refine Exists.intro _ (And.intro rfl ?_) | refine And.intro (fun h => absurd h (by decide)) (fun _ => ?_) | refine And.intro (fun _ => ?_) (fun h => absurd h (by decide)) | refine And.intro (by omega) ?_ | refine Or.inl (Exists.intro _ (And.intro rfl (And.intro (by unfold I64; omega) ?_))) | refine new_hs hs (fun _ _ _ _ hs => ?_) | refine newS_hs hs (fun _ _ _ _ hs => ?_) | refine store_hs hs 0 rfl _ rfl rfl (Nat.le_of_ble_eq_true rfl) rfl (fun _ _ hs => ?_) | refine store_hs hs 1 rfl _ rfl rfl (Nat.le_of_ble_eq_true rfl) rfl (fun _ _ hs => ?_) | refine store_hs hs 2 rfl _ rfl rfl (Nat.le_of_ble_eq_true rfl) rfl (fun _ _ hs => ?_) | ((refine And.intro (fun hc => ?_) (fun hc => ?_)) <;> (try simp only [decide_eq_true_eq, decide_eq_false_iff_not, Bool.not_eq_true', Bool.not_eq_false', Bool.not_false, Bool.not_true, bne_iff_ne, ne_eq, Decidable.not_not, Int.not_lt, Int.not_le] at hc) <;> (try (exfalso; omega))) | refine rd ?_ | (refine hK0 _ _ ?_; clear hK0) | fail)
  all_goals try (
    refine bad _ _ (by decide) ?_ (hs_nil hs)
    unfold selfF
    repeat (first | rw [if_pos (by omega)] | rw [if_neg (by omega)])
    done)
  have hself : ∀ P : Prop, [Decidable P] → (P ↔ (x.jn < 0 ∨ 2 < x.jn ∨ badP prev x = true)) → selfF t.pr slots prev x = if P then 2 else 0 := fun P _ hP => by
    unfold selfF
    rw [if_neg (by omega), if_neg (by omega), if_neg (by omega)]
    simp only [hP]
  refine vcg_draw tok mx [0, 1, 3, 7, 15, 31, 63, 127, 255, 511, 1023, 2047, 4095, 8191, 4095, 20479, 65535, 131071, 4095, 524287, 1048575, 2097151, 4194303] [false, false, false, false, false, false, false, false, false, false, false, false, false, false, true, true, false, false, true, false, false, false, false] [0, 1, 2, 3, 4, 5, 6, 7, 8, 9, 10, 11, 12, 13, 14, 15, 16, 17, 18, 19, 20, 21, 22] (by kernel_rfl) ?_
  refine vopsO_gen (fun K0 hK0 => ?_)
  have hd8 := hs_get (hs_nil hs) hd0
  rcases Nat.eq_zero_or_pos i with hi0 | hi0
  · have hpr : prev = none := by rw [← hprev, hi0]; rfl
    subst hpr
    repeat' (first | with_reducible refine vcg_assoc ?_ | with_reducible refine vcg_seqR (fun K0 hK0 => ?_) | with_reducible refine vcg_seqC ?_ | with_reducible refine vcg_seqB ?_ | with_reducible refine vcg_seqSkip ?_ | with_reducible refine vcg_seqRet ?_ | with_reducible refine vcg_seqExit ?_ | with_reducible refine vcg_seqScope ?_ | with_reducible refine vcg_regR (fun K0 hK0 => ?_) | with_reducible refine vcg_cond ?_ | with_reducible refine vcg_blk ?_ | with_reducible refine vcg_skip ?_ | with_reducible refine vcg_ret ?_ | with_reducible refine vcg_exit ?_ | with_reducible refine vcg_scope ?_ | with_reducible refine blkQ_normal ?_ | with_reducible refine blkQ_ret ?_ | with_reducible refine blkQ_hit rfl ?_ | with_reducible refine blkQ_miss rfl ?_ | refine And.intro (by decide) ?_ | refine isCells_of (hs.get 0 rfl) ?_ | refine rdCells_of (hs.get 0 rfl) ?_ | refine isCells_of (hs.get 1 rfl) ?_ | refine rdCells_of (hs.get 1 rfl) ?_ | refine isCells_of (hs.get 2 rfl) ?_ | refine rdCells_of (hs.get 2 rfl) ?_ | refine isCells_of (hs.get 3 rfl) ?_ | refine rdCells_of (hs.get 3 rfl) ?_ | refine Exists.intro _ (And.intro rfl ?_) | refine And.intro (fun h => absurd h (by decide)) (fun _ => ?_) | refine And.intro (fun _ => ?_) (fun h => absurd h (by decide)) | refine And.intro (by omega) ?_ | refine Or.inl (Exists.intro _ (And.intro rfl (And.intro (by unfold I64; omega) ?_))) | refine new_hs hs (fun _ _ _ _ hs => ?_) | refine newS_hs hs (fun _ _ _ _ hs => ?_) | refine store_hs hs 0 rfl _ rfl rfl (Nat.le_of_ble_eq_true rfl) rfl (fun _ _ hs => ?_) | refine store_hs hs 1 rfl _ rfl rfl (Nat.le_of_ble_eq_true rfl) rfl (fun _ _ hs => ?_) | refine store_hs hs 2 rfl _ rfl rfl (Nat.le_of_ble_eq_true rfl) rfl (fun _ _ hs => ?_) | ((refine And.intro (fun hc => ?_) (fun hc => ?_)) <;> (try simp only [decide_eq_true_eq, decide_eq_false_iff_not, Bool.not_eq_true', Bool.not_eq_false', Bool.not_false, Bool.not_true, bne_iff_ne, ne_eq, Decidable.not_not, Int.not_lt, Int.not_le] at hc) <;> (try (exfalso; omega))) | refine rd ?_ | (refine hK0 _ _ ?_; clear hK0) | fail)
    all_goals try (
      refine bad _ _ (by decide) ?_ (hs_nil hs)
      unfold selfF
      repeat (first | rw [if_pos (by omega)] | rw [if_neg (by omega)])
      done)
    have hself0 : selfF t.pr slots none x = 0 := by
      have := hself (x.jn < 0 ∨ 2 < x.jn) (by simp [badP])
      rw [this, if_neg (by omega)]
    simp only [hself0, ne_eq, not_true, if_false] at h
    clear bad hself
    refine vcg_loopR (α := List Blk × Nat) tok (fun z => HS H none' [(true, xb, .cells true 1 (stC x)), (true, b1, .cells true 1 (schC t alg b c d l.length))] z.1 ∧ z.2 ≤ i)
      (fun z => [(2, .int .i64 ((i : Nat) : Int)), (3, .pointer (some ⟨b1, 0, none⟩)), (7, .pointer (some ⟨xb, 0, none⟩)), (8, .bool (twiceF (l.take z.2) x)), (9, .bool (busyF (l.take z.2) x)), (10, .int .i64 (z.2 : Int))]) (fun z => z.1) (fun z => i - z.2)
      (_, 0) ⟨hs, Nat.zero_le _⟩ (Or.inl ⟨⟨rfl, rfl, rfl, rfl, rfl, rfl, trivial⟩, rfl⟩) ?_
    clear hs
    rintro ⟨H5, k⟩ ⟨hs, hk⟩
    dsimp only at hs hk ⊢
    have hd5 := hs_get (hs_nil hs) hd0
    refine And.intro (fun hc => ?_) (fun hc => ?_)
    · have hki : k < i := by simp at hc; omega
      exfalso; omega
    · have hke : k = i := by simp at hc; omega
      subst hke
      replace h := h _ (hs_nil hs)
      generalize twiceF _ x = tw at h ⊢
      generalize busyF _ x = bs at h ⊢
      cases tw <;> cases bs
      all_goals (
        repeat' (first | with_reducible refine vcg_assoc ?_ | with_reducible refine vcg_seqR (fun K0 hK0 => ?_) | with_reducible refine vcg_seqC ?_ | with_reducible refine vcg_seqB ?_ | with_reducible refine vcg_seqSkip ?_ | with_reducible refine vcg_seqRet ?_ | with_reducible refine vcg_seqExit ?_ | with_reducible refine vcg_seqScope ?_ | with_reducible refine vcg_regR (fun K0 hK0 => ?_) | with_reducible refine vcg_cond ?_ | with_reducible refine vcg_blk ?_ | with_reducible refine vcg_skip ?_ | with_reducible refine vcg_ret ?_ | with_reducible refine vcg_exit ?_ | with_reducible refine vcg_scope ?_ | with_reducible refine blkQ_normal ?_ | with_reducible refine blkQ_ret ?_ | with_reducible refine blkQ_hit rfl ?_ | with_reducible refine blkQ_miss rfl ?_ | refine And.intro (by decide) ?_ | refine isCells_of (hs.get 0 rfl) ?_ | refine rdCells_of (hs.get 0 rfl) ?_ | refine isCells_of (hs.get 1 rfl) ?_ | refine rdCells_of (hs.get 1 rfl) ?_ | refine isCells_of (hs.get 2 rfl) ?_ | refine rdCells_of (hs.get 2 rfl) ?_ | refine isCells_of (hs.get 3 rfl) ?_ | refine rdCells_of (hs.get 3 rfl) ?_ | refine Exists.intro _ (And.intro rfl ?_) | refine And.intro (fun h => absurd h (by decide)) (fun _ => ?_) | refine And.intro (fun _ => ?_) (fun h => absurd h (by decide)) | refine And.intro (by omega) ?_ | refine Or.inl (Exists.intro _ (And.intro rfl (And.intro (by unfold I64; omega) ?_))) | refine new_hs hs (fun _ _ _ _ hs => ?_) | refine newS_hs hs (fun _ _ _ _ hs => ?_) | refine store_hs hs 0 rfl _ rfl rfl (Nat.le_of_ble_eq_true rfl) rfl (fun _ _ hs => ?_) | refine store_hs hs 1 rfl _ rfl rfl (Nat.le_of_ble_eq_true rfl) rfl (fun _ _ hs => ?_) | refine store_hs hs 2 rfl _ rfl rfl (Nat.le_of_ble_eq_true rfl) rfl (fun _ _ hs => ?_) | ((refine And.intro (fun hc => ?_) (fun hc => ?_)) <;> (try simp only [decide_eq_true_eq, decide_eq_false_iff_not, Bool.not_eq_true', Bool.not_eq_false', Bool.not_false, Bool.not_true, bne_iff_ne, ne_eq, Decidable.not_not, Int.not_lt, Int.not_le] at hc) <;> (try (exfalso; omega))) | refine rd ?_ | (refine hK0 _ _ ?_; clear hK0) | fail)
        exact h)
  · obtain ⟨j, rfl⟩ : ∃ j, i = j + 1 := ⟨i - 1, by omega⟩
    have hj : j < l.length := by omega
    have hpr : prev = some l[j]! := by rw [← hprev, List.take_succ_eq_append_getElem hj, List.getLast?_append, getElem!_pos l j hj]; rfl
    subst hpr
    repeat' (first | with_reducible refine vcg_assoc ?_ | with_reducible refine vcg_seqR (fun K0 hK0 => ?_) | with_reducible refine vcg_seqC ?_ | with_reducible refine vcg_seqB ?_ | with_reducible refine vcg_seqSkip ?_ | with_reducible refine vcg_seqRet ?_ | with_reducible refine vcg_seqExit ?_ | with_reducible refine vcg_seqScope ?_ | with_reducible refine vcg_regR (fun K0 hK0 => ?_) | with_reducible refine vcg_cond ?_ | with_reducible refine vcg_blk ?_ | with_reducible refine vcg_skip ?_ | with_reducible refine vcg_ret ?_ | with_reducible refine vcg_exit ?_ | with_reducible refine vcg_scope ?_ | with_reducible refine blkQ_normal ?_ | with_reducible refine blkQ_ret ?_ | with_reducible refine blkQ_hit rfl ?_ | with_reducible refine blkQ_miss rfl ?_ | refine And.intro (by decide) ?_ | refine isCells_of (hs.get 0 rfl) ?_ | refine rdCells_of (hs.get 0 rfl) ?_ | refine isCells_of (hs.get 1 rfl) ?_ | refine rdCells_of (hs.get 1 rfl) ?_ | refine isCells_of (hs.get 2 rfl) ?_ | refine rdCells_of (hs.get 2 rfl) ?_ | refine isCells_of (hs.get 3 rfl) ?_ | refine rdCells_of (hs.get 3 rfl) ?_ | refine Exists.intro _ (And.intro rfl ?_) | refine And.intro (fun h => absurd h (by decide)) (fun _ => ?_) | refine And.intro (fun _ => ?_) (fun h => absurd h (by decide)) | refine And.intro (by omega) ?_ | refine Or.inl (Exists.intro _ (And.intro rfl (And.intro (by unfold I64; omega) ?_))) | refine new_hs hs (fun _ _ _ _ hs => ?_) | refine newS_hs hs (fun _ _ _ _ hs => ?_) | refine store_hs hs 0 rfl _ rfl rfl (Nat.le_of_ble_eq_true rfl) rfl (fun _ _ hs => ?_) | refine store_hs hs 1 rfl _ rfl rfl (Nat.le_of_ble_eq_true rfl) rfl (fun _ _ hs => ?_) | refine store_hs hs 2 rfl _ rfl rfl (Nat.le_of_ble_eq_true rfl) rfl (fun _ _ hs => ?_) | ((refine And.intro (fun hc => ?_) (fun hc => ?_)) <;> (try simp only [decide_eq_true_eq, decide_eq_false_iff_not, Bool.not_eq_true', Bool.not_eq_false', Bool.not_false, Bool.not_true, bne_iff_ne, ne_eq, Decidable.not_not, Int.not_lt, Int.not_le] at hc) <;> (try (exfalso; omega))) | refine rd ?_ | (refine hK0 _ _ ?_; clear hK0) | fail)
    all_goals try (
      refine bad _ _ (by decide) ?_ (hs_nil hs)
      unfold selfF
      repeat (first | rw [if_pos (by omega)] | rw [if_neg (by omega)])
      done)
    refine isCells_of hd8 (Exists.intro j (And.intro (by omega) (And.intro hj ?_)))
    repeat' (first | with_reducible refine vcg_assoc ?_ | with_reducible refine vcg_seqR (fun K0 hK0 => ?_) | with_reducible refine vcg_seqC ?_ | with_reducible refine vcg_seqB ?_ | with_reducible refine vcg_seqSkip ?_ | with_reducible refine vcg_seqRet ?_ | with_reducible refine vcg_seqExit ?_ | with_reducible refine vcg_seqScope ?_ | with_reducible refine vcg_regR (fun K0 hK0 => ?_) | with_reducible refine vcg_cond ?_ | with_reducible refine vcg_blk ?_ | with_reducible refine vcg_skip ?_ | with_reducible refine vcg_ret ?_ | with_reducible refine vcg_exit ?_ | with_reducible refine vcg_scope ?_ | with_reducible refine blkQ_normal ?_ | with_reducible refine blkQ_ret ?_ | with_reducible refine blkQ_hit rfl ?_ | with_reducible refine blkQ_miss rfl ?_ | refine And.intro (by decide) ?_ | refine isCells_of (hs.get 0 rfl) ?_ | refine rdCells_of (hs.get 0 rfl) ?_ | refine isCells_of (hs.get 1 rfl) ?_ | refine rdCells_of (hs.get 1 rfl) ?_ | refine isCells_of (hs.get 2 rfl) ?_ | refine rdCells_of (hs.get 2 rfl) ?_ | refine isCells_of (hs.get 3 rfl) ?_ | refine rdCells_of (hs.get 3 rfl) ?_ | refine Exists.intro _ (And.intro rfl ?_) | refine And.intro (fun h => absurd h (by decide)) (fun _ => ?_) | refine And.intro (fun _ => ?_) (fun h => absurd h (by decide)) | refine And.intro (by omega) ?_ | refine Or.inl (Exists.intro _ (And.intro rfl (And.intro (by unfold I64; omega) ?_))) | refine new_hs hs (fun _ _ _ _ hs => ?_) | refine newS_hs hs (fun _ _ _ _ hs => ?_) | refine store_hs hs 0 rfl _ rfl rfl (Nat.le_of_ble_eq_true rfl) rfl (fun _ _ hs => ?_) | refine store_hs hs 1 rfl _ rfl rfl (Nat.le_of_ble_eq_true rfl) rfl (fun _ _ hs => ?_) | refine store_hs hs 2 rfl _ rfl rfl (Nat.le_of_ble_eq_true rfl) rfl (fun _ _ hs => ?_) | ((refine And.intro (fun hc => ?_) (fun hc => ?_)) <;> (try simp only [decide_eq_true_eq, decide_eq_false_iff_not, Bool.not_eq_true', Bool.not_eq_false', Bool.not_false, Bool.not_true, bne_iff_ne, ne_eq, Decidable.not_not, Int.not_lt, Int.not_le] at hc) <;> (try (exfalso; omega))) | refine rd ?_ | (refine hK0 _ _ ?_; clear hK0) | fail)
    refine rdCells_of hd8 ?_
    refine seg_st hj ?_
    repeat' (first | with_reducible refine vcg_assoc ?_ | with_reducible refine vcg_seqR (fun K0 hK0 => ?_) | with_reducible refine vcg_seqC ?_ | with_reducible refine vcg_seqB ?_ | with_reducible refine vcg_seqSkip ?_ | with_reducible refine vcg_seqRet ?_ | with_reducible refine vcg_seqExit ?_ | with_reducible refine vcg_seqScope ?_ | with_reducible refine vcg_regR (fun K0 hK0 => ?_) | with_reducible refine vcg_cond ?_ | with_reducible refine vcg_blk ?_ | with_reducible refine vcg_skip ?_ | with_reducible refine vcg_ret ?_ | with_reducible refine vcg_exit ?_ | with_reducible refine vcg_scope ?_ | with_reducible refine blkQ_normal ?_ | with_reducible refine blkQ_ret ?_ | with_reducible refine blkQ_hit rfl ?_ | with_reducible refine blkQ_miss rfl ?_ | refine And.intro (by decide) ?_ | refine isCells_of (hs.get 0 rfl) ?_ | refine rdCells_of (hs.get 0 rfl) ?_ | refine isCells_of (hs.get 1 rfl) ?_ | refine rdCells_of (hs.get 1 rfl) ?_ | refine isCells_of (hs.get 2 rfl) ?_ | refine rdCells_of (hs.get 2 rfl) ?_ | refine isCells_of (hs.get 3 rfl) ?_ | refine rdCells_of (hs.get 3 rfl) ?_ | refine Exists.intro _ (And.intro rfl ?_) | refine And.intro (fun h => absurd h (by decide)) (fun _ => ?_) | refine And.intro (fun _ => ?_) (fun h => absurd h (by decide)) | refine And.intro (by omega) ?_ | refine Or.inl (Exists.intro _ (And.intro rfl (And.intro (by unfold I64; omega) ?_))) | refine new_hs hs (fun _ _ _ _ hs => ?_) | refine newS_hs hs (fun _ _ _ _ hs => ?_) | refine store_hs hs 0 rfl _ rfl rfl (Nat.le_of_ble_eq_true rfl) rfl (fun _ _ hs => ?_) | refine store_hs hs 1 rfl _ rfl rfl (Nat.le_of_ble_eq_true rfl) rfl (fun _ _ hs => ?_) | refine store_hs hs 2 rfl _ rfl rfl (Nat.le_of_ble_eq_true rfl) rfl (fun _ _ hs => ?_) | ((refine And.intro (fun hc => ?_) (fun hc => ?_)) <;> (try simp only [decide_eq_true_eq, decide_eq_false_iff_not, Bool.not_eq_true', Bool.not_eq_false', Bool.not_false, Bool.not_true, bne_iff_ne, ne_eq, Decidable.not_not, Int.not_lt, Int.not_le] at hc) <;> (try (exfalso; omega))) | refine rd ?_ | (refine hK0 _ _ ?_; clear hK0) | fail)
    generalize l[j]! = y at hself bad h ⊢
    refine c153 (fun H9 hn => ?_)
    have hs := hs_none hs hn
    clear hn
    have hb : badP (some y) x = !befF y x := rfl
    generalize befF y x = bf at hb ⊢
    cases bf with
    | false =>
      repeat' (first | with_reducible refine vcg_assoc ?_ | with_reducible refine vcg_seqR (fun K0 hK0 => ?_) | with_reducible refine vcg_seqC ?_ | with_reducible refine vcg_seqB ?_ | with_reducible refine vcg_seqSkip ?_ | with_reducible refine vcg_seqRet ?_ | with_reducible refine vcg_seqExit ?_ | with_reducible refine vcg_seqScope ?_ | with_reducible refine vcg_regR (fun K0 hK0 => ?_) | with_reducible refine vcg_cond ?_ | with_reducible refine vcg_blk ?_ | with_reducible refine vcg_skip ?_ | with_reducible refine vcg_ret ?_ | with_reducible refine vcg_exit ?_ | with_reducible refine vcg_scope ?_ | with_reducible refine blkQ_normal ?_ | with_reducible refine blkQ_ret ?_ | with_reducible refine blkQ_hit rfl ?_ | with_reducible refine blkQ_miss rfl ?_ | refine And.intro (by decide) ?_ | refine isCells_of (hs.get 0 rfl) ?_ | refine rdCells_of (hs.get 0 rfl) ?_ | refine isCells_of (hs.get 1 rfl) ?_ | refine rdCells_of (hs.get 1 rfl) ?_ | refine isCells_of (hs.get 2 rfl) ?_ | refine rdCells_of (hs.get 2 rfl) ?_ | refine isCells_of (hs.get 3 rfl) ?_ | refine rdCells_of (hs.get 3 rfl) ?_ | refine Exists.intro _ (And.intro rfl ?_) | refine And.intro (fun h => absurd h (by decide)) (fun _ => ?_) | refine And.intro (fun _ => ?_) (fun h => absurd h (by decide)) | refine And.intro (by omega) ?_ | refine Or.inl (Exists.intro _ (And.intro rfl (And.intro (by unfold I64; omega) ?_))) | refine new_hs hs (fun _ _ _ _ hs => ?_) | refine newS_hs hs (fun _ _ _ _ hs => ?_) | refine store_hs hs 0 rfl _ rfl rfl (Nat.le_of_ble_eq_true rfl) rfl (fun _ _ hs => ?_) | refine store_hs hs 1 rfl _ rfl rfl (Nat.le_of_ble_eq_true rfl) rfl (fun _ _ hs => ?_) | refine store_hs hs 2 rfl _ rfl rfl (Nat.le_of_ble_eq_true rfl) rfl (fun _ _ hs => ?_) | ((refine And.intro (fun hc => ?_) (fun hc => ?_)) <;> (try simp only [decide_eq_true_eq, decide_eq_false_iff_not, Bool.not_eq_true', Bool.not_eq_false', Bool.not_false, Bool.not_true, bne_iff_ne, ne_eq, Decidable.not_not, Int.not_lt, Int.not_le] at hc) <;> (try (exfalso; omega))) | refine rd ?_ | (refine hK0 _ _ ?_; clear hK0) | fail)
      refine bad 2 _ (by decide) ?_ (hs_nil hs)
      rw [hself (x.jn < 0 ∨ 2 < x.jn ∨ badP (some y) x = true) Iff.rfl, if_pos]
      exact .inr (.inr (by rw [hb]; rfl))
    | true =>
      have hself0 : selfF t.pr slots (some y) x = 0 := by
        rw [hself (x.jn < 0 ∨ 2 < x.jn) (by simp [hb]), if_neg (by omega)]
      repeat' (first | with_reducible refine vcg_assoc ?_ | with_reducible refine vcg_seqR (fun K0 hK0 => ?_) | with_reducible refine vcg_seqC ?_ | with_reducible refine vcg_seqB ?_ | with_reducible refine vcg_seqSkip ?_ | with_reducible refine vcg_seqRet ?_ | with_reducible refine vcg_seqExit ?_ | with_reducible refine vcg_seqScope ?_ | with_reducible refine vcg_regR (fun K0 hK0 => ?_) | with_reducible refine vcg_cond ?_ | with_reducible refine vcg_blk ?_ | with_reducible refine vcg_skip ?_ | with_reducible refine vcg_ret ?_ | with_reducible refine vcg_exit ?_ | with_reducible refine vcg_scope ?_ | with_reducible refine blkQ_normal ?_ | with_reducible refine blkQ_ret ?_ | with_reducible refine blkQ_hit rfl ?_ | with_reducible refine blkQ_miss rfl ?_ | refine And.intro (by decide) ?_ | refine isCells_of (hs.get 0 rfl) ?_ | refine rdCells_of (hs.get 0 rfl) ?_ | refine isCells_of (hs.get 1 rfl) ?_ | refine rdCells_of (hs.get 1 rfl) ?_ | refine isCells_of (hs.get 2 rfl) ?_ | refine rdCells_of (hs.get 2 rfl) ?_ | refine isCells_of (hs.get 3 rfl) ?_ | refine rdCells_of (hs.get 3 rfl) ?_ | refine Exists.intro _ (And.intro rfl ?_) | refine And.intro (fun h => absurd h (by decide)) (fun _ => ?_) | refine And.intro (fun _ => ?_) (fun h => absurd h (by decide)) | refine And.intro (by omega) ?_ | refine Or.inl (Exists.intro _ (And.intro rfl (And.intro (by unfold I64; omega) ?_))) | refine new_hs hs (fun _ _ _ _ hs => ?_) | refine newS_hs hs (fun _ _ _ _ hs => ?_) | refine store_hs hs 0 rfl _ rfl rfl (Nat.le_of_ble_eq_true rfl) rfl (fun _ _ hs => ?_) | refine store_hs hs 1 rfl _ rfl rfl (Nat.le_of_ble_eq_true rfl) rfl (fun _ _ hs => ?_) | refine store_hs hs 2 rfl _ rfl rfl (Nat.le_of_ble_eq_true rfl) rfl (fun _ _ hs => ?_) | ((refine And.intro (fun hc => ?_) (fun hc => ?_)) <;> (try simp only [decide_eq_true_eq, decide_eq_false_iff_not, Bool.not_eq_true', Bool.not_eq_false', Bool.not_false, Bool.not_true, bne_iff_ne, ne_eq, Decidable.not_not, Int.not_lt, Int.not_le] at hc) <;> (try (exfalso; omega))) | refine rd ?_ | (refine hK0 _ _ ?_; clear hK0) | fail)
      simp only [hself0, ne_eq, not_true, if_false] at h
      clear bad hself
      refine vcg_loopR (α := List Blk × Nat) tok (fun z => HS H none' [(true, xb, .cells true 1 (stC x)), (true, b1, .cells true 1 (schC t alg b c d l.length))] z.1 ∧ z.2 ≤ (j + 1))
        (fun z => [(2, .int .i64 (((j + 1) : Nat) : Int)), (3, .pointer (some ⟨b1, 0, none⟩)), (7, .pointer (some ⟨xb, 0, none⟩)), (8, .bool (twiceF (l.take z.2) x)), (9, .bool (busyF (l.take z.2) x)), (10, .int .i64 (z.2 : Int))]) (fun z => z.1) (fun z => (j + 1) - z.2)
        (_, 0) ⟨hs, Nat.zero_le _⟩ (Or.inl ⟨⟨rfl, rfl, rfl, rfl, rfl, rfl, trivial⟩, rfl⟩) ?_
      clear hs
      rintro ⟨H5, k⟩ ⟨hs, hk⟩
      dsimp only at hs hk ⊢
      have hd5 := hs_get (hs_nil hs) hd0
      refine And.intro (fun hc => ?_) (fun hc => ?_)
      · have hki : k < (j + 1) := by simp at hc; omega
        clear hc
        have hkl : k < l.length := by omega
        have et : twiceF (l.take (k + 1)) x = (twiceF (l.take k) x || ftwF x l[k]!) := by rw [List.take_succ_eq_append_getElem hkl, twice_snoc, getElem!_pos l k hkl]
        have eb : busyF (l.take (k + 1)) x = (busyF (l.take k) x || fbsF x l[k]!) := by rw [List.take_succ_eq_append_getElem hkl, busy_snoc, getElem!_pos l k hkl]
        generalize twiceF (l.take k) x = tw at et ⊢
        generalize busyF (l.take k) x = bs at eb ⊢
        cases tw <;> cases bs
        all_goals refine vcg_seqG (fun q0 q1 q2 q3 => ?_)
        all_goals (
          repeat' (first | with_reducible refine vcg_assoc ?_ | with_reducible refine vcg_seqR (fun K0 hK0 => ?_) | with_reducible refine vcg_seqC ?_ | with_reducible refine vcg_seqB ?_ | with_reducible refine vcg_seqSkip ?_ | with_reducible refine vcg_seqRet ?_ | with_reducible refine vcg_seqExit ?_ | with_reducible refine vcg_seqScope ?_ | with_reducible refine vcg_regR (fun K0 hK0 => ?_) | with_reducible refine vcg_cond ?_ | with_reducible refine vcg_blk ?_ | with_reducible refine vcg_skip ?_ | with_reducible refine vcg_ret ?_ | with_reducible refine vcg_exit ?_ | with_reducible refine vcg_scope ?_ | with_reducible refine blkQ_normal ?_ | with_reducible refine blkQ_ret ?_ | with_reducible refine blkQ_hit rfl ?_ | with_reducible refine blkQ_miss rfl ?_ | refine And.intro (by decide) ?_ | refine isCells_of (hs.get 0 rfl) ?_ | refine rdCells_of (hs.get 0 rfl) ?_ | refine isCells_of (hs.get 1 rfl) ?_ | refine rdCells_of (hs.get 1 rfl) ?_ | refine isCells_of (hs.get 2 rfl) ?_ | refine rdCells_of (hs.get 2 rfl) ?_ | refine isCells_of (hs.get 3 rfl) ?_ | refine rdCells_of (hs.get 3 rfl) ?_ | refine Exists.intro _ (And.intro rfl ?_) | refine And.intro (fun h => absurd h (by decide)) (fun _ => ?_) | refine And.intro (fun _ => ?_) (fun h => absurd h (by decide)) | refine And.intro (by omega) ?_ | refine Or.inl (Exists.intro _ (And.intro rfl (And.intro (by unfold I64; omega) ?_))) | refine new_hs hs (fun _ _ _ _ hs => ?_) | refine newS_hs hs (fun _ _ _ _ hs => ?_) | refine store_hs hs 0 rfl _ rfl rfl (Nat.le_of_ble_eq_true rfl) rfl (fun _ _ hs => ?_) | refine store_hs hs 1 rfl _ rfl rfl (Nat.le_of_ble_eq_true rfl) rfl (fun _ _ hs => ?_) | refine store_hs hs 2 rfl _ rfl rfl (Nat.le_of_ble_eq_true rfl) rfl (fun _ _ hs => ?_) | ((refine And.intro (fun hc => ?_) (fun hc => ?_)) <;> (try simp only [decide_eq_true_eq, decide_eq_false_iff_not, Bool.not_eq_true', Bool.not_eq_false', Bool.not_false, Bool.not_true, bne_iff_ne, ne_eq, Decidable.not_not, Int.not_lt, Int.not_le] at hc) <;> (try (exfalso; omega))) | refine rd ?_ | (refine hK0 _ _ ?_; clear hK0) | fail)
          refine isCells_of hd5 ⟨k, rfl, hkl, ?_⟩
          refine rdCells_of hd5 ?_
          refine seg_st hkl ?_
          generalize l[k]! = y at et eb ⊢
          refine new_hs hs (fun H6 yb e6 l6 hs => ?_)
          refine store_hs hs 0 rfl (stC y) rfl rfl (Nat.le_of_ble_eq_true rfl) rfl (fun H7 e7 hs => ?_)
          refine hK0 _ _ ?_
          clear hK0 e6 l6 e7
          have hs := hs.pick [0, 1, 2] (by decide) rfl (L' := [(true, yb, .cells true 1 (stC y)), (true, xb, .cells true 1 (stC x)), (true, b1, .cells true 1 (schC t alg b c d l.length))])
          repeat' (first | with_reducible refine vcg_assoc ?_ | with_reducible refine vcg_seqR (fun K0 hK0 => ?_) | with_reducible refine vcg_seqC ?_ | with_reducible refine vcg_seqB ?_ | with_reducible refine vcg_seqSkip ?_ | with_reducible refine vcg_seqRet ?_ | with_reducible refine vcg_seqExit ?_ | with_reducible refine vcg_seqScope ?_ | with_reducible refine vcg_regR (fun K0 hK0 => ?_) | with_reducible refine vcg_cond ?_ | with_reducible refine vcg_blk ?_ | with_reducible refine vcg_skip ?_ | with_reducible refine vcg_ret ?_ | with_reducible refine vcg_exit ?_ | with_reducible refine vcg_scope ?_ | with_reducible refine blkQ_normal ?_ | with_reducible refine blkQ_ret ?_ | with_reducible refine blkQ_hit rfl ?_ | with_reducible refine blkQ_miss rfl ?_ | refine And.intro (by decide) ?_ | refine isCells_of (hs.get 0 rfl) ?_ | refine rdCells_of (hs.get 0 rfl) ?_ | refine isCells_of (hs.get 1 rfl) ?_ | refine rdCells_of (hs.get 1 rfl) ?_ | refine isCells_of (hs.get 2 rfl) ?_ | refine rdCells_of (hs.get 2 rfl) ?_ | refine isCells_of (hs.get 3 rfl) ?_ | refine rdCells_of (hs.get 3 rfl) ?_ | refine Exists.intro _ (And.intro rfl ?_) | refine And.intro (fun h => absurd h (by decide)) (fun _ => ?_) | refine And.intro (fun _ => ?_) (fun h => absurd h (by decide)) | refine And.intro (by omega) ?_ | refine Or.inl (Exists.intro _ (And.intro rfl (And.intro (by unfold I64; omega) ?_))) | refine new_hs hs (fun _ _ _ _ hs => ?_) | refine newS_hs hs (fun _ _ _ _ hs => ?_) | refine store_hs hs 0 rfl _ rfl rfl (Nat.le_of_ble_eq_true rfl) rfl (fun _ _ hs => ?_) | refine store_hs hs 1 rfl _ rfl rfl (Nat.le_of_ble_eq_true rfl) rfl (fun _ _ hs => ?_) | refine store_hs hs 2 rfl _ rfl rfl (Nat.le_of_ble_eq_true rfl) rfl (fun _ _ hs => ?_) | ((refine And.intro (fun hc => ?_) (fun hc => ?_)) <;> (try simp only [decide_eq_true_eq, decide_eq_false_iff_not, Bool.not_eq_true', Bool.not_eq_false', Bool.not_false, Bool.not_true, bne_iff_ne, ne_eq, Decidable.not_not, Int.not_lt, Int.not_le] at hc) <;> (try (exfalso; omega))) | refine rd ?_ | (refine hK0 _ _ ?_; clear hK0) | fail)
          skip)
        all_goals (
          refine q1 _ _ ?_
          refine Or.inl ⟨((k + 1 : Nat) : Int), by simp, by unfold I64; omega, ?_⟩
          refine ⟨(_, k + 1), ⟨hs.pick [1, 2] (by decide) rfl, hki⟩, by dsimp only; omega, Or.inl ⟨⟨rfl, rfl, rfl, ?_, ?_, rfl, trivial⟩, rfl⟩⟩
          · show some (Value.bool _) = some (Value.bool _)
            rw [et]
            refine congrArg (fun q => some (Value.bool q)) ?_
            unfold ftwF
            first
              | rfl
              | (rw [Bool.eq_iff_iff]; simp only [Bool.or_eq_true, Bool.and_eq_true, decide_eq_true_eq, Bool.not_eq_true', decide_eq_false_iff_not, ne_eq, Bool.false_eq_true, true_iff, false_iff, iff_true, iff_false, false_or, true_or, Bool.false_or, Bool.true_or]; omega)
              | (simp only [Bool.or_eq_true, Bool.and_eq_true, Bool.false_or, Bool.true_or]; rw [Bool.eq_iff_iff]; simp only [Bool.or_eq_true, Bool.and_eq_true, decide_eq_true_eq, Bool.not_eq_true', decide_eq_false_iff_not, ne_eq, Bool.false_eq_true, true_iff, false_iff, iff_true, iff_false, false_or, true_or]; omega)
          · show some (Value.bool _) = some (Value.bool _)
            rw [eb]
            refine congrArg (fun q => some (Value.bool q)) ?_
            unfold fbsF
            first
              | rfl
              | (rw [Bool.eq_iff_iff]; simp only [Bool.or_eq_true, Bool.and_eq_true, decide_eq_true_eq, Bool.not_eq_true', decide_eq_false_iff_not, ne_eq, Bool.false_eq_true, true_iff, false_iff, iff_true, iff_false, false_or, true_or, Bool.false_or, Bool.true_or]; omega)
              | (simp only [Bool.or_eq_true, Bool.and_eq_true, Bool.false_or, Bool.true_or]; rw [Bool.eq_iff_iff]; simp only [Bool.or_eq_true, Bool.and_eq_true, decide_eq_true_eq, Bool.not_eq_true', decide_eq_false_iff_not, ne_eq, Bool.false_eq_true, true_iff, false_iff, iff_true, iff_false, false_or, true_or]; omega)
            done)
      · have hke : k = (j + 1) := by simp at hc; omega
        subst hke
        replace h := h _ (hs_nil hs)
        generalize twiceF _ x = tw at h ⊢
        generalize busyF _ x = bs at h ⊢
        cases tw <;> cases bs
        all_goals (
          repeat' (first | with_reducible refine vcg_assoc ?_ | with_reducible refine vcg_seqR (fun K0 hK0 => ?_) | with_reducible refine vcg_seqC ?_ | with_reducible refine vcg_seqB ?_ | with_reducible refine vcg_seqSkip ?_ | with_reducible refine vcg_seqRet ?_ | with_reducible refine vcg_seqExit ?_ | with_reducible refine vcg_seqScope ?_ | with_reducible refine vcg_regR (fun K0 hK0 => ?_) | with_reducible refine vcg_cond ?_ | with_reducible refine vcg_blk ?_ | with_reducible refine vcg_skip ?_ | with_reducible refine vcg_ret ?_ | with_reducible refine vcg_exit ?_ | with_reducible refine vcg_scope ?_ | with_reducible refine blkQ_normal ?_ | with_reducible refine blkQ_ret ?_ | with_reducible refine blkQ_hit rfl ?_ | with_reducible refine blkQ_miss rfl ?_ | refine And.intro (by decide) ?_ | refine isCells_of (hs.get 0 rfl) ?_ | refine rdCells_of (hs.get 0 rfl) ?_ | refine isCells_of (hs.get 1 rfl) ?_ | refine rdCells_of (hs.get 1 rfl) ?_ | refine isCells_of (hs.get 2 rfl) ?_ | refine rdCells_of (hs.get 2 rfl) ?_ | refine isCells_of (hs.get 3 rfl) ?_ | refine rdCells_of (hs.get 3 rfl) ?_ | refine Exists.intro _ (And.intro rfl ?_) | refine And.intro (fun h => absurd h (by decide)) (fun _ => ?_) | refine And.intro (fun _ => ?_) (fun h => absurd h (by decide)) | refine And.intro (by omega) ?_ | refine Or.inl (Exists.intro _ (And.intro rfl (And.intro (by unfold I64; omega) ?_))) | refine new_hs hs (fun _ _ _ _ hs => ?_) | refine newS_hs hs (fun _ _ _ _ hs => ?_) | refine store_hs hs 0 rfl _ rfl rfl (Nat.le_of_ble_eq_true rfl) rfl (fun _ _ hs => ?_) | refine store_hs hs 1 rfl _ rfl rfl (Nat.le_of_ble_eq_true rfl) rfl (fun _ _ hs => ?_) | refine store_hs hs 2 rfl _ rfl rfl (Nat.le_of_ble_eq_true rfl) rfl (fun _ _ hs => ?_) | ((refine And.intro (fun hc => ?_) (fun hc => ?_)) <;> (try simp only [decide_eq_true_eq, decide_eq_false_iff_not, Bool.not_eq_true', Bool.not_eq_false', Bool.not_false, Bool.not_true, bne_iff_ne, ne_eq, Decidable.not_not, Int.not_lt, Int.not_le] at hc) <;> (try (exfalso; omega))) | refine rd ?_ | (refine hK0 _ _ ?_; clear hK0) | fail)
          exact h)
end Go.Af.Tryz
