/-
  Tasks: the reference's Check; blocks and Slots of both.
  The form of a schedule: the program's checks step by step, and those of the reference, have the same outcome. No program is in sight.
  Tasks: Slots of both; what a task without an error is like; copies for the reference.
  Steps: how they lie in memory; the program's compare, the reference's before.
  What a checker remembers, in maps: fresh, takes.
-/
import Derived.Test.YtmnjcogpchodhaaGreatMGA
import Derived.Test.YtmnjcogpchodhaaGreatMA
set_option linter.all false
namespace Go.Af.Tryz
open Go Go.Proofs
set_option maxRecDepth 100000
set_option maxHeartbeats 4000000
attribute [local irreducible] awp qV vU vZ vW ve isCells qP qN vN vz qW roundEnd

theorem c89 {H : List Blk} {x : Int} {R : Value→List Blk→Prop} (h : R (.bool (decide (x = 1∨x = 2∨x = 5∨x = 6))) H) : qV Tryz.prog 89 [.int .i64 x] H R := by
  refine qJ tok Tryz.call89 Tryz.func89 rfl Tryz.ntmps89 rfl (by simp) ?_
  have hs := HS.start H none'
  repeat' (first|with_reducible (first|refine ql ?_|refine qo (fun K0 hK0=>?_)|refine qw ?_|refine qx ?_|refine qf ?_|refine qi ?_|refine qg ?_|refine qc ?_|refine qy (fun K0 hK0=>?_)|refine qB ?_|refine qH ?_|refine qp ?_|refine qG ?_|refine qA ?_|refine qj ?_|refine qh ?_|refine qC ?_|refine qE rfl ?_|refine qm rfl ?_)|refine aI (by decide) ?_|refine iS hs ?_|refine rS hs ?_|refine eI _ (aI rfl ?_)|refine cF (fun _=>?_)|refine cT (fun _=>?_)|refine aI (by omega) ?_|refine oJ ?_|refine qI hs (fun _ _ _ _ hs=>?_)|refine qF hs (fun _ _ _ _ hs=>?_)|refine sS hs 0 (fun _ _ hs=>?_)|refine sS hs 1 (fun _ _ hs=>?_)|refine sS hs 2 (fun _ _ hs=>?_)|((refine aI (fun hc=>?_) (fun hc=>?_)) <;> (try simp only [decide_eq_true_eq,decide_eq_false_iff_not,Bool.not_eq_true',Bool.not_eq_false',Bool.not_false,Bool.not_true,bne_iff_ne,ne_eq,Decidable.not_not,Int.not_lt,Int.not_le] at hc) <;> (try (exfalso;omega)))|refine rd ?_|(refine hK0 _ _ ?_;clear hK0)|fail)
  all_goals try (rw [decide_eq_true (by omega)] at h;exact h;done)
  rw [show decide (x = 1∨x = 2∨x = 5∨x = 6) = decide (x = 6) from decide_eq_decide.2 (by omega)] at h
  exact h
def blkF (t : Tk) : Int :=
  if t.op = 5∨t.op = 6∨t.op = 7∨t.op = 9 then t.pr else if t.op = 8 then 2 * t.pr else if t.op = 11 then 1 + 2 * (t.sz.length : Int) else 1
theorem c87 {H : List Blk} {t : Tk} {b c : Nat} {R : Value→List Blk→Prop} (hl : t.sz.length≤10) (hp : 1≤t.pr∧t.pr≤64) (h : ∀ H',HS H none' [] H' → R (.int .i64 (blkF t)) H') : qV Tryz.prog 87 [tkV t b c] H R := by
  refine qJ tok Tryz.call87 Tryz.func87 rfl Tryz.ntmps87 rfl (by simp) ?_
  refine qI (HS.start H none') (fun H1 b1 e1 l1 hs=>?_)
  refine qO (fun _ hKs=>hKs _ _ ?_);clear hKs
  replace h := h H1 (qQ hs)
  unfold blkF at h
  repeat' (first|with_reducible (first|refine ql ?_|refine qo (fun K0 hK0=>?_)|refine qw ?_|refine qx ?_|refine qf ?_|refine qi ?_|refine qg ?_|refine qc ?_|refine qy (fun K0 hK0=>?_)|refine qB ?_|refine qH ?_|refine qp ?_|refine qG ?_|refine qA ?_|refine qj ?_|refine qh ?_|refine qC ?_|refine qE rfl ?_|refine qm rfl ?_)|refine aI (by decide) ?_|refine iS hs ?_|refine rS hs ?_|refine eI _ (aI rfl ?_)|refine cF (fun _=>?_)|refine cT (fun _=>?_)|refine aI (by omega) ?_|refine oJ ?_|refine qI hs (fun _ _ _ _ hs=>?_)|refine qF hs (fun _ _ _ _ hs=>?_)|refine sS hs 0 (fun _ _ hs=>?_)|refine sS hs 1 (fun _ _ hs=>?_)|refine sS hs 2 (fun _ _ hs=>?_)|((refine aI (fun hc=>?_) (fun hc=>?_)) <;> (try simp only [decide_eq_true_eq,decide_eq_false_iff_not,Bool.not_eq_true',Bool.not_eq_false',Bool.not_false,Bool.not_true,bne_iff_ne,ne_eq,Decidable.not_not,Int.not_lt,Int.not_le] at hc) <;> (try (exfalso;omega)))|refine rd ?_|(refine hK0 _ _ ?_;clear hK0)|fail)
  all_goals (
    (repeat (first | rw [if_pos (by omega)] at h | rw [if_neg (by omega)] at h))
    exact h)
theorem c88 {H : List Blk} {t : Tk} {b c : Nat} {R : Value→List Blk→Prop} (hl : t.sz.length≤10) (hp : 1≤t.pr∧t.pr≤64) (h : ∀ H',HS H none' [] H' → R (.int .i64 (blkF t)) H') : qV Tryz.prog 88 [tkV t b c] H R := by
  refine qJ tok Tryz.call88 Tryz.func88 rfl Tryz.ntmps88 rfl (by simp) ?_
  refine qI (HS.start H none') (fun H1 b1 e1 l1 hs=>?_)
  refine qO (fun _ hKs=>hKs _ _ ?_);clear hKs
  replace h := h H1 (qQ hs)
  unfold blkF at h
  repeat' (first|with_reducible (first|refine ql ?_|refine qo (fun K0 hK0=>?_)|refine qw ?_|refine qx ?_|refine qf ?_|refine qi ?_|refine qg ?_|refine qc ?_|refine qy (fun K0 hK0=>?_)|refine qB ?_|refine qH ?_|refine qp ?_|refine qG ?_|refine qA ?_|refine qj ?_|refine qh ?_|refine qC ?_|refine qE rfl ?_|refine qm rfl ?_)|refine aI (by decide) ?_|refine iS hs ?_|refine rS hs ?_|refine eI _ (aI rfl ?_)|refine cF (fun _=>?_)|refine cT (fun _=>?_)|refine aI (by omega) ?_|refine oJ ?_|refine qI hs (fun _ _ _ _ hs=>?_)|refine qF hs (fun _ _ _ _ hs=>?_)|refine sS hs 0 (fun _ _ hs=>?_)|refine sS hs 1 (fun _ _ hs=>?_)|refine sS hs 2 (fun _ _ hs=>?_)|((refine aI (fun hc=>?_) (fun hc=>?_)) <;> (try simp only [decide_eq_true_eq,decide_eq_false_iff_not,Bool.not_eq_true',Bool.not_eq_false',Bool.not_false,Bool.not_true,bne_iff_ne,ne_eq,Decidable.not_not,Int.not_lt,Int.not_le] at hc) <;> (try (exfalso;omega)))|refine rd ?_|(refine hK0 _ _ ?_;clear hK0)|fail)
  all_goals (
    (repeat (first | rw [if_pos (by omega)] at h | rw [if_neg (by omega)] at h))
    exact h)
theorem blk_facts (t : Tk) : (t.op = 5∨t.op = 6∨t.op = 7∨t.op = 9→blkF t = t.pr)∧(t.op = 8→blkF t = 2 * t.pr)∧(t.op = 11→blkF t = 1 + 2 * (t.sz.length : Int))∧(¬ (t.op = 5∨t.op = 6∨t.op = 7∨t.op = 9∨t.op = 8∨t.op = 11)→blkF t = 1) := by
  unfold blkF
  refine ⟨fun h=>by rw [if_pos h],fun h=>by rw [if_neg (by omega),if_pos h],fun h=>by rw [if_neg (by omega),if_neg (by omega),if_pos h],fun h=>by rw [if_neg (by omega),if_neg (by omega),if_neg (by omega)]⟩
theorem c36 {H : List Blk} {t : Tk} {b c : Nat} {R : Value→List Blk→Prop} (g : Gr H t.sz b) (hl : t.sz.length≤10) (hw : t.ws.length≤10) (h : ∀ H',HS H none' [] H' → R (.int .i64 (chkF t)) H') : qV Tryz.prog 36 [tkV t b c] H R := by
  obtain ⟨w,hb⟩ := g.s
  refine qJ tok Tryz.call36 Tryz.func36 rfl Tryz.ntmps36 rfl (by simp) ?_
  refine qI ((HS.start H none').add (c := false) hb (fun i p hi=>by simp at hi) (fun h=>by cases h)) (fun H1 b1 e1 l1 hs=>?_)
  refine qO (fun _ hKs=>hKs _ _ ?_);clear hKs
  obtain ⟨hm1,hm2⟩ := mul_facts t.pr t.pa
  unfold chkF at h
  have h' := h
  replace h := h H1 (qQ hs)
  repeat' (first|with_reducible (first|refine ql ?_|refine qo (fun K0 hK0=>?_)|refine qw ?_|refine qx ?_|refine qf ?_|refine qi ?_|refine qg ?_|refine qc ?_|refine qy (fun K0 hK0=>?_)|refine qB ?_|refine qH ?_|refine qp ?_|refine qG ?_|refine qA ?_|refine qj ?_|refine qh ?_|refine qC ?_|refine qE rfl ?_|refine qm rfl ?_)|refine aI (by decide) ?_|refine iS hs ?_|refine rS hs ?_|refine eI _ (aI rfl ?_)|refine cF (fun _=>?_)|refine cT (fun _=>?_)|refine aI (by omega) ?_|refine oJ ?_|refine qI hs (fun _ _ _ _ hs=>?_)|refine qF hs (fun _ _ _ _ hs=>?_)|refine sS hs 0 (fun _ _ hs=>?_)|refine sS hs 1 (fun _ _ hs=>?_)|refine sS hs 2 (fun _ _ hs=>?_)|((refine aI (fun hc=>?_) (fun hc=>?_)) <;> (try simp only [decide_eq_true_eq,decide_eq_false_iff_not,Bool.not_eq_true',Bool.not_eq_false',Bool.not_false,Bool.not_true,bne_iff_ne,ne_eq,Decidable.not_not,Int.not_lt,Int.not_le] at hc) <;> (try (exfalso;omega)))|refine rd ?_|(refine hK0 _ _ ?_;clear hK0)|fail)
  all_goals try (
    (repeat (first | rw [if_pos (by omega)] at h | rw [if_neg (by omega)] at h))
    exact h;done)
  refine c89 ?_
  obtain ⟨hb1,hb2,hb3,hb4⟩ := blk_facts t
  repeat' (first|with_reducible (first|refine ql ?_|refine qo (fun K0 hK0=>?_)|refine qw ?_|refine qx ?_|refine qf ?_|refine qi ?_|refine qg ?_|refine qc ?_|refine qy (fun K0 hK0=>?_)|refine qB ?_|refine qH ?_|refine qp ?_|refine qG ?_|refine qA ?_|refine qj ?_|refine qh ?_|refine qC ?_|refine qE rfl ?_|refine qm rfl ?_)|refine aI (by decide) ?_|refine iS hs ?_|refine rS hs ?_|refine eI _ (aI rfl ?_)|refine cF (fun _=>?_)|refine cT (fun _=>?_)|refine aI (by omega) ?_|refine oJ ?_|refine qI hs (fun _ _ _ _ hs=>?_)|refine qF hs (fun _ _ _ _ hs=>?_)|refine sS hs 0 (fun _ _ hs=>?_)|refine sS hs 1 (fun _ _ hs=>?_)|refine sS hs 2 (fun _ _ hs=>?_)|((refine aI (fun hc=>?_) (fun hc=>?_)) <;> (try simp only [decide_eq_true_eq,decide_eq_false_iff_not,Bool.not_eq_true',Bool.not_eq_false',Bool.not_false,Bool.not_true,bne_iff_ne,ne_eq,Decidable.not_not,Int.not_lt,Int.not_le] at hc) <;> (try (exfalso;omega)))|refine rd ?_|(refine hK0 _ _ ?_;clear hK0)|fail)
  all_goals try (
    (repeat (first | rw [if_pos (by omega)] at h | rw [if_neg (by omega)] at h))
    exact h;done)
  any_goals (
    refine c88 hl ⟨by omega,by omega⟩ (fun H2 hn=>?_)
    have hs := qX hs hn
    clear hn
    replace h := h' H2 (qQ hs)
    generalize blkF t = bk at hb1 hb2 hb3 hb4
    repeat' (first|with_reducible (first|refine ql ?_|refine qo (fun K0 hK0=>?_)|refine qw ?_|refine qx ?_|refine qf ?_|refine qi ?_|refine qg ?_|refine qc ?_|refine qy (fun K0 hK0=>?_)|refine qB ?_|refine qH ?_|refine qp ?_|refine qG ?_|refine qA ?_|refine qj ?_|refine qh ?_|refine qC ?_|refine qE rfl ?_|refine qm rfl ?_)|refine aI (by decide) ?_|refine iS hs ?_|refine rS hs ?_|refine eI _ (aI rfl ?_)|refine cF (fun _=>?_)|refine cT (fun _=>?_)|refine aI (by omega) ?_|refine oJ ?_|refine qI hs (fun _ _ _ _ hs=>?_)|refine qF hs (fun _ _ _ _ hs=>?_)|refine sS hs 0 (fun _ _ hs=>?_)|refine sS hs 1 (fun _ _ hs=>?_)|refine sS hs 2 (fun _ _ hs=>?_)|((refine aI (fun hc=>?_) (fun hc=>?_)) <;> (try simp only [decide_eq_true_eq,decide_eq_false_iff_not,Bool.not_eq_true',Bool.not_eq_false',Bool.not_false,Bool.not_true,bne_iff_ne,ne_eq,Decidable.not_not,Int.not_lt,Int.not_le] at hc) <;> (try (exfalso;omega)))|refine rd ?_|(refine hK0 _ _ ?_;clear hK0)|fail)
    all_goals try (
      (repeat (first | rw [if_pos (by omega)] at h | rw [if_neg (by omega)] at h))
      exact h;done)
    done)
  clear h
  refine c90 ⟨_,hs.get 1 rfl⟩ (fun H4 v1 hn=>?_)
  have hs := qX hs hn
  clear hn
  repeat' (first|with_reducible (first|refine ql ?_|refine qo (fun K0 hK0=>?_)|refine qw ?_|refine qx ?_|refine qf ?_|refine qi ?_|refine qg ?_|refine qc ?_|refine qy (fun K0 hK0=>?_)|refine qB ?_|refine qH ?_|refine qp ?_|refine qG ?_|refine qA ?_|refine qj ?_|refine qh ?_|refine qC ?_|refine qE rfl ?_|refine qm rfl ?_)|refine aI (by decide) ?_|refine iS hs ?_|refine rS hs ?_|refine eI _ (aI rfl ?_)|refine cF (fun _=>?_)|refine cT (fun _=>?_)|refine aI (by omega) ?_|refine oJ ?_|refine qI hs (fun _ _ _ _ hs=>?_)|refine qF hs (fun _ _ _ _ hs=>?_)|refine sS hs 0 (fun _ _ hs=>?_)|refine sS hs 1 (fun _ _ hs=>?_)|refine sS hs 2 (fun _ _ hs=>?_)|refine rd ?_|(refine hK0 _ _ ?_;clear hK0)|fail)
  refine c90 ⟨_,hs.get 1 rfl⟩ (fun H5 v2 hn=>?_)
  have hs := qX hs hn
  clear hn
  have h := h' H5 (qQ hs)
  clear h'
  repeat' (first|with_reducible (first|refine ql ?_|refine qo (fun K0 hK0=>?_)|refine qw ?_|refine qx ?_|refine qf ?_|refine qi ?_|refine qg ?_|refine qc ?_|refine qy (fun K0 hK0=>?_)|refine qB ?_|refine qH ?_|refine qp ?_|refine qG ?_|refine qA ?_|refine qj ?_|refine qh ?_|refine qC ?_|refine qE rfl ?_|refine qm rfl ?_)|refine aI (by decide) ?_|refine iS hs ?_|refine rS hs ?_|refine eI _ (aI rfl ?_)|refine cF (fun _=>?_)|refine cT (fun _=>?_)|refine aI (by omega) ?_|refine oJ ?_|refine qI hs (fun _ _ _ _ hs=>?_)|refine qF hs (fun _ _ _ _ hs=>?_)|refine sS hs 0 (fun _ _ hs=>?_)|refine sS hs 1 (fun _ _ hs=>?_)|refine sS hs 2 (fun _ _ hs=>?_)|((refine aI (fun hc=>?_) (fun hc=>?_)) <;> (try simp only [decide_eq_true_eq,decide_eq_false_iff_not,Bool.not_eq_true',Bool.not_eq_false',Bool.not_false,Bool.not_true,bne_iff_ne,ne_eq,Decidable.not_not,Int.not_lt,Int.not_le] at hc) <;> (try (exfalso;omega)))|refine rd ?_|(refine hK0 _ _ ?_;clear hK0)|fail)
  all_goals try (
    (repeat (first | rw [if_pos (by omega)] at h | rw [if_neg (by omega)] at h))
    exact h;done)
end Go.Af.Tryz
namespace Go.Af.Coll

structure St where
  rd : Int
  fr : Int
  to : Int
  sr : Int
  ds : Int
  jn : Int
deriving DecidableEq

def sgn (a b : Int) : Int := if a < b then -1 else if b < a then 1 else 0
def orF : List Int→Int
  | []=>0
  | x :: r=>if x≠0 then x else orF r
def cmpL (a b : St) : List Int := [a.rd - b.rd,a.fr - b.fr,a.to - b.to,sgn a.sr b.sr,sgn a.ds b.ds]
def cmpF (a b : St) : Int := orF (cmpL a b)
def keyL (a : St) : List Int := [a.rd,a.fr,a.to,a.sr,a.ds]
def befL : List Int→List Int→Bool
  | x :: xs,y :: ys=>if x≠y then decide (x < y) else befL xs ys
  | _,_=>false
def befF (a b : St) : Bool := befL (keyL a) (keyL b)

def badP (prev : Option St) (x : St) : Bool := match prev with | some p => !befF p x | none=>false
def selfF (procs slots : Int) (prev : Option St) (x : St) : Int :=
  if x.rd < 0∨256≤x.rd then 3
  else if min x.fr x.to < 0∨procs≤max x.fr x.to then 11
  else if min x.sr x.ds < 0∨slots≤max x.sr x.ds then 3
  else if x.jn < 0∨2 < x.jn∨badP prev x = true then 2
  else 0

structure Ck where
  W : List (Int × Int)
  S : List (Int × Int)
  G : List (Int × Int)
def lk : List (Int × Int)→Int→Option Int
  | [],_=>none
  | (k,v) :: r,a=>if a = k then some v else lk r a
def upd (l : List (Int × Int)) (k v : Int) : List (Int × Int) := match l with
  | []=>[(k,v)]
  | (k',v') :: r=>if k = k' then (k,v) :: r else (k',v') :: upd r k v
def emp : Ck := ⟨[],[],[]⟩
def takesF (c : Ck) (x : St) : Bool := (match lk c.S x.fr with | none=>true | some t=>decide (t = x.to)) && (match lk c.G x.to with | none=>true | some f=>decide (f = x.fr))
def freshF (prev : Option St) (c : Ck) (x : St) : Ck := match prev with
  | some p=>if p.rd≠x.rd then emp else c
  | none=>c
def addF (c : Ck) (x : St) : Ck := ⟨c.W ++ [(x.to,x.ds)],if x.fr≠x.to then upd c.S x.fr x.to else c.S,if x.fr≠x.to then upd c.G x.to x.fr else c.G⟩
def roundF (c : Ck) (x : St) : Int := if (x.to,x.ds)∈c.W then 5 else if x.fr≠x.to∧takesF c x = false then 6 else 0
def sndP (procs slots : Int) : Option St→Ck→List St→Int
  | _,_,[]=>0
  | prev,c,x :: r=>if selfF procs slots prev x≠0 then selfF procs slots prev x else if roundF (freshF prev c x) x≠0 then roundF (freshF prev c x) x else sndP procs slots (some x) (addF (freshF prev c x) x) r

end Go.Af.Coll
namespace Go.Af.Tryz
open Go Go.Proofs
open Go.Af.Coll (St)
set_option maxRecDepth 100000
set_option maxHeartbeats 4000000
attribute [local irreducible] awp qV vU vZ vW ve isCells qP qN vN vz qW roundEnd

theorem resK_agg {T' : TT} {sl : List (Nat × Value)} {H : List Blk} {a t b o z : Nat} {w : Bool} {vs : List Value} {r : List ResultVar} {K : List Value→Prop} {i : TI} (ht : tget T' t = some i) (ha : look sl a = some (.pointer (some ⟨b,o,none⟩))) (hb : bget H b = some (.cells w z vs)) (hk : i.kind.agg = true)
    (h : segK vs o i.size (fun seg=>resK T' sl H r (fun us=>K (.agg ⟨seg⟩ :: us)))) : resK T' sl H (.cell a t :: r) K := by
  simp only [resK,ht,ha,hb,hk];exact h
structure TkOk (t : Tk) : Prop where
  op : 1≤t.op∧t.op≤11
  pr : 1≤t.pr∧t.pr≤64
  pa : 1≤t.pa∧t.pa≤16
  ro : 0≤t.ro∧t.ro < t.pr
  root : t.op = 1∨t.op = 2∨t.op = 5∨t.op = 6∨t.ro = 0
  bar : t.op = 10→t.pa = 1
  many : t.op = 5∨t.op = 6∨t.op = 7∨t.op = 9∨t.op = 8∨t.op = 11→t.pr * t.pa≤256
  flat : t.op≠11→t.sz = []∧t.ws = []
  halo : t.op = 11→cntF t.sz t.ws.length = t.pr
theorem tk_ok {t : Tk} (h : chkF t = 0) : TkOk t := by
  unfold chkF at h
  split at h
  · cases h
  · rename_i h1
    split at h
    · cases h
    · rename_i h2
      split at h
      · cases h
      · rename_i h3
        split at h
        · cases h
        · rename_i h4
          refine ⟨by omega,by omega,by omega,by omega,by omega,by omega,fun hm=>by omega,fun h11=>?_,fun h11=>?_⟩
          · have e : t.sz.length = 0∧t.ws.length = 0 := by omega
            exact ⟨List.length_eq_zero_iff.1 e.1,List.length_eq_zero_iff.1 e.2⟩
          · have hn : ¬ (crdE t.sz t.ws.length (t.pr - 1)≠0∨crdE t.sz t.ws.length t.pr = 0) := fun hc=>h4 ⟨h11,hc⟩
            unfold crdE at hn
            by_cases h0 : cntF t.sz t.ws.length = 0
            · simp [h0] at hn
            · simp only [if_neg h0] at hn
              by_cases ha : t.pr - 1 < 0∨cntF t.sz t.ws.length≤t.pr - 1
              · simp [if_pos ha] at hn
              · by_cases hb : t.pr < 0∨cntF t.sz t.ws.length≤t.pr
                · omega
                · simp [if_neg ha,if_neg hb] at hn
theorem TkOk.dims {t : Tk} (k : TkOk t) : t.sz.length≤4 := by
  by_cases h11 : t.op = 11
  · have := k.halo h11
    have h1 := k.pr
    unfold cntF at this
    split at this
    · omega
    · omega
  · rw [(k.flat h11).1];simp
theorem zZ {t : Tk} (k : TkOk t) : 1≤blkF t∧blkF t≤128∧(1≤blkF t * t.pa∧blkF t * t.pa≤2048) := by
  have hb := blk_facts t
  have h1 := k.pr
  have h2 := k.op
  have h3 := k.dims
  have h4 : 1≤blkF t∧blkF t≤128 := by omega
  have h5 := k.pa
  have p : 1 * 1≤blkF t * t.pa := Int.mul_le_mul h4.1 h5.1 (by omega) (by omega)
  have q : blkF t * t.pa≤128 * 16 := Int.mul_le_mul h4.2 h5.2 (by omega) (by omega)
  omega
def sltF (t : Tk) : Int := if chkF t = 0 then blkF t * t.pa else 0
theorem c34 {H : List Blk} {t : Tk} {b c : Nat} {R : Value→List Blk→Prop} (g : Gr H t.sz b) (hl : t.sz.length≤10) (hw : t.ws.length≤10) (h : ∀ H',HS H none' [] H' → R (.tuple ⟨[.int .i64 (sltF t), .int .i64 (chkF t)]⟩) H') : qV Tryz.prog 34 [tkV t b c] H R := by
  obtain ⟨w,hb⟩ := g.s
  refine qJ tok Tryz.call34 Tryz.func34 rfl Tryz.ntmps34 rfl (by simp) ?_
  refine qI ((HS.start H none').add (c := false) hb (fun i p hi=>by simp at hi) (fun h=>by cases h)) (fun H1 b1 e1 l1 hs=>?_)
  refine qO (fun _ hKs=>hKs _ _ ?_);clear hKs
  repeat' (first|with_reducible (first|refine ql ?_|refine qo (fun K0 hK0=>?_)|refine qw ?_|refine qx ?_|refine qf ?_|refine qi ?_|refine qg ?_|refine qc ?_|refine qy (fun K0 hK0=>?_)|refine qB ?_|refine qH ?_|refine qp ?_|refine qG ?_|refine qA ?_|refine qj ?_|refine qh ?_|refine qC ?_|refine qE rfl ?_|refine qm rfl ?_)|refine aI (by decide) ?_|refine iS hs ?_|refine rS hs ?_|refine eI _ (aI rfl ?_)|refine cF (fun _=>?_)|refine cT (fun _=>?_)|refine aI (by omega) ?_|refine oJ ?_|refine qI hs (fun _ _ _ _ hs=>?_)|refine qF hs (fun _ _ _ _ hs=>?_)|refine sS hs 0 (fun _ _ hs=>?_)|refine sS hs 1 (fun _ _ hs=>?_)|refine sS hs 2 (fun _ _ hs=>?_)|refine rd ?_|(refine hK0 _ _ ?_;clear hK0)|fail)
  refine c31 ⟨_,hs.get 1 rfl⟩ hl hw (fun H2 hn=>?_)
  have hs := qX hs hn
  clear hn
  unfold sltF at h
  by_cases h0 : chkF t = 0
  · rw [h0] at h ⊢
    rw [if_pos rfl] at h
    have k := tk_ok h0
    have hr := zZ k
    repeat' (first|with_reducible (first|refine ql ?_|refine qo (fun K0 hK0=>?_)|refine qw ?_|refine qx ?_|refine qf ?_|refine qi ?_|refine qg ?_|refine qc ?_|refine qy (fun K0 hK0=>?_)|refine qB ?_|refine qH ?_|refine qp ?_|refine qG ?_|refine qA ?_|refine qj ?_|refine qh ?_|refine qC ?_|refine qE rfl ?_|refine qm rfl ?_)|refine aI (by decide) ?_|refine iS hs ?_|refine rS hs ?_|refine eI _ (aI rfl ?_)|refine cF (fun _=>?_)|refine cT (fun _=>?_)|refine aI (by omega) ?_|refine oJ ?_|refine qI hs (fun _ _ _ _ hs=>?_)|refine qF hs (fun _ _ _ _ hs=>?_)|refine sS hs 0 (fun _ _ hs=>?_)|refine sS hs 1 (fun _ _ hs=>?_)|refine sS hs 2 (fun _ _ hs=>?_)|refine rd ?_|(refine hK0 _ _ ?_;clear hK0)|fail)
    refine vO tok mx [0,1,0,4,15,31,63] [false,false,true,true,false,false,false] (.first 0 (.first 2 (.alt 1 (.first 3 (.first 4 (.first 5 (.first 6 .done)))) (.alt 3 (.first 1 (.first 4 (.first 5 (.first 6 .done)))) .no)))) (by kernel_rfl) ?_
    refine wo (fun K0 hK0=>?_)
    repeat' (first|with_reducible (first|refine ql ?_|refine qo (fun K0 hK0=>?_)|refine qw ?_|refine qx ?_|refine qf ?_|refine qi ?_|refine qg ?_|refine qc ?_|refine qy (fun K0 hK0=>?_)|refine qB ?_|refine qH ?_|refine qp ?_|refine qG ?_|refine qA ?_|refine qj ?_|refine qh ?_|refine qC ?_|refine qE rfl ?_|refine qm rfl ?_)|refine aI (by decide) ?_|refine iS hs ?_|refine rS hs ?_|refine eI _ (aI rfl ?_)|refine cF (fun _=>?_)|refine cT (fun _=>?_)|refine aI (by omega) ?_|refine oJ ?_|refine qI hs (fun _ _ _ _ hs=>?_)|refine qF hs (fun _ _ _ _ hs=>?_)|refine sS hs 0 (fun _ _ hs=>?_)|refine sS hs 1 (fun _ _ hs=>?_)|refine sS hs 2 (fun _ _ hs=>?_)|refine rd ?_|(refine hK0 _ _ ?_;clear hK0)|fail)
    refine And.intro ?_ (And.intro ?_ trivial)
    · refine c87 hl k.pr (fun H3 hn=>?_)
      have hs := qX hs hn
      clear hn
      repeat' (first|with_reducible (first|refine ql ?_|refine qo (fun K0 hK0=>?_)|refine qw ?_|refine qx ?_|refine qf ?_|refine qi ?_|refine qg ?_|refine qc ?_|refine qy (fun K0 hK0=>?_)|refine qB ?_|refine qH ?_|refine qp ?_|refine qG ?_|refine qA ?_|refine qj ?_|refine qh ?_|refine qC ?_|refine qE rfl ?_|refine qm rfl ?_)|refine aI (by decide) ?_|refine iS hs ?_|refine rS hs ?_|refine eI _ (aI rfl ?_)|refine cF (fun _=>?_)|refine cT (fun _=>?_)|refine aI (by omega) ?_|refine oJ ?_|refine qI hs (fun _ _ _ _ hs=>?_)|refine qF hs (fun _ _ _ _ hs=>?_)|refine sS hs 0 (fun _ _ hs=>?_)|refine sS hs 1 (fun _ _ hs=>?_)|refine sS hs 2 (fun _ _ hs=>?_)|refine rd ?_|(refine hK0 _ _ ?_;clear hK0)|fail)
      exact h H3 (qQ hs)
    · skip
      repeat' (first|with_reducible (first|refine ql ?_|refine qo (fun K0 hK0=>?_)|refine qw ?_|refine qx ?_|refine qf ?_|refine qi ?_|refine qg ?_|refine qc ?_|refine qy (fun K0 hK0=>?_)|refine qB ?_|refine qH ?_|refine qp ?_|refine qG ?_|refine qA ?_|refine qj ?_|refine qh ?_|refine qC ?_|refine qE rfl ?_|refine qm rfl ?_)|refine aI (by decide) ?_|refine iS hs ?_|refine rS hs ?_|refine eI _ (aI rfl ?_)|refine cF (fun _=>?_)|refine cT (fun _=>?_)|refine aI (by omega) ?_|refine oJ ?_|refine qI hs (fun _ _ _ _ hs=>?_)|refine qF hs (fun _ _ _ _ hs=>?_)|refine sS hs 0 (fun _ _ hs=>?_)|refine sS hs 1 (fun _ _ hs=>?_)|refine sS hs 2 (fun _ _ hs=>?_)|refine rd ?_|(refine hK0 _ _ ?_;clear hK0)|fail)
      refine c87 hl k.pr (fun H3 hn=>?_)
      have hs := qX hs hn
      clear hn
      repeat' (first|with_reducible (first|refine ql ?_|refine qo (fun K0 hK0=>?_)|refine qw ?_|refine qx ?_|refine qf ?_|refine qi ?_|refine qg ?_|refine qc ?_|refine qy (fun K0 hK0=>?_)|refine qB ?_|refine qH ?_|refine qp ?_|refine qG ?_|refine qA ?_|refine qj ?_|refine qh ?_|refine qC ?_|refine qE rfl ?_|refine qm rfl ?_)|refine aI (by decide) ?_|refine iS hs ?_|refine rS hs ?_|refine eI _ (aI rfl ?_)|refine cF (fun _=>?_)|refine cT (fun _=>?_)|refine aI (by omega) ?_|refine oJ ?_|refine qI hs (fun _ _ _ _ hs=>?_)|refine qF hs (fun _ _ _ _ hs=>?_)|refine sS hs 0 (fun _ _ hs=>?_)|refine sS hs 1 (fun _ _ hs=>?_)|refine sS hs 2 (fun _ _ hs=>?_)|refine rd ?_|(refine hK0 _ _ ?_;clear hK0)|fail)
      exact h H3 (qQ hs)
  · rw [if_neg h0] at h
    repeat' (first|with_reducible (first|refine ql ?_|refine qo (fun K0 hK0=>?_)|refine qw ?_|refine qx ?_|refine qf ?_|refine qi ?_|refine qg ?_|refine qc ?_|refine qy (fun K0 hK0=>?_)|refine qB ?_|refine qH ?_|refine qp ?_|refine qG ?_|refine qA ?_|refine qj ?_|refine qh ?_|refine qC ?_|refine qE rfl ?_|refine qm rfl ?_)|refine aI (by decide) ?_|refine iS hs ?_|refine rS hs ?_|refine eI _ (aI rfl ?_)|refine cF (fun _=>?_)|refine cT (fun _=>?_)|refine aI (by omega) ?_|refine oJ ?_|refine qI hs (fun _ _ _ _ hs=>?_)|refine qF hs (fun _ _ _ _ hs=>?_)|refine sS hs 0 (fun _ _ hs=>?_)|refine sS hs 1 (fun _ _ hs=>?_)|refine sS hs 2 (fun _ _ hs=>?_)|((refine aI (fun hc=>?_) (fun hc=>?_)) <;> (try simp only [decide_eq_true_eq,decide_eq_false_iff_not,Bool.not_eq_true',Bool.not_eq_false',Bool.not_false,Bool.not_true,bne_iff_ne,ne_eq,Decidable.not_not,Int.not_lt,Int.not_le] at hc) <;> (try (exfalso;omega)))|refine rd ?_|(refine hK0 _ _ ?_;clear hK0)|fail)
    all_goals first | (exfalso;omega) | exact h H2 (qQ hs)
theorem c35 {H : List Blk} {t : Tk} {b c : Nat} {R : Value→List Blk→Prop} (g : Gr H t.sz b) (hl : t.sz.length≤10) (hw : t.ws.length≤10) (h : ∀ H',HS H none' [] H' → R (.tuple ⟨[.int .i64 (sltF t), .int .i64 (chkF t)]⟩) H') : qV Tryz.prog 35 [tkV t b c] H R := by
  obtain ⟨w,hb⟩ := g.s
  refine qJ tok Tryz.call35 Tryz.func35 rfl Tryz.ntmps35 rfl (by simp) ?_
  refine qI ((HS.start H none').add (c := false) hb (fun i p hi=>by simp at hi) (fun h=>by cases h)) (fun H1 b1 e1 l1 hs=>?_)
  refine qO (fun _ hKs=>hKs _ _ ?_);clear hKs
  repeat' (first|with_reducible (first|refine ql ?_|refine qo (fun K0 hK0=>?_)|refine qw ?_|refine qx ?_|refine qf ?_|refine qi ?_|refine qg ?_|refine qc ?_|refine qy (fun K0 hK0=>?_)|refine qB ?_|refine qH ?_|refine qp ?_|refine qG ?_|refine qA ?_|refine qj ?_|refine qh ?_|refine qC ?_|refine qE rfl ?_|refine qm rfl ?_)|refine aI (by decide) ?_|refine iS hs ?_|refine rS hs ?_|refine eI _ (aI rfl ?_)|refine cF (fun _=>?_)|refine cT (fun _=>?_)|refine aI (by omega) ?_|refine oJ ?_|refine qI hs (fun _ _ _ _ hs=>?_)|refine qF hs (fun _ _ _ _ hs=>?_)|refine sS hs 0 (fun _ _ hs=>?_)|refine sS hs 1 (fun _ _ hs=>?_)|refine sS hs 2 (fun _ _ hs=>?_)|refine rd ?_|(refine hK0 _ _ ?_;clear hK0)|fail)
  refine c36 ⟨_,hs.get 1 rfl⟩ hl hw (fun H2 hn=>?_)
  have hs := qX hs hn
  clear hn
  unfold sltF at h
  by_cases h0 : chkF t = 0
  · rw [h0] at h ⊢
    rw [if_pos rfl] at h
    have k := tk_ok h0
    have hr := zZ k
    repeat' (first|with_reducible (first|refine ql ?_|refine qo (fun K0 hK0=>?_)|refine qw ?_|refine qx ?_|refine qf ?_|refine qi ?_|refine qg ?_|refine qc ?_|refine qy (fun K0 hK0=>?_)|refine qB ?_|refine qH ?_|refine qp ?_|refine qG ?_|refine qA ?_|refine qj ?_|refine qh ?_|refine qC ?_|refine qE rfl ?_|refine qm rfl ?_)|refine aI (by decide) ?_|refine iS hs ?_|refine rS hs ?_|refine eI _ (aI rfl ?_)|refine cF (fun _=>?_)|refine cT (fun _=>?_)|refine aI (by omega) ?_|refine oJ ?_|refine qI hs (fun _ _ _ _ hs=>?_)|refine qF hs (fun _ _ _ _ hs=>?_)|refine sS hs 0 (fun _ _ hs=>?_)|refine sS hs 1 (fun _ _ hs=>?_)|refine sS hs 2 (fun _ _ hs=>?_)|refine rd ?_|(refine hK0 _ _ ?_;clear hK0)|fail)
    refine vO tok mx [0,1,0,4,15,31,63] [false,false,true,true,false,false,false] (.first 0 (.first 2 (.alt 1 (.first 3 (.first 4 (.first 5 (.first 6 .done)))) (.alt 3 (.first 1 (.first 4 (.first 5 (.first 6 .done)))) .no)))) (by kernel_rfl) ?_
    refine wo (fun K0 hK0=>?_)
    repeat' (first|with_reducible (first|refine ql ?_|refine qo (fun K0 hK0=>?_)|refine qw ?_|refine qx ?_|refine qf ?_|refine qi ?_|refine qg ?_|refine qc ?_|refine qy (fun K0 hK0=>?_)|refine qB ?_|refine qH ?_|refine qp ?_|refine qG ?_|refine qA ?_|refine qj ?_|refine qh ?_|refine qC ?_|refine qE rfl ?_|refine qm rfl ?_)|refine aI (by decide) ?_|refine iS hs ?_|refine rS hs ?_|refine eI _ (aI rfl ?_)|refine cF (fun _=>?_)|refine cT (fun _=>?_)|refine aI (by omega) ?_|refine oJ ?_|refine qI hs (fun _ _ _ _ hs=>?_)|refine qF hs (fun _ _ _ _ hs=>?_)|refine sS hs 0 (fun _ _ hs=>?_)|refine sS hs 1 (fun _ _ hs=>?_)|refine sS hs 2 (fun _ _ hs=>?_)|refine rd ?_|(refine hK0 _ _ ?_;clear hK0)|fail)
    refine And.intro ?_ (And.intro ?_ trivial)
    · refine c88 hl k.pr (fun H3 hn=>?_)
      have hs := qX hs hn
      clear hn
      repeat' (first|with_reducible (first|refine ql ?_|refine qo (fun K0 hK0=>?_)|refine qw ?_|refine qx ?_|refine qf ?_|refine qi ?_|refine qg ?_|refine qc ?_|refine qy (fun K0 hK0=>?_)|refine qB ?_|refine qH ?_|refine qp ?_|refine qG ?_|refine qA ?_|refine qj ?_|refine qh ?_|refine qC ?_|refine qE rfl ?_|refine qm rfl ?_)|refine aI (by decide) ?_|refine iS hs ?_|refine rS hs ?_|refine eI _ (aI rfl ?_)|refine cF (fun _=>?_)|refine cT (fun _=>?_)|refine aI (by omega) ?_|refine oJ ?_|refine qI hs (fun _ _ _ _ hs=>?_)|refine qF hs (fun _ _ _ _ hs=>?_)|refine sS hs 0 (fun _ _ hs=>?_)|refine sS hs 1 (fun _ _ hs=>?_)|refine sS hs 2 (fun _ _ hs=>?_)|refine rd ?_|(refine hK0 _ _ ?_;clear hK0)|fail)
      exact h H3 (qQ hs)
    · skip
      repeat' (first|with_reducible (first|refine ql ?_|refine qo (fun K0 hK0=>?_)|refine qw ?_|refine qx ?_|refine qf ?_|refine qi ?_|refine qg ?_|refine qc ?_|refine qy (fun K0 hK0=>?_)|refine qB ?_|refine qH ?_|refine qp ?_|refine qG ?_|refine qA ?_|refine qj ?_|refine qh ?_|refine qC ?_|refine qE rfl ?_|refine qm rfl ?_)|refine aI (by decide) ?_|refine iS hs ?_|refine rS hs ?_|refine eI _ (aI rfl ?_)|refine cF (fun _=>?_)|refine cT (fun _=>?_)|refine aI (by omega) ?_|refine oJ ?_|refine qI hs (fun _ _ _ _ hs=>?_)|refine qF hs (fun _ _ _ _ hs=>?_)|refine sS hs 0 (fun _ _ hs=>?_)|refine sS hs 1 (fun _ _ hs=>?_)|refine sS hs 2 (fun _ _ hs=>?_)|refine rd ?_|(refine hK0 _ _ ?_;clear hK0)|fail)
      refine c88 hl k.pr (fun H3 hn=>?_)
      have hs := qX hs hn
      clear hn
      repeat' (first|with_reducible (first|refine ql ?_|refine qo (fun K0 hK0=>?_)|refine qw ?_|refine qx ?_|refine qf ?_|refine qi ?_|refine qg ?_|refine qc ?_|refine qy (fun K0 hK0=>?_)|refine qB ?_|refine qH ?_|refine qp ?_|refine qG ?_|refine qA ?_|refine qj ?_|refine qh ?_|refine qC ?_|refine qE rfl ?_|refine qm rfl ?_)|refine aI (by decide) ?_|refine iS hs ?_|refine rS hs ?_|refine eI _ (aI rfl ?_)|refine cF (fun _=>?_)|refine cT (fun _=>?_)|refine aI (by omega) ?_|refine oJ ?_|refine qI hs (fun _ _ _ _ hs=>?_)|refine qF hs (fun _ _ _ _ hs=>?_)|refine sS hs 0 (fun _ _ hs=>?_)|refine sS hs 1 (fun _ _ hs=>?_)|refine sS hs 2 (fun _ _ hs=>?_)|refine rd ?_|(refine hK0 _ _ ?_;clear hK0)|fail)
      exact h H3 (qQ hs)
  · rw [if_neg h0] at h
    repeat' (first|with_reducible (first|refine ql ?_|refine qo (fun K0 hK0=>?_)|refine qw ?_|refine qx ?_|refine qf ?_|refine qi ?_|refine qg ?_|refine qc ?_|refine qy (fun K0 hK0=>?_)|refine qB ?_|refine qH ?_|refine qp ?_|refine qG ?_|refine qA ?_|refine qj ?_|refine qh ?_|refine qC ?_|refine qE rfl ?_|refine qm rfl ?_)|refine aI (by decide) ?_|refine iS hs ?_|refine rS hs ?_|refine eI _ (aI rfl ?_)|refine cF (fun _=>?_)|refine cT (fun _=>?_)|refine aI (by omega) ?_|refine oJ ?_|refine qI hs (fun _ _ _ _ hs=>?_)|refine qF hs (fun _ _ _ _ hs=>?_)|refine sS hs 0 (fun _ _ hs=>?_)|refine sS hs 1 (fun _ _ hs=>?_)|refine sS hs 2 (fun _ _ hs=>?_)|((refine aI (fun hc=>?_) (fun hc=>?_)) <;> (try simp only [decide_eq_true_eq,decide_eq_false_iff_not,Bool.not_eq_true',Bool.not_eq_false',Bool.not_false,Bool.not_true,bne_iff_ne,ne_eq,Decidable.not_not,Int.not_lt,Int.not_le] at hc) <;> (try (exfalso;omega)))|refine rd ?_|(refine hK0 _ _ ?_;clear hK0)|fail)
    all_goals first | (exfalso;omega) | exact h H2 (qQ hs)
def isF (t : Tk) (r : Int) : Int := if chkF t≠0 then chkF t else if r < 0∨t.pr≤r then 11 else 0
theorem c91 {H : List Blk} {t : Tk} {r : Int} {b c : Nat} {R : Value→List Blk→Prop} (g : Gr H t.sz b) (hl : t.sz.length≤10) (hw : t.ws.length≤10) (h : ∀ H',HS H none' [] H' → R (.int .i64 (isF t r)) H') : qV Tryz.prog 91 [tkV t b c, .int .i64 r] H R := by
  obtain ⟨w,hb⟩ := g.s
  refine qJ tok Tryz.call91 Tryz.func91 rfl Tryz.ntmps91 rfl (by simp) ?_
  refine qI ((HS.start H none').add (c := false) hb (fun i p hi=>by simp at hi) (fun h=>by cases h)) (fun H1 b1 e1 l1 hs=>?_)
  refine qO (fun _ hKs=>hKs _ _ ?_);clear hKs
  repeat' (first|with_reducible (first|refine ql ?_|refine qo (fun K0 hK0=>?_)|refine qw ?_|refine qx ?_|refine qf ?_|refine qi ?_|refine qg ?_|refine qc ?_|refine qy (fun K0 hK0=>?_)|refine qB ?_|refine qH ?_|refine qp ?_|refine qG ?_|refine qA ?_|refine qj ?_|refine qh ?_|refine qC ?_|refine qE rfl ?_|refine qm rfl ?_)|refine aI (by decide) ?_|refine iS hs ?_|refine rS hs ?_|refine eI _ (aI rfl ?_)|refine cF (fun _=>?_)|refine cT (fun _=>?_)|refine aI (by omega) ?_|refine oJ ?_|refine qI hs (fun _ _ _ _ hs=>?_)|refine qF hs (fun _ _ _ _ hs=>?_)|refine sS hs 0 (fun _ _ hs=>?_)|refine sS hs 1 (fun _ _ hs=>?_)|refine sS hs 2 (fun _ _ hs=>?_)|refine rd ?_|(refine hK0 _ _ ?_;clear hK0)|fail)
  refine c31 ⟨_,hs.get 1 rfl⟩ hl hw (fun H2 hn=>?_)
  have hs := qX hs hn
  clear hn
  replace h := h H2 (qQ hs)
  unfold isF at h
  by_cases h0 : chkF t = 0
  · rw [h0] at h ⊢
    repeat' (first|with_reducible (first|refine ql ?_|refine qo (fun K0 hK0=>?_)|refine qw ?_|refine qx ?_|refine qf ?_|refine qi ?_|refine qg ?_|refine qc ?_|refine qy (fun K0 hK0=>?_)|refine qB ?_|refine qH ?_|refine qp ?_|refine qG ?_|refine qA ?_|refine qj ?_|refine qh ?_|refine qC ?_|refine qE rfl ?_|refine qm rfl ?_)|refine aI (by decide) ?_|refine iS hs ?_|refine rS hs ?_|refine eI _ (aI rfl ?_)|refine cF (fun _=>?_)|refine cT (fun _=>?_)|refine aI (by omega) ?_|refine oJ ?_|refine qI hs (fun _ _ _ _ hs=>?_)|refine qF hs (fun _ _ _ _ hs=>?_)|refine sS hs 0 (fun _ _ hs=>?_)|refine sS hs 1 (fun _ _ hs=>?_)|refine sS hs 2 (fun _ _ hs=>?_)|((refine aI (fun hc=>?_) (fun hc=>?_)) <;> (try simp only [decide_eq_true_eq,decide_eq_false_iff_not,Bool.not_eq_true',Bool.not_eq_false',Bool.not_false,Bool.not_true,bne_iff_ne,ne_eq,Decidable.not_not,Int.not_lt,Int.not_le] at hc) <;> (try (exfalso;omega)))|refine rd ?_|(refine hK0 _ _ ?_;clear hK0)|fail)
    all_goals (
      (repeat (first | rw [if_pos (by omega)] at h | rw [if_neg (by omega)] at h))
      exact h)
  · generalize chkF t = z at h0 h ⊢
    repeat' (first|with_reducible (first|refine ql ?_|refine qo (fun K0 hK0=>?_)|refine qw ?_|refine qx ?_|refine qf ?_|refine qi ?_|refine qg ?_|refine qc ?_|refine qy (fun K0 hK0=>?_)|refine qB ?_|refine qH ?_|refine qp ?_|refine qG ?_|refine qA ?_|refine qj ?_|refine qh ?_|refine qC ?_|refine qE rfl ?_|refine qm rfl ?_)|refine aI (by decide) ?_|refine iS hs ?_|refine rS hs ?_|refine eI _ (aI rfl ?_)|refine cF (fun _=>?_)|refine cT (fun _=>?_)|refine aI (by omega) ?_|refine oJ ?_|refine qI hs (fun _ _ _ _ hs=>?_)|refine qF hs (fun _ _ _ _ hs=>?_)|refine sS hs 0 (fun _ _ hs=>?_)|refine sS hs 1 (fun _ _ hs=>?_)|refine sS hs 2 (fun _ _ hs=>?_)|((refine aI (fun hc=>?_) (fun hc=>?_)) <;> (try simp only [decide_eq_true_eq,decide_eq_false_iff_not,Bool.not_eq_true',Bool.not_eq_false',Bool.not_false,Bool.not_true,bne_iff_ne,ne_eq,Decidable.not_not,Int.not_lt,Int.not_le] at hc) <;> (try (exfalso;omega)))|refine rd ?_|(refine hK0 _ _ ?_;clear hK0)|fail)
    all_goals (
      (repeat (first | rw [if_pos (by omega)] at h | rw [if_neg (by omega)] at h))
      exact h)
theorem c93 {H : List Blk} {t : Tk} {r : Int} {b c : Nat} {R : Value→List Blk→Prop} (g : Gr H t.sz b) (hl : t.sz.length≤10) (hw : t.ws.length≤10) (h : ∀ H',HS H none' [] H' → R (.int .i64 (isF t r)) H') : qV Tryz.prog 93 [tkV t b c, .int .i64 r] H R := by
  obtain ⟨w,hb⟩ := g.s
  refine qJ tok Tryz.call93 Tryz.func93 rfl Tryz.ntmps93 rfl (by simp) ?_
  refine qI ((HS.start H none').add (c := false) hb (fun i p hi=>by simp at hi) (fun h=>by cases h)) (fun H1 b1 e1 l1 hs=>?_)
  refine qO (fun _ hKs=>hKs _ _ ?_);clear hKs
  repeat' (first|with_reducible (first|refine ql ?_|refine qo (fun K0 hK0=>?_)|refine qw ?_|refine qx ?_|refine qf ?_|refine qi ?_|refine qg ?_|refine qc ?_|refine qy (fun K0 hK0=>?_)|refine qB ?_|refine qH ?_|refine qp ?_|refine qG ?_|refine qA ?_|refine qj ?_|refine qh ?_|refine qC ?_|refine qE rfl ?_|refine qm rfl ?_)|refine aI (by decide) ?_|refine iS hs ?_|refine rS hs ?_|refine eI _ (aI rfl ?_)|refine cF (fun _=>?_)|refine cT (fun _=>?_)|refine aI (by omega) ?_|refine oJ ?_|refine qI hs (fun _ _ _ _ hs=>?_)|refine qF hs (fun _ _ _ _ hs=>?_)|refine sS hs 0 (fun _ _ hs=>?_)|refine sS hs 1 (fun _ _ hs=>?_)|refine sS hs 2 (fun _ _ hs=>?_)|refine rd ?_|(refine hK0 _ _ ?_;clear hK0)|fail)
  refine c36 ⟨_,hs.get 1 rfl⟩ hl hw (fun H2 hn=>?_)
  have hs := qX hs hn
  clear hn
  replace h := h H2 (qQ hs)
  unfold isF at h
  by_cases h0 : chkF t = 0
  · rw [h0] at h ⊢
    repeat' (first|with_reducible (first|refine ql ?_|refine qo (fun K0 hK0=>?_)|refine qw ?_|refine qx ?_|refine qf ?_|refine qi ?_|refine qg ?_|refine qc ?_|refine qy (fun K0 hK0=>?_)|refine qB ?_|refine qH ?_|refine qp ?_|refine qG ?_|refine qA ?_|refine qj ?_|refine qh ?_|refine qC ?_|refine qE rfl ?_|refine qm rfl ?_)|refine aI (by decide) ?_|refine iS hs ?_|refine rS hs ?_|refine eI _ (aI rfl ?_)|refine cF (fun _=>?_)|refine cT (fun _=>?_)|refine aI (by omega) ?_|refine oJ ?_|refine qI hs (fun _ _ _ _ hs=>?_)|refine qF hs (fun _ _ _ _ hs=>?_)|refine sS hs 0 (fun _ _ hs=>?_)|refine sS hs 1 (fun _ _ hs=>?_)|refine sS hs 2 (fun _ _ hs=>?_)|((refine aI (fun hc=>?_) (fun hc=>?_)) <;> (try simp only [decide_eq_true_eq,decide_eq_false_iff_not,Bool.not_eq_true',Bool.not_eq_false',Bool.not_false,Bool.not_true,bne_iff_ne,ne_eq,Decidable.not_not,Int.not_lt,Int.not_le] at hc) <;> (try (exfalso;omega)))|refine rd ?_|(refine hK0 _ _ ?_;clear hK0)|fail)
    all_goals (
      (repeat (first | rw [if_pos (by omega)] at h | rw [if_neg (by omega)] at h))
      exact h)
  · generalize chkF t = z at h0 h ⊢
    repeat' (first|with_reducible (first|refine ql ?_|refine qo (fun K0 hK0=>?_)|refine qw ?_|refine qx ?_|refine qf ?_|refine qi ?_|refine qg ?_|refine qc ?_|refine qy (fun K0 hK0=>?_)|refine qB ?_|refine qH ?_|refine qp ?_|refine qG ?_|refine qA ?_|refine qj ?_|refine qh ?_|refine qC ?_|refine qE rfl ?_|refine qm rfl ?_)|refine aI (by decide) ?_|refine iS hs ?_|refine rS hs ?_|refine eI _ (aI rfl ?_)|refine cF (fun _=>?_)|refine cT (fun _=>?_)|refine aI (by omega) ?_|refine oJ ?_|refine qI hs (fun _ _ _ _ hs=>?_)|refine qF hs (fun _ _ _ _ hs=>?_)|refine sS hs 0 (fun _ _ hs=>?_)|refine sS hs 1 (fun _ _ hs=>?_)|refine sS hs 2 (fun _ _ hs=>?_)|((refine aI (fun hc=>?_) (fun hc=>?_)) <;> (try simp only [decide_eq_true_eq,decide_eq_false_iff_not,Bool.not_eq_true',Bool.not_eq_false',Bool.not_false,Bool.not_true,bne_iff_ne,ne_eq,Decidable.not_not,Int.not_lt,Int.not_le] at hc) <;> (try (exfalso;omega)))|refine rd ?_|(refine hK0 _ _ ?_;clear hK0)|fail)
    all_goals (
      (repeat (first | rw [if_pos (by omega)] at h | rw [if_neg (by omega)] at h))
      exact h)
theorem c18 {H : List Blk} {t : Tk} {b c : Nat} {R : Value→List Blk→Prop} (h : ∀ H',HS H none' [] H' → R (tkV t b c) H') : qV Tryz.prog 18 [tkV t b c] H R := by
  refine qJ tok Tryz.call18 Tryz.func18 rfl Tryz.ntmps18 rfl (by simp) ?_
  refine qI (HS.start H none') (fun H1 b1 e1 l1 hs=>?_)
  refine qI hs (fun H2 b2 e2 l2 hs=>?_)
  repeat' (first|with_reducible (first|refine ql ?_|refine qo (fun K0 hK0=>?_)|refine qw ?_|refine qx ?_|refine qf ?_|refine qi ?_|refine qg ?_|refine qc ?_|refine qy (fun K0 hK0=>?_)|refine qB ?_|refine qH ?_|refine qp ?_|refine qG ?_|refine qA ?_|refine qj ?_|refine qh ?_|refine qC ?_|refine qE rfl ?_|refine qm rfl ?_)|refine aI (by decide) ?_|refine iS hs ?_|refine rS hs ?_|refine eI _ (aI rfl ?_)|refine cF (fun _=>?_)|refine cT (fun _=>?_)|refine aI (by omega) ?_|refine oJ ?_|refine qI hs (fun _ _ _ _ hs=>?_)|refine qF hs (fun _ _ _ _ hs=>?_)|refine sS hs 0 (fun _ _ hs=>?_)|refine sS hs 1 (fun _ _ hs=>?_)|refine sS hs 2 (fun _ _ hs=>?_)|refine rd ?_|(refine hK0 _ _ ?_;clear hK0)|fail)
  change resK T _ _ _ _
  refine resK_agg (by rfl) (by rfl) (hs.get 0 rfl) (by rfl) ?_
  refine ⟨_,rfl,_,rfl,_,rfl,_,rfl,_,rfl,_,rfl, ?_⟩
  exact h _ (qQ hs)
end Go.Af.Tryz
namespace Go.Af.Tryz
open Go Go.Proofs
open Go.Af.Coll (St sgn orF cmpL cmpF keyL befL befF)
set_option maxRecDepth 100000
set_option maxHeartbeats 4000000
attribute [local irreducible] awp qV vU vZ vW ve isCells qP qN vN vz qW roundEnd

instance : Inhabited St := ⟨⟨0,0,0,0,0,0⟩⟩
abbrev stC (s : St) : List Value := [.int .i64 s.rd, .int .i64 s.fr, .int .i64 s.to, .int .i64 s.sr, .int .i64 s.ds, .int .i64 s.jn]
def stsC : List St→List Value
  | []=>[]
  | s :: r=>stC s ++ stsC r
theorem stsC_snoc (x : St) : ∀ l : List St,stsC (l ++ [x]) = stsC l ++ stC x
  | []=>rfl
  | s :: r=>by simp only [List.cons_append,stsC,stsC_snoc x r,List.append_assoc]
end Go.Af.Tryz
namespace Go.Af.Tryz
open Go Go.Proofs
open Go.Af.Coll (St Ck lk upd takesF emp)
set_option maxRecDepth 100000
set_option maxHeartbeats 4000000

theorem ht146 : Tryz.prog.underlying 146 = some (.struct (Tryz.prog.fieldsOf 146)) := by kernel_rfl
theorem mkey146 : MKey Tryz.prog 146 [.i64, .i64] := mkey_struct ht146 (by kernel_rfl) (by kernel_rfl) (xP (by kernel_rfl))
theorem keq3 {H : List Blk} {a c : Int} {K : Bool→Prop} (h : K (decide (a = c))) : keq Tryz.prog T H 3 (.int .i64 a) (.int .i64 c) K := by
  exact h
theorem keyK3 {a : Int} {K : Prop} (h : K) : keyK Tryz.prog T 3 (.int .i64 a) K := by
  exact h
theorem mfind_list {P : Program} {T' : TT} {H : List Blk} {kt : Nat} {k : Value} {K : Option Nat→Prop} (t : MapEntry→Bool) : ∀ (l : List MapEntry) (i : Nat) (_ : ∀ e∈l, ∀ K' : Bool→Prop,K' (t e)→keq P T' H kt k e.key K')
    (_ : ∀ j e,l[j]? = some e→t e = true→(∀ j' e',j' < j→l[j']? = some e' → t e' = false)→K (some (i + j))) (_ : (∀ e∈l,t e = false)→K none),xn P T' H kt k l i K
  | [],i,_,_,h3=>h3 (fun e h=>by cases h)
  | e :: l,i,h1,h2,h3=>by
    refine h1 e List.mem_cons_self _ ?_
    cases hte : t e with
    | true=>exact h2 0 e rfl hte (fun j' e' hj=>absurd hj (by omega))
    | false =>
      refine mfind_list t l (i + 1) (fun e he=>h1 e (List.mem_cons_of_mem _ he)) (fun j e' hj ht hb=>?_) (fun hn=>h3 (fun e' he=>?_))
      · have := h2 (j + 1) e' (by simpa using hj) ht (fun j' e2 hj' he2=>by
          cases j' with
          | zero=>simp at he2;subst he2;exact hte
          | succ j' => exact hb j' e2 (by omega) (by simpa using he2))
        rw [show i + 1 + j = i + (j + 1) by omega];exact this
      · rcases List.mem_cons.1 he with h | h
        · subst h;exact hte
        · exact hn e' h
end Go.Af.Tryz
