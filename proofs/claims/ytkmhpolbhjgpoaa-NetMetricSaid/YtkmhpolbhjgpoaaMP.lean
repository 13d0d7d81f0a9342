/-
  Nobody waits for himself.
  The law NetCycles, as a call.
-/
import Derived.Test.YtkmhpolbhjgpoaaMZ
import Derived.Test.YtkmhpolbhjgpoaaMX
set_option linter.all false
namespace Go.Af.Try
open Go Go.Proofs
attribute [local irreducible] awp ACall ACallX AYield AInvoke newSlice isCells rdCells wrCells aAppend

/-- How many are left. -/
def left : List Bool → Nat
  | [] => 0
  | g :: r => (if g then 0 else 1) + left r
end Go.Af.Try
namespace Go.Af.Try
open Go Go.Proofs
attribute [local irreducible] awp ACall ACallX AYield AInvoke

/-- How many switches a network has that is not too great, and how many homes. -/
def szF (o : Option Sh) (most : Int) : Int × Int :=
  match o with
  | none => (0, 0)
  | some s => if s.sw ≤ most then (s.sw, s.hm) else (0, 0)
theorem l19 (kind hosts most : Int) (sides : List Int) : ACall Try.prog 19 [spV kind (sv 0 sides.length) hosts, .int .i64 most] [ro sides] (fun v H => v = .tuple ⟨[.int .i64 (szF (shapeF kind sides hosts) most).1, .int .i64 (szF (shapeF kind sides hosts) most).2]⟩ ∧ H = [ro sides]) := by
  refine acall_drop (acall_vcg tok Try.call19 Try.func19 rfl Try.ntmps19 rfl (by simp) ?_)
  (repeat (first | refine And.intro (fun _ => ?_) (fun h => absurd h (by decide)) | refine And.intro (fun h => absurd h (by decide)) (fun _ => ?_) | refine Exists.intro _ (And.intro rfl ?_) | refine And.intro (by decide) ?_ | refine And.intro (by omega) ?_ | refine Or.inl (Exists.intro _ (And.intro rfl (And.intro (by unfold I64; omega) ?_)))))
  (first | refine c22 rfl (Nat.le_refl _) ?_ | refine (c22 rfl (Nat.le_refl _) ?_).call)
  cases hs : shapeF kind sides hosts with
  | none =>
    simp only [szF]
    (repeat (first | refine And.intro (fun _ => ?_) (fun h => absurd h (by decide)) | refine And.intro (fun h => absurd h (by decide)) (fun _ => ?_) | refine Exists.intro _ (And.intro rfl ?_) | refine And.intro (by decide) ?_ | refine And.intro (by omega) ?_ | refine Or.inl (Exists.intro _ (And.intro rfl (And.intro (by unfold I64; omega) ?_))) | refine And.intro (show (_ : Nat) < _ from by simp) ?_ | refine And.intro (fun h => absurd h (by rw [decide_eq_true rfl]; decide)) (fun _ => ?_) | refine And.intro (fun _ => ?_) (fun h => absurd h (by rw [decide_eq_true rfl]; decide))))
    refine ⟨[(0, 0)], _, [ro (sides)], by simp, anch_of rfl, ⟨⟨_, rfl, BRen.ints _ _ _⟩, trivial⟩, rfl, VRen.plain rfl, rfl, rfl⟩
  | some s =>
    have hok := shapeF_ok hs
    have hh := shapeF_hosts hs
    have hbd := sw_bd hok
    simp only [szF]
    refine ⟨_, rfl, _, rfl, _, rfl, ?_⟩
    refine vops_gen (fun K0 hK0 => hK0 _ _ ?_)
    refine vops_gen (fun K0 hK0 => ?_)
    refine And.intro (fun _ => ?_) (fun h => absurd h (by decide))
    refine And.intro (fun _ => ?_) (fun h => absurd h (by decide))
    refine And.intro (fun _ => ?_) (fun h => by simp at h; omega)
    refine And.intro (fun _ => ?_) (fun h => absurd h (by decide))
    refine And.intro (fun _ => ?_) (fun h => absurd h (by decide))
    refine And.intro (fun h1 => ?_) (fun h1 => ?_)
    · have h1 : s.sw ≤ most := by simpa using h1
      refine And.intro (by decide) ?_
      refine And.intro (fun _ => ?_) (fun h => absurd h (by decide))
      refine ⟨_, rfl, ?_⟩
      refine And.intro (fun _ => ?_) (fun h => absurd h (by decide))
      refine hK0 _ _ ?_
      clear hK0 K0
      rw [if_pos h1]
      refine And.intro (fun h => by simp at h; omega) (fun _ => ?_)
      refine vcg_draw tok mx [0, 0, 0, 4, 14, 1, 63] [false, false, false, false, false, true, false] [0, 1, 2, 3, 4, 5, 6] (by kernel_rfl) ?_
      refine vopsO_gen (fun K0 hK0 => ?_)
      refine And.intro (by decide) ?_
      refine ⟨_, rfl, ?_⟩
      refine And.intro (by omega) ?_
      have hm := mulb (a := s.hm) (b := hosts) (A := 65536) (B := 8) (by omega) (by omega) (by omega) (by omega)
      refine Or.inl ⟨s.hm, Int.mul_tdiv_cancel _ (by omega), by unfold I64; omega, ?_⟩
      refine hK0 _ _ ?_
      clear hK0 K0
      refine ⟨[(0, 0)], _, [ro (sides)], by simp, anch_of rfl, ⟨⟨_, rfl, BRen.ints _ _ _⟩, trivial⟩, rfl, VRen.plain rfl, rfl, rfl⟩
    · have h1 : ¬ s.sw ≤ most := by simpa using h1
      refine And.intro (fun h => absurd h (by decide)) (fun _ => ?_)
      refine And.intro (fun h => absurd h (by decide)) (fun _ => ?_)
      refine hK0 _ _ ?_
      clear hK0 K0
      rw [if_neg h1]
      refine And.intro (fun _ => ?_) (fun h => absurd h (by decide))
      refine ⟨[(0, 0)], _, [ro (sides)], by simp, anch_of rfl, ⟨⟨_, rfl, BRen.ints _ _ _⟩, trivial⟩, rfl, VRen.plain rfl, rfl, rfl⟩
theorem c19 {H : List Blk} {R : Value → List Blk → Prop} {b c : Nat} {wr : Bool} {kind hosts most : Int} {sides : List Int} (hb : bget H b = some (.cells wr 1 (ints sides))) (hl : sides.length ≤ c) (h : R (.tuple ⟨[.int .i64 (szF (shapeF kind sides hosts) most).1, .int .i64 (szF (shapeF kind sides hosts) most).2]⟩) H) :
    ACallX Try.prog 19 [spV kind (.slice (some ⟨b, 0, none⟩) sides.length c) hosts, .int .i64 most] H R := acallx_sp rfl (l19 kind hosts most sides) hb hl rfl h
end Go.Af.Try
