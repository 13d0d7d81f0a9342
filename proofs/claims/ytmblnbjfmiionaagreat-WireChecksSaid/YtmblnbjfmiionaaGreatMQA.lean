/-
  (The seat's types stand in S1.)
  The sum of bytes: what a byte does to it, and the program's function.
  Frames of bytes: the library's Clone and Equal, the program's frame and Right.
  The reference's sum, frame and Right.
  The reference's Right, and the law WireSums as a call.
  The law WireSums as a call.
  Configurations: Check of the program and of the reference.
  The law WireChecks as a call.
-/
import Derived.Test.YtmblnbjfmiionaaGreatMS
import Derived.Test.YtmblnbjfmiionaaGreatMWA
import Derived.Test.YtmblnbjfmiionaaGreatMT
set_option linter.all false

namespace Go.Af.Tryz
open Go Go.Proofs
attribute [local irreducible] awp ACall ACallX AYield AInvoke newSlice isCells rdCells wrCells aAppend rangeEnd roundBegin roundEnd

/-- A row of bytes. -/
def bys (l : List Nat) : List Value := l.map (fun x : Nat => Value.int IntKind.u8 (x : Int))
@[simp] theorem bys_length (l : List Nat) : (bys l).length = l.length := by simp [bys]
/-! ### Plainly -/
def stepN (r : Nat) : Nat := if 32768 ≤ r then (2 * r % 65536) ^^^ 4129 else 2 * r
def stepsN : Nat → Nat → Nat
  | 0, r => r
  | n + 1, r => stepN (stepsN n r)
def byteN (r c : Nat) : Nat := stepsN 8 (r ^^^ (c * 256))
def sumN (l : List Nat) : Nat := l.foldl byteN 65535
/-! ### Numbers of 16 bits -/
theorem wrap16 (z : Int) : IntKind.u16.wrap z = z % 65536 := by
  show (if (false && decide (z % (2 ^ 16 : Int) ≥ 2 ^ 15)) = true then z % (2 ^ 16 : Int) - 2 ^ 16 else z % (2 ^ 16 : Int)) = z % 65536
  rw [Bool.false_and, if_neg (by decide)]
  rfl
theorem shl1 (r : Nat) : IntKind.u16.wrap ((r : Int) * 2 ^ (min (1 : Int).toNat IntKind.u16.bits)) = ((2 * r % 65536 : Nat) : Int) := by
  rw [wrap16]
  show (r : Int) * 2 % 65536 = _
  omega
/-! ### The program -/
end Go.Af.Tryz
namespace Go.Af.Tryz
open Go Go.Proofs

section
variable {H0 H : List Blk} {o : Nat → Prop} {L : List (Bool × Nat × Blk)}
end

attribute [local irreducible] awp ACall ACallX AYield AInvoke newSlice isCells rdCells wrCells aAppend rangeEnd roundBegin roundEnd
abbrev none' : Nat → Prop := fun _ => False
/-! ### Frames -/
def frameN (l : List Nat) : List Nat := l ++ [sumN l / 256, sumN l % 256]
@[simp] theorem frameN_length (l : List Nat) : (frameN l).length = l.length + 2 := by simp [frameN]

section
attribute [local irreducible] aeq
end

end Go.Af.Tryz
namespace Go.Af.Tryz
open Go Go.Proofs
attribute [local irreducible] awp ACall ACallX AYield AInvoke newSlice isCells rdCells wrCells aAppend rangeEnd roundBegin roundEnd

end Go.Af.Tryz
namespace Go.Af.Tryz
open Go Go.Proofs
attribute [local irreducible] awp ACall ACallX AYield AInvoke newSlice isCells rdCells wrCells aAppend rangeEnd roundBegin roundEnd

end Go.Af.Tryz
namespace Go.Af.Tryz
open Go Go.Proofs
attribute [local irreducible] awp ACall ACallX AYield AInvoke newSlice isCells rdCells wrCells aAppend rangeEnd roundBegin roundEnd

end Go.Af.Tryz
namespace Go.Af.Tryz
open Go Go.Proofs
attribute [local irreducible] awp ACall ACallX AYield AInvoke newSlice isCells rdCells wrCells aAppend rangeEnd roundBegin roundEnd

theorem resK_agg {T' : TT} {sl : List (Nat × Value)} {H : List Blk} {a t b o z : Nat} {w : Bool} {vs : List Value} {r : List ResultVar} {K : List Value → Prop} {i : TI} (ht : tget T' t = some i) (ha : look sl a = some (.pointer (some ⟨b, o, none⟩))) (hb : bget H b = some (.cells w z vs)) (hk : i.kind.agg = true)
    (h : segK vs o i.size (fun seg => resK T' sl H r (fun us => K (.agg ⟨seg⟩ :: us)))) : resK T' sl H (.cell a t :: r) K := by
  simp only [resK, ht, ha, hb, hk]; exact h
/-- A configuration's cells. -/
abbrev cfC (kind : Int) (v : Value) (hosts room : Int) (ad : Bool) (noise jit seed : Int) : List Value := [.int .i64 kind, v, .int .i64 hosts, .int .i64 room, .bool ad, .int .i64 noise, .int .i64 jit, .int .u64 seed]
abbrev cfV (kind : Int) (v : Value) (hosts room : Int) (ad : Bool) (noise jit seed : Int) : Value := .agg ⟨cfC kind v hosts room ad noise jit seed⟩
theorem drop_ints {H0 H : List Blk} {sides : List Int} {V : Value} (hH0 : [ro sides] = H0) (h : bget H 0 = some (ro sides)) (hV : plainV 6 V = true) : Drop H0.length (fun v H => v = V ∧ H = H0) V H := by
  subst hH0
  exact ⟨[(0, 0)], V, [ro sides], by simp, anch_of rfl, ⟨⟨_, h, BRen.ints _ _ _⟩, trivial⟩, rfl, VRen.plain hV, rfl, rfl⟩
def okRng (room noise jit : Int) : Bool := (decide (1 ≤ room) && decide (room ≤ 8)) && ((decide (0 ≤ noise) && decide (noise ≤ 500)) && (decide (0 ≤ jit) && decide (jit ≤ 8)))
def ckF (s : Option Sh) (room noise jit : Int) : Int :=
  match s with
  | none => 2
  | some _ => if okRng room noise jit then 0 else 3
theorem lw17 (kind hosts room noise jit seed : Int) (ad : Bool) (sides : List Int) :
    ACall Tryz.prog 17 [cfV kind (sv 0 sides.length) hosts room ad noise jit seed] [ro sides] (fun v H => v = .int .i64 (ckF (shapeF kind sides hosts) room noise jit) ∧ H = [ro sides]) := by
  refine acall_drop (acall_vcg tok Tryz.call17 Tryz.func17 rfl Tryz.ntmps17 rfl (by simp) ?_)
  generalize hH0 : [ro sides] = H0
  have h0 : bget H0 0 = some (ro sides) := by rw [← hH0]; rfl
  refine new_hs ((HS.start H0 none').add (c := false) h0 (fun i p hi => by simp at hi) (fun h => by cases h)) (fun H1 b e1 l1 hs1 => ?_)
  refine vops_gen (fun K0 hK0 => hK0 _ _ ?_)
  refine ⟨by decide, isCells_of (hs1.get 0 rfl) ?_⟩
  refine rdCells_of (hs1.get 0 rfl) ?_
  refine ⟨_, rfl, _, rfl, _, rfl, ?_⟩
  refine (c24 (hs1.get 1 rfl) (Nat.le_refl _) ?_).call
  cases hs : shapeF kind sides hosts with
  | none =>
    refine And.intro (fun _ => ?_) (fun h => absurd h (by decide))
    exact drop_ints hH0 (hs1.get 1 rfl) rfl
  | some s =>
    refine And.intro (fun h => absurd h (by simp [eF])) (fun _ => ?_)
    refine ⟨by decide, isCells_of (hs1.get 0 rfl) ?_⟩
    refine rdCells_of (hs1.get 0 rfl) ?_
    refine ⟨_, rfl, ?_⟩
    refine ⟨by decide, isCells_of (hs1.get 0 rfl) ?_⟩
    refine rdCells_of (hs1.get 0 rfl) ?_
    refine ⟨_, rfl, ?_⟩
    refine ⟨by decide, isCells_of (hs1.get 0 rfl) ?_⟩
    refine rdCells_of (hs1.get 0 rfl) ?_
    refine ⟨_, rfl, ?_⟩
    refine And.intro (by decide) ?_
    refine newS_hs hs1 (fun H2 b2 e2 l2 hs2 => ?_)
    refine vcg_loopR (α := List Blk × Nat) tok (fun z => HS H0 none' [(true, b2, .cells true 3 (ints [room, 1, 8, noise, 0, 500, jit, 0, 8])), (false, 0, ro sides)] z.1 ∧ z.2 ≤ 3 ∧ ((0 < z.2 → 1 ≤ room ∧ room ≤ 8) ∧ (1 < z.2 → 0 ≤ noise ∧ noise ≤ 500) ∧ (2 < z.2 → 0 ≤ jit ∧ jit ≤ 8)))
      (fun z => [(18, sv b2 3), (19, .int .i64 3), (20, .int .i64 (z.2 : Int))]) (fun z => z.1) (fun z => 3 - z.2) (H2, 0) ⟨hs2.pick [0, 2] (by decide) rfl, Nat.zero_le _, fun h => absurd h (by simp), fun h => absurd h (by simp), fun h => absurd h (by simp)⟩ (Or.inl ⟨⟨rfl, rfl, rfl, trivial⟩, rfl⟩) ?_
    clear hs2 l2 e2
    rintro ⟨H3, i⟩ ⟨hs3, hi, hok⟩
    simp only at hs3 hi hok
    refine And.intro (fun hc => ?_) (fun hc => ?_)
    · have hlt : i < 3 := by simp at hc; omega
      obtain rfl | rfl | rfl : i = 0 ∨ i = 1 ∨ i = 2 := by omega
      · clear hc
        refine isCells_of (hs3.get 0 rfl) ⟨0, rfl, by decide, ?_⟩
        refine rdCells_of (hs3.get 0 rfl) ?_
        refine ⟨_, rfl, _, rfl, _, rfl, ?_⟩
        refine new_hs hs3 (fun H4 j e4 l4 hs4 => ?_)
        refine store_hs hs4 0 rfl (ints [room, 1, 8]) rfl rfl (by decide) rfl (fun H5 e5 hs5 => ?_)
        refine isCells_of (hs5.get 0 rfl) ⟨0, rfl, by decide, ?_⟩
        refine rdCells_of (hs5.get 0 rfl) ?_
        refine ⟨_, rfl, ?_⟩
        refine isCells_of (hs5.get 0 rfl) ⟨1, rfl, by decide, ?_⟩
        refine rdCells_of (hs5.get 0 rfl) ?_
        refine ⟨_, rfl, ?_⟩
        refine And.intro (fun hb => ?_) (fun hb => ?_)
        · have hb : ¬ room < 1 := by simpa using hb
          refine isCells_of (hs5.get 0 rfl) ⟨0, rfl, by decide, ?_⟩
          refine And.intro (fun _ => ?_) (fun h => absurd h (by decide))
          refine rdCells_of (hs5.get 0 rfl) ?_
          refine ⟨_, rfl, ?_⟩
          refine And.intro (fun _ => ?_) (fun h => absurd h (by decide))
          refine isCells_of (hs5.get 0 rfl) ⟨2, rfl, by decide, ?_⟩
          refine And.intro (fun _ => ?_) (fun h => absurd h (by decide))
          refine rdCells_of (hs5.get 0 rfl) ?_
          refine ⟨_, rfl, ?_⟩
          refine And.intro (fun _ => ?_) (fun h => absurd h (by decide))
          refine And.intro (fun hc => ?_) (fun hc => ?_)
          · have hc : 8 < room := by simpa using hc
            have e : ckF (some s) room noise jit = 3 := by
              simp [ckF, okRng]; omega
            rw [e]
            exact drop_ints hH0 (hs5.get 2 rfl) rfl
          · have hc : ¬ 8 < room := by simpa using hc
            refine Or.inl ⟨((0 + 1 : Nat) : Int), by simp, by unfold I64; omega, ?_⟩
            exact ⟨(H5, 0 + 1), ⟨hs5.pick [1, 2] (by decide) rfl, by simp only; omega, fun h => (by simp only at h; omega), fun h => (by simp only at h; omega), fun h => (by simp only at h; omega)⟩, by simp only; omega, Or.inl ⟨⟨rfl, rfl, rfl, trivial⟩, rfl⟩⟩
        · have hb : room < 1 := by simpa using hb
          have e : ckF (some s) room noise jit = 3 := by
            simp [ckF, okRng]; omega
          rw [e]
          refine And.intro (fun h => absurd h (by decide)) (fun _ => ?_)
          refine And.intro (fun h => absurd h (by decide)) (fun _ => ?_)
          refine And.intro (fun h => absurd h (by decide)) (fun _ => ?_)
          refine And.intro (fun h => absurd h (by decide)) (fun _ => ?_)
          refine And.intro (fun _ => ?_) (fun h => absurd h (by decide))
          exact drop_ints hH0 (hs5.get 2 rfl) rfl
      · clear hc
        refine isCells_of (hs3.get 0 rfl) ⟨1, rfl, by decide, ?_⟩
        refine rdCells_of (hs3.get 0 rfl) ?_
        refine ⟨_, rfl, _, rfl, _, rfl, ?_⟩
        refine new_hs hs3 (fun H4 j e4 l4 hs4 => ?_)
        refine store_hs hs4 0 rfl (ints [noise, 0, 500]) rfl rfl (by decide) rfl (fun H5 e5 hs5 => ?_)
        refine isCells_of (hs5.get 0 rfl) ⟨0, rfl, by decide, ?_⟩
        refine rdCells_of (hs5.get 0 rfl) ?_
        refine ⟨_, rfl, ?_⟩
        refine isCells_of (hs5.get 0 rfl) ⟨1, rfl, by decide, ?_⟩
        refine rdCells_of (hs5.get 0 rfl) ?_
        refine ⟨_, rfl, ?_⟩
        refine And.intro (fun hb => ?_) (fun hb => ?_)
        · have hb : ¬ noise < 0 := by simpa using hb
          refine isCells_of (hs5.get 0 rfl) ⟨0, rfl, by decide, ?_⟩
          refine And.intro (fun _ => ?_) (fun h => absurd h (by decide))
          refine rdCells_of (hs5.get 0 rfl) ?_
          refine ⟨_, rfl, ?_⟩
          refine And.intro (fun _ => ?_) (fun h => absurd h (by decide))
          refine isCells_of (hs5.get 0 rfl) ⟨2, rfl, by decide, ?_⟩
          refine And.intro (fun _ => ?_) (fun h => absurd h (by decide))
          refine rdCells_of (hs5.get 0 rfl) ?_
          refine ⟨_, rfl, ?_⟩
          refine And.intro (fun _ => ?_) (fun h => absurd h (by decide))
          refine And.intro (fun hc => ?_) (fun hc => ?_)
          · have hc : 500 < noise := by simpa using hc
            have e : ckF (some s) room noise jit = 3 := by
              simp [ckF, okRng]; omega
            rw [e]
            exact drop_ints hH0 (hs5.get 2 rfl) rfl
          · have hc : ¬ 500 < noise := by simpa using hc
            refine Or.inl ⟨((1 + 1 : Nat) : Int), by simp, by unfold I64; omega, ?_⟩
            exact ⟨(H5, 1 + 1), ⟨hs5.pick [1, 2] (by decide) rfl, by simp only; omega, fun h => (by simp only at h; omega), fun h => (by simp only at h; omega), fun h => (by simp only at h; omega)⟩, by simp only; omega, Or.inl ⟨⟨rfl, rfl, rfl, trivial⟩, rfl⟩⟩
        · have hb : noise < 0 := by simpa using hb
          have e : ckF (some s) room noise jit = 3 := by
            simp [ckF, okRng]; omega
          rw [e]
          refine And.intro (fun h => absurd h (by decide)) (fun _ => ?_)
          refine And.intro (fun h => absurd h (by decide)) (fun _ => ?_)
          refine And.intro (fun h => absurd h (by decide)) (fun _ => ?_)
          refine And.intro (fun h => absurd h (by decide)) (fun _ => ?_)
          refine And.intro (fun _ => ?_) (fun h => absurd h (by decide))
          exact drop_ints hH0 (hs5.get 2 rfl) rfl
      · clear hc
        refine isCells_of (hs3.get 0 rfl) ⟨2, rfl, by decide, ?_⟩
        refine rdCells_of (hs3.get 0 rfl) ?_
        refine ⟨_, rfl, _, rfl, _, rfl, ?_⟩
        refine new_hs hs3 (fun H4 j e4 l4 hs4 => ?_)
        refine store_hs hs4 0 rfl (ints [jit, 0, 8]) rfl rfl (by decide) rfl (fun H5 e5 hs5 => ?_)
        refine isCells_of (hs5.get 0 rfl) ⟨0, rfl, by decide, ?_⟩
        refine rdCells_of (hs5.get 0 rfl) ?_
        refine ⟨_, rfl, ?_⟩
        refine isCells_of (hs5.get 0 rfl) ⟨1, rfl, by decide, ?_⟩
        refine rdCells_of (hs5.get 0 rfl) ?_
        refine ⟨_, rfl, ?_⟩
        refine And.intro (fun hb => ?_) (fun hb => ?_)
        · have hb : ¬ jit < 0 := by simpa using hb
          refine isCells_of (hs5.get 0 rfl) ⟨0, rfl, by decide, ?_⟩
          refine And.intro (fun _ => ?_) (fun h => absurd h (by decide))
          refine rdCells_of (hs5.get 0 rfl) ?_
          refine ⟨_, rfl, ?_⟩
          refine And.intro (fun _ => ?_) (fun h => absurd h (by decide))
          refine isCells_of (hs5.get 0 rfl) ⟨2, rfl, by decide, ?_⟩
          refine And.intro (fun _ => ?_) (fun h => absurd h (by decide))
          refine rdCells_of (hs5.get 0 rfl) ?_
          refine ⟨_, rfl, ?_⟩
          refine And.intro (fun _ => ?_) (fun h => absurd h (by decide))
          refine And.intro (fun hc => ?_) (fun hc => ?_)
          · have hc : 8 < jit := by simpa using hc
            have e : ckF (some s) room noise jit = 3 := by
              simp [ckF, okRng]; omega
            rw [e]
            exact drop_ints hH0 (hs5.get 2 rfl) rfl
          · have hc : ¬ 8 < jit := by simpa using hc
            refine Or.inl ⟨((2 + 1 : Nat) : Int), by simp, by unfold I64; omega, ?_⟩
            exact ⟨(H5, 2 + 1), ⟨hs5.pick [1, 2] (by decide) rfl, by simp only; omega, fun h => (by simp only at h; omega), fun h => (by simp only at h; omega), fun h => (by simp only at h; omega)⟩, by simp only; omega, Or.inl ⟨⟨rfl, rfl, rfl, trivial⟩, rfl⟩⟩
        · have hb : jit < 0 := by simpa using hb
          have e : ckF (some s) room noise jit = 3 := by
            simp [ckF, okRng]; omega
          rw [e]
          refine And.intro (fun h => absurd h (by decide)) (fun _ => ?_)
          refine And.intro (fun h => absurd h (by decide)) (fun _ => ?_)
          refine And.intro (fun h => absurd h (by decide)) (fun _ => ?_)
          refine And.intro (fun h => absurd h (by decide)) (fun _ => ?_)
          refine And.intro (fun _ => ?_) (fun h => absurd h (by decide))
          exact drop_ints hH0 (hs5.get 2 rfl) rfl
    · have : i = 3 := by simp at hc; omega
      subst this
      have e : ckF (some s) room noise jit = 0 := by
        simp [ckF, okRng, hok]
      rw [e]
      exact drop_ints hH0 (hs3.get 1 rfl) rfl
theorem lw18 (kind hosts room noise jit seed : Int) (ad : Bool) (sides : List Int) :
    ACall Tryz.prog 18 [cfV kind (sv 0 sides.length) hosts room ad noise jit seed] [ro sides] (fun v H => v = .int .i64 (ckF (shapeF kind sides hosts) room noise jit) ∧ H = [ro sides]) := by
  refine acall_drop (acall_vcg tok Tryz.call18 Tryz.func18 rfl Tryz.ntmps18 rfl (by simp) ?_)
  generalize hH0 : [ro sides] = H0
  have h0 : bget H0 0 = some (ro sides) := by rw [← hH0]; rfl
  refine new_hs ((HS.start H0 none').add (c := false) h0 (fun i p hi => by simp at hi) (fun h => by cases h)) (fun H1 b e1 l1 hs1 => ?_)
  refine vops_gen (fun K0 hK0 => hK0 _ _ ?_)
  refine ⟨by decide, isCells_of (hs1.get 0 rfl) ?_⟩
  refine rdCells_of (hs1.get 0 rfl) ?_
  refine ⟨_, rfl, _, rfl, _, rfl, ?_⟩
  refine (c25 (hs1.get 1 rfl) (Nat.le_refl _) ?_).call
  cases hs : shapeF kind sides hosts with
  | none =>
    refine And.intro (fun _ => ?_) (fun h => absurd h (by decide))
    exact drop_ints hH0 (hs1.get 1 rfl) rfl
  | some s =>
    refine And.intro (fun h => absurd h (by simp [eF])) (fun _ => ?_)
    refine vops_gen (fun K0 hK0 => ?_)
    refine ⟨by decide, isCells_of (hs1.get 0 rfl) ?_⟩
    refine rdCells_of (hs1.get 0 rfl) ?_
    refine ⟨_, rfl, ?_⟩
    refine And.intro (fun hb => ?_) (fun hb => ?_)
    rotate_left
    · have hb : room < 1 := by simpa using hb
      have e : ckF (some s) room noise jit = 3 := by
        simp [ckF, okRng]; omega
      repeat refine And.intro (fun h => absurd h (by decide)) (fun _ => ?_)
      refine hK0 _ _ ?_
      rw [e]
      refine And.intro (fun _ => ?_) (fun h => absurd h (by decide))
      exact drop_ints hH0 (hs1.get 1 rfl) rfl
    have b1 : ¬ room < 1 := by simpa using hb
    refine ⟨by decide, isCells_of (hs1.get 0 rfl) ?_⟩
    refine And.intro (fun _ => ?_) (fun h => absurd h (by decide))
    refine rdCells_of (hs1.get 0 rfl) ?_
    refine ⟨_, rfl, ?_⟩
    refine And.intro (fun _ => ?_) (fun h => absurd h (by decide))
    refine And.intro (fun hb => ?_) (fun hb => ?_)
    rotate_left
    · have hb : 8 < room := by simpa using hb
      have e : ckF (some s) room noise jit = 3 := by
        simp [ckF, okRng]; omega
      repeat refine And.intro (fun h => absurd h (by decide)) (fun _ => ?_)
      refine hK0 _ _ ?_
      rw [e]
      refine And.intro (fun _ => ?_) (fun h => absurd h (by decide))
      exact drop_ints hH0 (hs1.get 1 rfl) rfl
    have b2 : ¬ 8 < room := by simpa using hb
    refine ⟨by decide, isCells_of (hs1.get 0 rfl) ?_⟩
    refine And.intro (fun _ => ?_) (fun h => absurd h (by decide))
    refine rdCells_of (hs1.get 0 rfl) ?_
    refine ⟨_, rfl, ?_⟩
    refine And.intro (fun _ => ?_) (fun h => absurd h (by decide))
    refine And.intro (fun hb => ?_) (fun hb => ?_)
    rotate_left
    · have hb : noise < 0 := by simpa using hb
      have e : ckF (some s) room noise jit = 3 := by
        simp [ckF, okRng]; omega
      repeat refine And.intro (fun h => absurd h (by decide)) (fun _ => ?_)
      refine hK0 _ _ ?_
      rw [e]
      refine And.intro (fun _ => ?_) (fun h => absurd h (by decide))
      exact drop_ints hH0 (hs1.get 1 rfl) rfl
    have b3 : ¬ noise < 0 := by simpa using hb
    refine ⟨by decide, isCells_of (hs1.get 0 rfl) ?_⟩
    refine And.intro (fun _ => ?_) (fun h => absurd h (by decide))
    refine rdCells_of (hs1.get 0 rfl) ?_
    refine ⟨_, rfl, ?_⟩
    refine And.intro (fun _ => ?_) (fun h => absurd h (by decide))
    refine And.intro (fun hb => ?_) (fun hb => ?_)
    rotate_left
    · have hb : 500 < noise := by simpa using hb
      have e : ckF (some s) room noise jit = 3 := by
        simp [ckF, okRng]; omega
      repeat refine And.intro (fun h => absurd h (by decide)) (fun _ => ?_)
      refine hK0 _ _ ?_
      rw [e]
      refine And.intro (fun _ => ?_) (fun h => absurd h (by decide))
      exact drop_ints hH0 (hs1.get 1 rfl) rfl
    have b4 : ¬ 500 < noise := by simpa using hb
    refine ⟨by decide, isCells_of (hs1.get 0 rfl) ?_⟩
    refine And.intro (fun _ => ?_) (fun h => absurd h (by decide))
    refine rdCells_of (hs1.get 0 rfl) ?_
    refine ⟨_, rfl, ?_⟩
    refine And.intro (fun _ => ?_) (fun h => absurd h (by decide))
    refine And.intro (fun hb => ?_) (fun hb => ?_)
    rotate_left
    · have hb : jit < 0 := by simpa using hb
      have e : ckF (some s) room noise jit = 3 := by
        simp [ckF, okRng]; omega
      repeat refine And.intro (fun h => absurd h (by decide)) (fun _ => ?_)
      refine hK0 _ _ ?_
      rw [e]
      refine And.intro (fun _ => ?_) (fun h => absurd h (by decide))
      exact drop_ints hH0 (hs1.get 1 rfl) rfl
    have b5 : ¬ jit < 0 := by simpa using hb
    refine ⟨by decide, isCells_of (hs1.get 0 rfl) ?_⟩
    refine And.intro (fun _ => ?_) (fun h => absurd h (by decide))
    refine rdCells_of (hs1.get 0 rfl) ?_
    refine ⟨_, rfl, ?_⟩
    refine And.intro (fun _ => ?_) (fun h => absurd h (by decide))
    refine hK0 _ _ ?_
    refine And.intro (fun hb => ?_) (fun hb => ?_)
    · have hb : 8 < jit := by simpa using hb
      have e : ckF (some s) room noise jit = 3 := by
        simp [ckF, okRng]; omega
      rw [e]
      exact drop_ints hH0 (hs1.get 1 rfl) rfl
    have b6 : ¬ 8 < jit := by simpa using hb
    have e : ckF (some s) room noise jit = 0 := by
      simp [ckF, okRng]; omega
    rw [e]
    exact drop_ints hH0 (hs1.get 1 rfl) rfl
theorem lw19 (kind hosts room noise jit seed : Int) (ad : Bool) (sides : List Int) {R : Value → List Blk → Prop} {H0 : List Blk} {b0 : Nat} (h : ∀ H', HS H0 none' [] H' → R (cfV kind (sv b0 sides.length) hosts room ad noise jit seed) H') :
    ACall Tryz.prog 19 [cfV kind (sv b0 sides.length) hosts room ad noise jit seed] H0 R := by
  refine acall_vcg tok Tryz.call19 Tryz.func19 rfl Tryz.ntmps19 rfl (by simp) ?_
  refine new_hs (HS.start H0 none') (fun H1 b e1 l1 hs1 => ?_)
  refine new_hs hs1 (fun H2 b2 e2 l2 hs2 => ?_)
  refine vops_gen (fun K0 hK0 => hK0 _ _ ?_)
  refine ⟨by decide, isCells_of (hs2.get 1 rfl) ?_⟩
  refine rdCells_of (hs2.get 1 rfl) ?_
  refine ⟨_, rfl, _, rfl, _, rfl, ?_⟩
  refine ⟨by decide, isCells_of (hs2.get 1 rfl) ?_⟩
  refine rdCells_of (hs2.get 1 rfl) ?_
  refine ⟨_, rfl, ?_⟩
  refine ⟨by decide, isCells_of (hs2.get 1 rfl) ?_⟩
  refine rdCells_of (hs2.get 1 rfl) ?_
  refine ⟨_, rfl, ?_⟩
  refine ⟨by decide, isCells_of (hs2.get 1 rfl) ?_⟩
  refine rdCells_of (hs2.get 1 rfl) ?_
  refine ⟨_, rfl, ?_⟩
  refine ⟨by decide, isCells_of (hs2.get 1 rfl) ?_⟩
  refine rdCells_of (hs2.get 1 rfl) ?_
  refine ⟨_, rfl, ?_⟩
  refine ⟨by decide, isCells_of (hs2.get 1 rfl) ?_⟩
  refine rdCells_of (hs2.get 1 rfl) ?_
  refine ⟨_, rfl, ?_⟩
  refine store_hs hs2 0 rfl (cfC kind (sv b0 sides.length) hosts room ad noise jit seed) rfl rfl (by decide) rfl (fun H3 e3 hs3 => ?_)
  change resK T _ _ _ _
  refine resK_agg (by rfl) (by rfl) (hs3.get 0 rfl) (by rfl) ?_
  refine ⟨_, rfl, _, rfl, _, rfl, _, rfl, _, rfl, _, rfl, _, rfl, _, rfl, ?_⟩
  exact h H3 (hs3.pick [] (by decide) rfl)
end Go.Af.Tryz
namespace Go.Af.Tryz
open Go Go.Proofs
attribute [local irreducible] awp ACall ACallX AYield AInvoke newSlice isCells rdCells wrCells aAppend rangeEnd roundBegin roundEnd

theorem cw17 {H : List Blk} {R : Value → List Blk → Prop} {b : Nat} {wr : Bool} {kind hosts room noise jit seed : Int} {ad : Bool} {sides : List Int} (hb : bget H b = some (.cells wr 1 (ints sides))) (h : R (.int .i64 (ckF (shapeF kind sides hosts) room noise jit)) H) :
    ACallX Tryz.prog 17 [cfV kind (sv b sides.length) hosts room ad noise jit seed] H R :=
  acallx_s (lw17 kind hosts room noise jit seed ad sides) [(b, 0)] rfl (.cons (.agg (.cons (.int _ _) (.cons (VRen.slice rfl rfl (Nat.le_refl _)) (.cons (.int _ _) (.cons (.int _ _) (.cons (.bool _) (.cons (.int _ _) (.cons (.int _ _) (.cons (.int _ _) .nil))))))))) .nil)
    ⟨⟨_, hb, BRen.seg fun i x hx => by rw [Nat.zero_add, ints_get, hx]; rfl⟩, trivial⟩ rfl h
theorem cw18 {H : List Blk} {R : Value → List Blk → Prop} {b : Nat} {wr : Bool} {kind hosts room noise jit seed : Int} {ad : Bool} {sides : List Int} (hb : bget H b = some (.cells wr 1 (ints sides))) (h : R (.int .i64 (ckF (shapeF kind sides hosts) room noise jit)) H) :
    ACallX Tryz.prog 18 [cfV kind (sv b sides.length) hosts room ad noise jit seed] H R :=
  acallx_s (lw18 kind hosts room noise jit seed ad sides) [(b, 0)] rfl (.cons (.agg (.cons (.int _ _) (.cons (VRen.slice rfl rfl (Nat.le_refl _)) (.cons (.int _ _) (.cons (.int _ _) (.cons (.bool _) (.cons (.int _ _) (.cons (.int _ _) (.cons (.int _ _) .nil))))))))) .nil)
    ⟨⟨_, hb, BRen.seg fun i x hx => by rw [Nat.zero_add, ints_get, hx]; rfl⟩, trivial⟩ rfl h
theorem wk4 (kind hosts room noise jit seed : Int) (ad : Bool) (sides : List Int) {m : LM} {argsR : Array Value} {w : World} (ha : LRel m [cfV kind (sv 0 sides.length) hosts room ad noise jit seed] argsR.toList) (hr : HRel m [ro sides] w) :
    Calls Tryz.prog 4 argsR w fun e w' => ∃ vR, e = .returned vR ∧ AppOut m [ro sides] w (fun v _ => v = .bool true) vR w' := by
  refine calls_vcg tok Tryz.func4 rfl Tryz.ntmps4 rfl (by simp) ?_ ha hr
  generalize hH0 : [ro sides] = H0
  have h0 : bget H0 0 = some (ro sides) := by rw [← hH0]; rfl
  refine new_hs ((HS.start H0 none').add (c := false) h0 (fun i p hi => by simp at hi) (fun h => by cases h)) (fun H1 b e1 l1 hs1 => ?_)
  refine vops_gen (fun K0 hK0 => hK0 _ _ ?_)
  refine ⟨by decide, isCells_of (hs1.get 0 rfl) ?_⟩
  refine ⟨by decide, isCells_of (hs1.get 0 rfl) ?_⟩
  refine rdCells_of (hs1.get 0 rfl) ?_
  refine ⟨_, rfl, ?_⟩
  refine And.intro (fun hc => ?_) (fun hc => ?_)
  · refine vops_gen (fun K0 hK0 => ?_)
    refine (W.worksX _ ?_).call
    refine hK0 _ _ ?_
    rfl
  · refine vcg_draw tok mx [0, 1, 0, 7, 15, 31, 63, 127, 255, 511] [false, true, true, false, false, false, false, false, false, false] [0, 2, 1, 3, 4, 5, 6, 7, 8, 9] (by kernel_rfl) ?_
    refine vopsO_gen (fun K0 hK0 => ?_)
    refine rdCells_of (hs1.get 0 rfl) ?_
    refine ⟨_, rfl, _, rfl, _, rfl, _, rfl, _, rfl, _, rfl, _, rfl, _, rfl, ?_⟩
    refine rdCells_of (hs1.get 0 rfl) ?_
    refine ⟨_, rfl, _, rfl, _, rfl, _, rfl, _, rfl, _, rfl, _, rfl, _, rfl, ?_⟩
    refine cw17 (hs1.get 1 rfl) ?_
    refine lw19 kind hosts room noise jit seed ad sides (fun H2 hs2 => ?_)
    have h2 : bget H2 0 = some (ro sides) := (hs2.u.2 0 (bget_lt (hs1.get 1 rfl)) (fun h => h)).trans (hs1.get 1 rfl)
    refine (cw18 h2 ?_).call
    refine And.intro (fun _ => ?_) (fun h => absurd h (by simp))
    refine (W.worksX _ ?_).call
    refine hK0 _ _ ?_
    rfl
end Go.Af.Tryz
