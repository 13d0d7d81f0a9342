/-
  The operations over the abstract heap (those that run no code), each with its proof against the model's own.
-/
import Derived.Test.YtkmhpolbhjgpoaaA3
namespace Go.Af
open Go

inductive TK where
  | int (k : IntKind)
  | bool
  | str
  | slice (e : TypeId)
  | arr (n : Nat) (e : TypeId)
  | struct (fs : List (Nat × TypeId))
  | map (k e : TypeId)
  | ptr (e : TypeId)
  | iface
  | func
  | float (k : FloatKind)

def TK.agg : TK → Bool
  | .arr _ _ | .struct _ => true
  | _ => false

structure TI where
  kind : TK
  size : Nat
  bytes : Nat
  zero : Value

def KOk (P : Program) (t : TypeId) : TK → Prop
  | .int k => P.underlying t = some (.int k)
  | .bool => P.underlying t = some .bool
  | .str => P.underlying t = some .string
  | .slice e => P.underlying t = some (.slice e)
  | .arr n e => P.underlying t = some (.array n e)
  | .struct fs => ∃ f, P.underlying t = some (.struct f) ∧ f.toList.map (fun x => (x.offset, x.type)) = fs
  | .map k e => P.underlying t = some (.map k e)
  | .ptr e => P.underlying t = some (.pointer e)
  | .iface => ∃ ms, P.underlying t = some (.interface ms)
  | .func => ∃ a b c, P.underlying t = some (.func a b c)
  | .float k => P.underlying t = some (.float k)

structure TIOk (P : Program) (t : TypeId) (i : TI) : Prop where
  und : KOk P t i.kind
  info : (P.info? t).map (fun j => (j.size, j.bytes, j.zero)) = some (i.size, i.bytes, some i.zero)
  plain : plainV 6 i.zero = true

abbrev TT := List (TypeId × TI)
def tget : TT → TypeId → Option TI
  | [], _ => none
  | (k, i) :: r, t => match Nat.beq k t with
    | true => some i
    | false => tget r t

def TOk (P : Program) : TT → Prop
  | [] => True
  | (t, i) :: r => TIOk P t i ∧ TOk P r

theorem TOk.get {P : Program} : ∀ {T : TT} (_ : TOk P T) {t : TypeId} {i : TI} (_ : tget T t = some i), TIOk P t i
  | [], _, _, _, hg => by cases hg
  | (k, i) :: r, h, t, j, hg => by
    simp only [tget] at hg
    split at hg
    · rename_i hk
      cases hg
      rw [← Nat.eq_of_beq_eq_true hk]; exact h.1
    · exact TOk.get h.2 hg

section runs
variable {P : Program} {t : TypeId} {i : TI}

theorem TIOk.infoEx (h : TIOk P t i) : ∃ j, P.info? t = some j ∧ j.size = i.size ∧ j.bytes = i.bytes ∧ j.zero = some i.zero := by
  have := h.info
  cases hj : P.info? t with
  | none => rw [hj] at this; cases this
  | some j => rw [hj] at this; simp at this; exact ⟨j, rfl, this.1, this.2.1, this.2.2⟩

theorem run_typeInfo' {j : TypeInfo} (h : P.info? t = some j) (w : World) : (typeInfo t).run P w = .ok j w := by simp [typeInfo, h]
theorem run_und {d : TypeDesc} (h : P.underlying t = some d) (w : World) : (underlying t).run P w = .ok d w := by simp [underlying, h]
theorem TIOk.run_size (h : TIOk P t i) (w : World) : (sizeOf t).run P w = .ok i.size w := by
  obtain ⟨j, h1, h2, _⟩ := h.infoEx
  simp [sizeOf, run_typeInfo' h1, h2]
theorem TIOk.run_zero (h : TIOk P t i) (w : World) : (zeroValue t).run P w = .ok i.zero w := by
  obtain ⟨j, h1, _, _, h2⟩ := h.infoEx
  simp [zeroValue, run_typeInfo' h1, h2]
theorem KOk.desc {k : TK} (h : KOk P t k) : ∃ d, P.underlying t = some d ∧ (match d with | .struct _ | .array _ _ => true | _ => false) = k.agg := by
  cases k <;> simp only [KOk] at h
  case struct fs => obtain ⟨f, h1, _⟩ := h; exact ⟨_, h1, rfl⟩
  case iface => obtain ⟨f, h1⟩ := h; exact ⟨_, h1, rfl⟩
  case func => obtain ⟨a, b, c, h1⟩ := h; exact ⟨_, h1, rfl⟩
  all_goals exact ⟨_, h, rfl⟩
theorem TIOk.run_isAgg (h : TIOk P t i) (w : World) : (isAgg t).run P w = .ok i.kind.agg w := by
  obtain ⟨d, h1, h2⟩ := h.und.desc
  simp only [isAgg, Sem.run_bind, run_und h1, Result.andThen_ok]
  rw [← h2]
  cases d <;> rfl
end runs

/-! ### Lists and blocks, in a form that computes by looking -/

def Ld (vs : List Value) (o : Nat) (K : Value → Prop) : Prop := ∃ v, vs[o]? = some v ∧ K v
def segK (vs : List Value) : Nat → Nat → (List Value → Prop) → Prop
  | _, 0, K => K []
  | o, n + 1, K => Ld vs o (fun v => segK vs (o + 1) n (fun r => K (v :: r)))

theorem segK_spec (vs : List Value) : ∀ (n o : Nat) (K : List Value → Prop), segK vs o n K → K ((vs.drop o).take n) ∧ (n = 0 ∨ o + n ≤ vs.length) := by
  intro n
  induction n with
  | zero => intro o K h; exact ⟨by simpa [segK] using h, .inl rfl⟩
  | succ n ih =>
    intro o K h
    obtain ⟨v, hv, hk⟩ := h
    obtain ⟨h1, h2⟩ := ih _ _ hk
    obtain ⟨hlt, he⟩ := List.getElem?_eq_some_iff.1 hv
    refine ⟨?_, .inr ?_⟩
    · rw [List.drop_eq_getElem_cons hlt, List.take_succ_cons, he]; exact h1
    · rcases h2 with h2 | h2 <;> omega

def bget : List Blk → Nat → Option Blk
  | [], _ => none
  | x :: _, 0 => some x
  | _ :: r, n + 1 => bget r n
theorem bget_eq : ∀ (H : List Blk) (n : Nat), bget H n = H[n]?
  | [], _ => by simp [bget]
  | x :: r, 0 => rfl
  | x :: r, n + 1 => by simpa [bget] using bget_eq r n

def bsetK : List Blk → Nat → Blk → (List Blk → Prop) → Prop
  | [], _, _, K => K []
  | _ :: r, 0, b, K => K (b :: r)
  | x :: r, n + 1, b, K => bsetK r n b (fun r' => K (x :: r'))
theorem bsetK_eq : ∀ (H : List Blk) (n : Nat) (b : Blk) (K : List Blk → Prop), bsetK H n b K = K (H.set n b)
  | [], _, _, _ => rfl
  | x :: r, 0, _, _ => rfl
  | x :: r, n + 1, b, K => by simp [bsetK, bsetK_eq r n b]

def bsnocK : List Blk → Nat → Blk → (Nat → List Blk → Prop) → Prop
  | [], n, b, K => K n [b]
  | x :: r, n, b, K => bsnocK r (n + 1) b (fun i r' => K i (x :: r'))
theorem bsnocK_eq : ∀ (H : List Blk) (n : Nat) (b : Blk) (K : Nat → List Blk → Prop), bsnocK H n b K = K (n + H.length) (H ++ [b])
  | [], _, _, _ => rfl
  | x :: r, n, b, K => by simp only [bsnocK, bsnocK_eq r (n + 1) b, List.length_cons, List.cons_append]; rw [show n + 1 + r.length = n + (r.length + 1) by omega]

def listNF {α : Type} : List α → (List α → Prop) → Prop
  | [], K => K []
  | x :: r, K => listNF r (fun r' => K (x :: r'))
theorem listNF_eq {α : Type} : ∀ (l : List α) (K : List α → Prop), listNF l K = K l
  | [], _ => rfl
  | x :: r, K => by simp [listNF, listNF_eq r]

def evs (sl : List (Nat × Value)) : List Operand → Option (List Value)
  | [] => some []
  | x :: r => match ev sl x with
    | some v => match evs sl r with
      | some vs => some (v :: vs)
      | none => none
    | none => none

theorem evs_rel {m : LM} {sl : List (Nat × Value)} {aR : Act} (h : SlRel m sl aR.tmps) : ∀ {xs : List Operand} {vs : List Value}, evs sl xs = some vs → LRel m vs (xs.map aR.eval)
  | [], vs, hv => by cases hv; exact .nil m
  | x :: r, vs, hv => by
    simp only [evs] at hv
    split at hv
    · rename_i v h1
      split at hv
      · rename_i vs' h2
        cases hv
        exact .cons (ev_rel h h1) (evs_rel h h2)
      · cases hv
    · cases hv

def I64 (z : Int) : Prop := -9223372036854775808 ≤ z ∧ z ≤ 9223372036854775807

theorem wrap_i64 {z : Int} (h : I64 z) : IntKind.i64.wrap z = z := by
  unfold I64 at h
  show (if (true && decide (z % (2 ^ 64 : Int) ≥ 2 ^ 63)) = true then z % (2 ^ 64 : Int) - 2 ^ 64 else z % (2 ^ 64 : Int)) = z
  simp only [Bool.true_and, decide_eq_true_eq]
  split <;> omega

def sameK : IntKind → IntKind → Bool
  | .i8, .i8 | .i16, .i16 | .i32, .i32 | .i64, .i64 | .u8, .u8 | .u16, .u16 | .u32, .u32 | .u64, .u64 => true
  | _, _ => false
theorem sameK_eq {j k : IntKind} (h : sameK j k = true) : j = k := by cases j <;> cases k <;> first | rfl | cases h

/-- A number that an operation comes to: of kind int where it fits, else wrapped. -/
def numK (k : IntKind) (z : Int) (K : Value → Prop) : Prop :=
  match k with
  | .i64 => (∃ y, z = y ∧ I64 y ∧ K (.int .i64 y)) ∨ K (.int .i64 (IntKind.i64.wrap z))
  | k => K (.int k (k.wrap z))
theorem numK_spec {k : IntKind} {z : Int} {K : Value → Prop} (h : numK k z K) : K (.int k (k.wrap z)) := by
  cases k <;> simp only [numK] at h <;> try exact h
  rcases h with ⟨y, rfl, h1, h2⟩ | h
  · rw [wrap_i64 h1]; exact h2
  · exact h

def abin (op : BinOp) (x y : Value) (K : Value → Prop) : Prop :=
  match x, y with
  | .int k a, .int j b =>
    match op with
    | .shl => 0 ≤ b ∧ numK k (a * 2 ^ (min b.toNat k.bits)) K
    | .shr => 0 ≤ b ∧ ∃ z, a.fdiv (2 ^ (min b.toNat k.bits)) = z ∧ K (.int k z)
    | _ => match sameK k j with
      | false => False
      | true => match op with
        | .add => numK k (a + b) K
        | .sub => numK k (a - b) K
        | .mul => numK k (a * b) K
        | .quo => b ≠ 0 ∧ numK k (a.tdiv b) K
        | .rem => b ≠ 0 ∧ ∃ z, a.tmod b = z ∧ K (.int k z)
        | .and => ∃ z, k.wrap ((BitVec.ofInt k.bits a &&& BitVec.ofInt k.bits b).toNat : Int) = z ∧ K (.int k z)
        | .or => ∃ z, k.wrap ((BitVec.ofInt k.bits a ||| BitVec.ofInt k.bits b).toNat : Int) = z ∧ K (.int k z)
        | .xor => ∃ z, k.wrap ((BitVec.ofInt k.bits a ^^^ BitVec.ofInt k.bits b).toNat : Int) = z ∧ K (.int k z)
        | .andNot => ∃ z, k.wrap ((BitVec.ofInt k.bits a &&& ~~~ BitVec.ofInt k.bits b).toNat : Int) = z ∧ K (.int k z)
        | .lss => K (.bool (decide (a < b)))
        | .leq => K (.bool (decide (a ≤ b)))
        | .gtr => K (.bool (decide (b < a)))
        | .geq => K (.bool (decide (b ≤ a)))
        | _ => False
  | .string a, .string b => match op with
    | .add => (a.size + b.size ≤ 4611686018427387904) ∧ K (.string (a ++ b))
    | .lss => K (.bool (Op.bytesLess a.toList b.toList))
    | .gtr => K (.bool (!(Op.bytesLess a.toList b.toList || a.toList == b.toList)))
    | .leq => K (.bool (Op.bytesLess a.toList b.toList || a.toList == b.toList))
    | .geq => K (.bool (!(Op.bytesLess a.toList b.toList)))
    | _ => False
  | _, _ => False

theorem abin_run {P : Program} {op : BinOp} {t : TypeId} {x y : Value} {K : Value → Prop} {m : LM} {x' y' : Value} (hop : op ≠ .eql ∧ op ≠ .neq) (hx : VRel m x x') (hy : VRel m y y') (h : abin op x y K) :
    ∃ v, K v ∧ (∀ w, (binOp op t x' y').run P w = .ok v w) ∧ VRel m v v := by
  unfold abin at h
  split at h
  · rename_i k a j b
    cases hx; cases hy
    cases op <;> simp only at h
    case shl =>
      obtain ⟨h0, h⟩ := h
      refine ⟨_, numK_spec h, fun w => ?_, .int _ _⟩
      simp [binOp, Op.shift, show ¬ b < 0 by omega]
    case shr =>
      obtain ⟨h0, z, hz, h⟩ := h
      refine ⟨_, h, fun w => ?_, .int _ _⟩
      simp [binOp, Op.shift, show ¬ b < 0 by omega, hz]
    case add => (split at h; · exact h.elim); rename_i hk; have hk' := sameK_eq hk; subst hk'; exact ⟨_, numK_spec h, fun w => by simp [binOp, Op.intArith], .int _ _⟩
    case sub => (split at h; · exact h.elim); rename_i hk; have hk' := sameK_eq hk; subst hk'; exact ⟨_, numK_spec h, fun w => by simp [binOp, Op.intArith], .int _ _⟩
    case mul => (split at h; · exact h.elim); rename_i hk; have hk' := sameK_eq hk; subst hk'; exact ⟨_, numK_spec h, fun w => by simp [binOp, Op.intArith], .int _ _⟩
    case quo => (split at h; · exact h.elim); rename_i hk; have hk' := sameK_eq hk; subst hk'; exact ⟨_, numK_spec h.2, fun w => by simp [binOp, Op.intDiv, h.1], .int _ _⟩
    case rem => (split at h; · exact h.elim); rename_i hk; have hk' := sameK_eq hk; subst hk'; obtain ⟨h0, z, hz, h⟩ := h; exact ⟨_, h, fun w => by simp [binOp, Op.intDiv, h0, hz], .int _ _⟩
    case and => (split at h; · exact h.elim); rename_i hk; have hk' := sameK_eq hk; subst hk'; obtain ⟨z, hz, h⟩ := h; exact ⟨_, h, fun w => by subst hz; rw [show binOp .and t (.int k a) (.int k b) = Op.intBits .and k a b by simp [binOp]]; rfl, .int _ _⟩
    case or => (split at h; · exact h.elim); rename_i hk; have hk' := sameK_eq hk; subst hk'; obtain ⟨z, hz, h⟩ := h; exact ⟨_, h, fun w => by subst hz; rw [show binOp .or t (.int k a) (.int k b) = Op.intBits .or k a b by simp [binOp]]; rfl, .int _ _⟩
    case xor => (split at h; · exact h.elim); rename_i hk; have hk' := sameK_eq hk; subst hk'; obtain ⟨z, hz, h⟩ := h; exact ⟨_, h, fun w => by subst hz; rw [show binOp .xor t (.int k a) (.int k b) = Op.intBits .xor k a b by simp [binOp]]; rfl, .int _ _⟩
    case andNot => (split at h; · exact h.elim); rename_i hk; have hk' := sameK_eq hk; subst hk'; obtain ⟨z, hz, h⟩ := h; exact ⟨_, h, fun w => by subst hz; rw [show binOp .andNot t (.int k a) (.int k b) = Op.intBits .andNot k a b by simp [binOp]]; rfl, .int _ _⟩
    case lss => (split at h; · exact h.elim); rename_i hk; have hk' := sameK_eq hk; subst hk'; exact ⟨_, h, fun w => by simp [binOp, Op.intCmp], .bool _⟩
    case leq => (split at h; · exact h.elim); rename_i hk; have hk' := sameK_eq hk; subst hk'; exact ⟨_, h, fun w => by simp [binOp, Op.intCmp], .bool _⟩
    case gtr => (split at h; · exact h.elim); rename_i hk; have hk' := sameK_eq hk; subst hk'; exact ⟨_, h, fun w => by simp [binOp, Op.intCmp], .bool _⟩
    case geq => (split at h; · exact h.elim); rename_i hk; have hk' := sameK_eq hk; subst hk'; exact ⟨_, h, fun w => by simp [binOp, Op.intCmp], .bool _⟩
    case eql => exact absurd rfl hop.1
    case neq => exact absurd rfl hop.2
  · rename_i a b
    cases hx; cases hy
    cases op <;> simp only at h
    case add =>
      refine ⟨_, h.2, fun w => ?_, .string _⟩
      have hm : IntKind.i64.max = 9223372036854775807 := by decide
      have : ¬ (((a.size + b.size : Nat) : Int) > IntKind.i64.max) := by rw [hm]; omega
      simp only [binOp, Op.stringOp, this, if_false]; rfl
    case lss => exact ⟨_, h, fun w => by simp [binOp, Op.stringOp], .bool _⟩
    case leq => exact ⟨_, h, fun w => by simp [binOp, Op.stringOp], .bool _⟩
    case gtr => exact ⟨_, h, fun w => by simp [binOp, Op.stringOp], .bool _⟩
    case geq => exact ⟨_, h, fun w => by simp [binOp, Op.stringOp], .bool _⟩
  · exact h.elim

end Go.Af
