/-
  The operations that run no code: 'astep' says what each comes to over the abstract heap; 'astep_sound' proves it against the model.
-/
import Derived.Test.YtkmhpolbhjgpoaaA5
namespace Go.Af
open Go

def evK (sl : List (Nat × Value)) (x : Operand) (K : Value → Prop) : Prop :=
  match ev sl x with
  | some v => K v
  | none => False

def fieldAt? : List (Nat × TypeId) → Nat → Option (Nat × TypeId)
  | [], _ => none
  | x :: _, 0 => some x
  | _ :: r, n + 1 => fieldAt? r n
theorem fieldAt?_eq : ∀ (l : List (Nat × TypeId)) (n : Nat), fieldAt? l n = l[n]?
  | [], _ => by simp [fieldAt?]
  | x :: r, 0 => rfl
  | x :: r, n + 1 => by simpa [fieldAt?] using fieldAt?_eq r n

def setParts (places : Nat → Option (Nat × Nat)) : List Value → List (Nat × Value) → Option (List Value)
  | zs, [] => some zs
  | zs, (i, v) :: r => match places i with
    | some (off, size) => match Nat.beq (cellsL v).length size && Nat.ble (off + size) zs.length with
      | true => setParts places (setSeg zs off (cellsL v)) r
      | false => none
    | none => none

def evParts (sl : List (Nat × Value)) : List (Nat × Operand) → Option (List (Nat × Value))
  | [] => some []
  | (i, x) :: r => match ev sl x with
    | some v => match evParts sl r with
      | some vs => some ((i, v) :: vs)
      | none => none
    | none => none

def placesS (T : TT) (fs : List (Nat × TypeId)) (i : Nat) : Option (Nat × Nat) :=
  match fieldAt? fs i with
  | some (off, t) => match tget T t with
    | some j => some (off, j.size)
    | none => none
  | none => none

def allTyped (T : TT) : List (Nat × TypeId) → Bool
  | [] => true
  | (_, t) :: r => match tget T t with
    | some _ => allTyped T r
    | none => false

def zeroRep (n : Nat) : List Value → List Value
  | [x] => List.replicate n x
  | z => (List.replicate n z).flatten

def emptySl : Value := .slice (some ⟨0, 0, some 0⟩) 0 0

/-- The cells that an appended value brings. -/
def appSrc (H : List Blk) (size : Nat) (x : Value) (K : Nat → List Value → Prop) : Prop :=
  match x with
  | .slice none 0 0 => K 0 []
  | .slice (some ⟨_, _, some _⟩) 0 0 => K 0 []
  | .slice (some ⟨b, o, none⟩) n _ => match bget H b with
    | some (.cells _ _ vs) => (n = 0 ∨ o + n * size ≤ vs.length) ∧ ∃ new, (vs.drop o).take (n * size) = new ∧ K n new
    | _ => False
  | .string s => match size with
    | 1 => ∃ new, s.data.toList.map (fun b => Value.int .u8 b.toNat) = new ∧ K s.size new
    | _ => False
  | _ => False

def newSlice (H : List Blk) (size : Nat) (cells : List Value) (n : Nat) (K : Value → List Blk → Prop) : Prop :=
  bsnocK H 0 (.cells true size cells) (fun i H' => K (.slice (some ⟨i, 0, none⟩) n n) H')

def aAppend (H : List Blk) (size bytes : Nat) (s x : Value) (K : Value → List Blk → Prop) : Prop :=
  0 < size ∧ appSrc H size x (fun n new => new.all oneCellV = true ∧
    match s with
    | .slice none 0 0 => (n = 0 ∧ K (.slice none 0 0) H) ∨ (0 < n ∧ n * (bytes + 1) ≤ 70368744177664 ∧ newSlice H size new n K)
    | .slice (some ⟨b', o', some s'⟩) 0 0 => (n = 0 ∧ K (.slice (some ⟨b', o', some s'⟩) 0 0) H) ∨ (0 < n ∧ n * (bytes + 1) ≤ 70368744177664 ∧ newSlice H size new n K)
    | .slice (some ⟨b, o, none⟩) l c => (n = 0 ∧ l ≤ c ∧ K (.slice (some ⟨b, o, none⟩) l c) H) ∨
      (0 < n ∧ match bget H b with
        | some (.cells true z vs) => z = size ∧
          ((l + n ≤ c ∧ 0 < l ∧ o + (l + n) * size ≤ vs.length ∧ ∃ vs', setSeg vs (o + l * size) new = vs' ∧ bsetK H b (.cells true z vs') (fun H' => K (.slice (some ⟨b, o, none⟩) (l + n) c) H')) ∨
           (c < l + n ∧ (l + n) * (bytes + 1) ≤ 70368744177664 ∧ (l = 0 ∨ o + l * size ≤ vs.length) ∧ ∃ cells, (vs.drop o).take (l * size) ++ new = cells ∧
              bsetK H b .dead (fun H' => newSlice H' size cells (l + n) K)))
        | _ => False)
    | _ => False)

def hiK (sl : List (Nat × Value)) (hi : Option Operand) (l : Nat) (K : Nat → Prop) : Prop :=
  match hi with
  | none => K l
  | some x => match ev sl x with
    | some (.int _ n) => ∃ h : Nat, n = (h : Int) ∧ K h
    | _ => False

def astep (P : Program) (T : TT) (o : Op) (sl : List (Nat × Value)) (H : List Blk) (K : Value → List Blk → Prop) : Prop :=
  match o with
  | .move x | .assign x => evK sl x (fun v => K v H)
  | .pick c a b => match ev sl c with
    | some (.bool t) => match t with
      | true => evK sl a (fun v => K v H)
      | false => evK sl b (fun v => K v H)
    | _ => False
  | .alloc e => match tget T e with
    | some i => listNF (cellsL i.zero) (fun z => bsnocK H 0 (.cells true 1 z) (fun n H' => K (.pointer (some ⟨n, 0, none⟩)) H'))
    | none => False
  | .box _ x => evK sl x (fun v => listNF (cellsL v) (fun z => bsnocK H 0 (.cells true 1 z) (fun n H' => K (.pointer (some ⟨n, 0, none⟩)) H')))
  | .build t ps => match tget T t with
    | some i => match evParts sl ps.toList with
      | some pv => match i.kind with
        | .struct fs => match allTyped T fs with
          | true => match setParts (placesS T fs) (cellsL i.zero) pv with
            | some zs => listNF zs (fun zs => K (.agg ⟨zs⟩) H)
            | none => False
          | false => False
        | .arr _ e => match tget T e with
          | some j => match setParts (fun k => some (k * j.size, j.size)) (cellsL i.zero) pv with
            | some zs => listNF zs (fun zs => K (.agg ⟨zs⟩) H)
            | none => False
          | none => False
        | _ => False
      | none => False
    | none => False
  | .buildSlice t len ps => match tget T t with
    | some i => match i.kind with
      | .slice e => match tget T e with
        | some j => match evParts sl ps.toList with
          | some pv => (0 < j.size ∧ (cellsL j.zero).length = j.size ∧ len * j.size ≤ 16777216) ∧ match setParts (fun k => some (k * j.size, j.size)) (zeroRep len (cellsL j.zero)) pv with
            | some zs => listNF zs (fun zs => newSlice H j.size zs len K)
            | none => False
          | none => False
        | none => False
      | _ => False
    | none => False
  | .load t x => match tget T t with
    | some i => match ev sl x with
      | some (.pointer (some ⟨b, o, none⟩)) => match bget H b with
        | some (.cells _ _ vs) => match i.kind.agg with
          | true => segK vs o i.size (fun seg => K (.agg ⟨seg⟩) H)
          | false => Ld vs o (fun v => K v H)
        | _ => False
      | _ => False
    | none => False
  | .store t x y => match tget T t with
    | some i => match ev sl x, ev sl y with
      | some (.pointer (some ⟨b, o, none⟩)), some v => match bget H b with
        | some (.cells true z vs) => ((cellsL v).length = i.size ∧ (cellsL v).all oneCellV = true ∧ o + i.size ≤ vs.length) ∧ ∃ vs', setSeg vs o (cellsL v) = vs' ∧ bsetK H b (.cells true z vs') (fun H' => K undef H')
        | _ => False
      | _, _ => False
    | none => False
  | .nilCheck x => match ev sl x with
    | some (.pointer (some a)) => K (.pointer (some a)) H
    | some (.func (.func f) a c) => K (.func (.func f) a c) H
    | some (.func (.yield f) a c) => K (.func (.yield f) a c) H
    | some (.iface t v) => K (.iface t v) H
    | _ => False
  | .binOp op t x y _ => match ev sl x, ev sl y with
    | some a, some b => match op with
      | .eql => aeq P T H t x y a b (fun r => K (.bool r) H)
      | .neq => aeq P T H t x y a b (fun r => K (.bool (!r)) H)
      | op => abin op a b (fun v => K v H)
    | _, _ => False
  | .unOp op _ x => match op, ev sl x with
    | .not, some (.bool b) => K (.bool (!b)) H
    | .neg, some (.int k n) => numK k (0 - n) (fun v => K v H)
    | _, _ => False
  | .convert s d x => match tget T s, tget T d, ev sl x with
    | some i, some j, some v => match i.kind, j.kind, v with
      | .int _, .int k, .int _ n => numK k n (fun v => K v H)
      | .str, .str, .string b => K (.string b) H
      | _, _, _ => False
    | _, _, _ => False
  | .makeInterface t x => match tget T t with
    | some i => match i.kind with
      | .iface => False
      | _ => evK sl x (fun v => K (.iface t v) H)
    | none => False
  | .makeFunc fn first captured => match evs sl first.toList, evs sl captured.toList with
    | some a, some b => match fn with
      | .yield _ => False
      | fn => K (.func fn ⟨a⟩ ⟨b⟩) H
    | _, _ => False
  | .makeSlice t l c => match tget T t with
    | some i => match i.kind with
      | .slice e => match tget T e with
        | some j => match ev sl l, ev sl c with
          | some (.int _ li), some (.int _ ci) => (0 < j.size ∧ (cellsL j.zero).length = j.size) ∧ ∃ n c : Nat, (li = n ∧ ci = c) ∧ (n ≤ c ∧ c * (j.bytes + 1) ≤ 70368744177664) ∧ ∃ vs, zeroRep c (cellsL j.zero) = vs ∧
              bsnocK H 0 (.cells true j.size vs) (fun i H' => K (.slice (some ⟨i, 0, none⟩) n c) H')
          | _, _ => False
        | none => False
      | _ => False
    | none => False
  | .slice t x lo hi mx => match tget T t with
    | some i => match i.kind with
      | .slice e => match tget T e with
        | some j => match ev sl x with
          | some (.slice none 0 0) => match mx with
            | none => hiK sl hi 0 (fun h => hiK sl lo 0 (fun l => l = 0 ∧ h = 0 ∧ K (.slice none 0 0) H))
            | some _ => hiK sl mx 0 (fun m => hiK sl hi 0 (fun h => hiK sl lo 0 (fun l => l = 0 ∧ h = 0 ∧ m = 0 ∧ hi.isSome = true ∧ K (.slice none 0 0) H)))
          | some (.slice (some ⟨b, o, none⟩) n c) => match mx with
            | none => match bget H b with
              | some (.cells _ z _) => z = j.size ∧ hiK sl hi n (fun h => hiK sl lo 0 (fun l => (l ≤ h ∧ h ≤ c) ∧ K (.slice (some ⟨b, o + l * j.size, none⟩) (h - l) (c - l)) H))
              | _ => False
            | some _ => hiK sl mx 0 (fun m => hiK sl hi 0 (fun h => hiK sl lo 0 (fun l => l = h ∧ h = m ∧ m ≤ c ∧ hi.isSome = true ∧ K emptySl H)))
          | _ => False
        | none => False
      | .str => match ev sl x, mx with
        | some (.string s), none => hiK sl hi s.size (fun h => hiK sl lo 0 (fun l => (l ≤ h ∧ h ≤ s.size) ∧ K (.string (s.extract l h)) H))
        | _, _ => False
      | _ => False
    | none => False
  | .fieldAddr s x f => match tget T s with
    | some i => match i.kind with
      | .struct fs => match fieldAt? fs f with
        | some (off, t) => match tget T t, ev sl x with
          | some j, some (.pointer (some ⟨b, o, none⟩)) => j.size ≠ 0 ∧ match bget H b with
            | some (.cells _ _ _) => K (.pointer (some ⟨b, o + off, none⟩)) H
            | _ => False
          | _, _ => False
        | none => False
      | _ => False
    | none => False
  | .field t x f => match tget T t with
    | some i => match i.kind with
      | .struct fs => match fieldAt? fs f with
        | some (off, ft) => match tget T ft, ev sl x with
          | some j, some (.agg cs) => match j.kind.agg with
            | true => off + j.size ≤ cs.toList.length ∧ listNF ((cs.toList.drop off).take j.size) (fun l => K (.agg ⟨l⟩) H)
            | false => Ld cs.toList off (fun v => K v H)
          | _, _ => False
        | none => False
      | _ => False
    | none => False
  | .indexAddr t x i => match tget T t with
    | some ti => match ev sl i with
      | some (.int _ n) => match ti.kind with
        | .slice e => match tget T e, ev sl x with
          | some j, some (.slice (some ⟨b, o, none⟩) l _) => match bget H b with
            | some (.cells _ _ _) => ∃ k : Nat, n = (k : Int) ∧ k < l ∧ K (.pointer (some ⟨b, o + k * j.size, none⟩)) H
            | _ => False
          | _, _ => False
        | .arr len e => match tget T e, ev sl x with
          | some j, some (.pointer (some ⟨b, o, none⟩)) => match bget H b with
            | some (.cells _ _ _) => ∃ k : Nat, n = (k : Int) ∧ k < len ∧ K (.pointer (some ⟨b, o + k * j.size, none⟩)) H
            | _ => False
          | _, _ => False
        | _ => False
      | _ => False
    | none => False
  | .index t x i => match tget T t with
    | some ti => match ev sl i, ev sl x with
      | some (.int _ n), some (.string s) => match ti.kind with
        | .str => ∃ (k : Nat) (b : UInt8), n = (k : Int) ∧ s[k]? = some b ∧ K (.int .u8 b.toNat) H
        | _ => False
      | some (.int _ n), some (.agg cs) => match ti.kind with
        | .arr len e => match tget T e with
          | some j => ∃ k : Nat, (n = (k : Int) ∧ k < len) ∧ match j.kind.agg with
            | true => k * j.size + j.size ≤ cs.toList.length ∧ listNF ((cs.toList.drop (k * j.size)).take j.size) (fun l => K (.agg ⟨l⟩) H)
            | false => Ld cs.toList (k * j.size) (fun v => K v H)
          | none => False
        | _ => False
      | _, _ => False
    | none => False
  | .typeAssert x _ a ok => match tget T a with
    | some i => match i.kind with
      | .iface => False
      | _ => match ev sl x with
        | some (.iface t v) => match Nat.beq t a, ok with
          | true, true => K (.tuple ⟨[v, .bool true]⟩) H
          | true, false => K v H
          | false, true => K (.tuple ⟨[i.zero, .bool false]⟩) H
          | false, false => False
        | _ => False
    | none => False
  | .extract t i => match ev sl t with
    | some (.tuple vs) => Ld vs.toList i (fun v => K v H)
    | _ => False
  | .call c => match c.callee with
    | .builtin .len => match c.args.toList, c.argTypes.toList with
      | [x], [t] => match tget T t, ev sl x with
        | some i, some v => match i.kind, v with
          | .slice _, .slice _ l _ => K (.int .i64 l) H
          | .str, .string s => K (.int .i64 s.size) H
          | .arr n _, _ => K (.int .i64 n) H
          | _, _ => False
        | _, _ => False
      | _, _ => False
    | .builtin .append => match c.args.toList, c.argTypes.toList with
      | [s, x], [ts, tx] => match tget T ts, tget T tx, ev sl s, ev sl x with
        | some i, some ix, some sv, some xv => match i.kind with
          | .slice e => match tget T e with
            | some j => match ix.kind with
              | .slice _ => (cellsL j.zero).length = j.size ∧ aAppend H j.size j.bytes sv xv K
              | .str => (cellsL j.zero).length = j.size ∧ aAppend H j.size j.bytes sv xv K
              | _ => False
            | none => False
          | _ => False
        | _, _, _, _ => False
      | _, _ => False
    | .builtin .max => match c.args.toList with
      | [x, y] => match ev sl x, ev sl y with
        | some (.int k a), some (.int j b) => match sameK k j with
          | true => K (.int k (max a b)) H
          | false => False
        | _, _ => False
      | _ => False
    | .builtin .min => match c.args.toList with
      | [x, y] => match ev sl x, ev sl y with
        | some (.int k a), some (.int j b) => match sameK k j with
          | true => K (.int k (min a b)) H
          | false => False
        | _, _ => False
      | _ => False
    | _ => False
  | _ => False

end Go.Af
