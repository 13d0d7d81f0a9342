/-
  Operations and code in a form that computes: what an operation is turned into, and what it does.
-/
import Derived.Test.YtkmhpolbhjgpoaaE1
namespace Go.Af
open Go

inductive EV where
  | tmp (p : Ps)
  | val (v : Value)
  | bad
noncomputable def cv : Operand → EV
  | .tmp t => .tmp (psOf t)
  | .const v => match plainV 6 v with
    | true => .val v
    | false => .bad
  | .global _ => .bad
  | .func f => .val (.func (.func f) #[] #[])
noncomputable def gv (x : EV) (F : Tr Value) (K : Value → Bool) : Bool :=
  match x with
  | .tmp p => F.getK K p
  | .val v => K v
  | .bad => false
noncomputable def gvs (l : List EV) (F : Tr Value) (K : List Value → Bool) : Bool :=
  List.rec (motive := fun _ => (List Value → Bool) → Bool) (fun K => K []) (fun x _ ih K => gv x F (fun v => ih (fun vs => K (v :: vs)))) l K

/-- For a drawn region: its masks, its quiet operations, its order. -/
abbrev DT := List (Nat × List Nat × List Bool × List Nat)

inductive EB where
  | cells (z : Nat) (vs : List Value)
  | loop (st : LoopState) (pend : Option Code) (n : Nat) (F : Tr Value) (ps : Array Tmp) (as body : Code) (dr : DT)
  | dead

inductive EqK where
  | int
  | bool
  | str
  | ptr
  | iface (c : Bool)
  | slice
  | map
  | func
  | agg (ks : List IntKind)
  | bad

inductive XO where
  | mov (x : EV)
  | pick (c a b : EV)
  | alloc (z : List Value)
  | box (x : EV)
  | build (z : List Value) (ps : List (Nat × Nat × EV))
  | bslice (len size : Nat) (z : List Value) (ps : List (Nat × Nat × EV))
  | load1 (x : EV)
  | loadN (n : Nat) (x : EV)
  | store (n : Nat) (x y : EV)
  | nilc (x : EV)
  | eq (neg : Bool) (k : EqK) (x y : EV)
  | arith (op : BinOp) (x y : EV)
  | not (x : EV)
  | neg (x : EV)
  | conv (k : IntKind) (x : EV)
  | cstr (x : EV)
  | mkIf (t : TypeId) (x : EV)
  | mkFn (fn : Fn) (a b : List EV)
  | mkSl (size bytes : Nat) (z : List Value) (l c : EV)
  | slc (size : Nat) (x : EV) (lo hi : Option EV)
  | slcS (x : EV) (lo hi : Option EV)
  | faddr (off : Nat) (x : EV)
  | field1 (off : Nat) (x : EV)
  | fieldN (off n : Nat) (x : EV)
  | idxS (size : Nat) (x i : EV)
  | idxA (len size : Nat) (x i : EV)
  | str1 (x i : EV)
  | arr1 (len size : Nat) (x i : EV)
  | arrN (len size : Nat) (x i : EV)
  | tassert (t : TypeId) (z : Value) (x : EV) (ok : Bool)
  | extr (x : EV) (i : Nat)
  | lenSl (x : EV)
  | lenStr (x : EV)
  | lenArr (n : Nat) (x : EV)
  | app (size bytes : Nat) (s x : EV)
  | maxI (x y : EV)
  | minI (x y : EV)
  | call (f : EV) (args : List EV)
  | inv (r : EV) (ms : List (Nat × Nat)) (args : List EV)
  | bad

def valX : XO → Bool
  | .mov _ | .pick .. | .build .. | .load1 _ | .loadN .. | .nilc _ | .eq .. | .arith .. | .not _ | .neg _ | .conv .. | .cstr _ | .mkIf .. | .mkFn .. | .slc .. | .slcS .. | .faddr .. | .field1 .. | .fieldN .. | .idxS .. | .idxA .. | .str1 .. | .arr1 .. | .arrN .. | .tassert .. | .extr .. | .lenSl _ | .lenStr _ | .lenArr .. | .maxI .. | .minI .. => true
  | .alloc _ | .box _ | .bslice .. | .mkSl .. => true
  | _ => false
def callX : XO → Bool
  | .call .. | .inv .. => true
  | _ => false

/-! ### Turning operations -/

/-- The facts on types whose values are compared cell by cell, and the methods: for each name, the types and their functions. -/
structure Env where
  T : TT
  eqs : List (TypeId × List IntKind)
  ms : List (String × List (Nat × Nat))

noncomputable def ndF {α : Type} (l : List (Nat × α)) (t : Nat) : Option α := List.rec none (fun x _ ih => Bool.rec ih (some x.2) (Nat.beq x.1 t)) l
theorem ndF_spec {α : Type} : ∀ {l : List (Nat × α)} {t : Nat} {v : α} (_ : ndF l t = some v), (t, v) ∈ l
  | [], t, v, h => by cases h
  | (k, u) :: l, t, v, h => by
    have h' : Bool.rec (ndF l t) (some u) (Nat.beq k t) = some v := h
    cases hb : Nat.beq k t with
    | true => rw [hb] at h'; cases h'; have := Nat.eq_of_beq_eq_true hb; subst this; simp
    | false => rw [hb] at h'; simp [ndF_spec h']
def msF (l : List (String × List (Nat × Nat))) (name : String) : List (Nat × Nat) :=
  match l with
  | [] => []
  | (s, m) :: r => if s = name then m else msF r name
theorem msF_spec : ∀ {l : List (String × List (Nat × Nat))} {name : String} {x : Nat × Nat} (_ : x ∈ msF l name), ∃ m, (name, m) ∈ l ∧ x ∈ m
  | [], name, x, h => by simp [msF] at h
  | (s, m) :: r, name, x, h => by
    unfold msF at h
    split at h
    · rename_i hs; subst hs; exact ⟨m, by simp, h⟩
    · obtain ⟨m', h1, h2⟩ := msF_spec h; exact ⟨m', by simp [h1], h2⟩

noncomputable def cParts (places : Nat → Option (Nat × Nat)) : List (Nat × Operand) → Option (List (Nat × Nat × EV))
  | [] => some []
  | (i, x) :: r => match places i with
    | some (off, size) => match size with
      | 0 => none
      | _ + 1 => match cParts places r with
        | some l => some ((off, size, cv x) :: l)
        | none => none
    | none => none

def eqKind' (E : Env) (t : TypeId) (xo yo : Operand) : TK → EqK
  | .int _ => .int
  | .bool => .bool
  | .str => .str
  | .ptr _ => .ptr
  | .iface => .iface (isConstO xo || isConstO yo)
  | .slice _ => .slice
  | .map _ _ => .map
  | .func => .func
  | .struct _ | .arr _ _ => match E.eqs.find? (fun x => Nat.beq x.1 t) with
    | some x => .agg x.2
    | none => .bad
  | .float _ => .bad

noncomputable def cOp (E : Env) (o : Op) : XO :=
  match o with
  | .move x | .assign x => .mov (cv x)
  | .pick c a b => .pick (cv c) (cv a) (cv b)
  | .alloc e => match tget E.T e with
    | some i => .alloc (cellsL i.zero)
    | none => .bad
  | .box _ x => .box (cv x)
  | .build t ps => match tget E.T t with
    | some i => match i.kind with
      | .struct fs => match allTyped E.T fs with
        | true => match cParts (placesS E.T fs) ps.toList with
          | some l => .build (cellsL i.zero) l
          | none => .bad
        | false => .bad
      | .arr _ e => match tget E.T e with
        | some j => match cParts (fun k => some (k * j.size, j.size)) ps.toList with
          | some l => .build (cellsL i.zero) l
          | none => .bad
        | none => .bad
      | _ => .bad
    | none => .bad
  | .buildSlice t len ps => match tget E.T t with
    | some i => match i.kind with
      | .slice e => match tget E.T e with
        | some j => match cParts (fun k => some (k * j.size, j.size)) ps.toList with
          | some l => match Nat.blt 0 j.size && (Nat.beq (cellsL j.zero).length j.size && Nat.ble (len * j.size) 16777216) with
            | true => .bslice len j.size (zeroRep len (cellsL j.zero)) l
            | false => .bad
          | none => .bad
        | none => .bad
      | _ => .bad
    | none => .bad
  | .load t x => match tget E.T t with
    | some i => match i.kind.agg with
      | true => .loadN i.size (cv x)
      | false => .load1 (cv x)
    | none => .bad
  | .store t x y => match tget E.T t with
    | some i => .store i.size (cv x) (cv y)
    | none => .bad
  | .nilCheck x => .nilc (cv x)
  | .binOp op t x y _ => match op with
    | .eql => match tget E.T t with
      | some i => .eq false (eqKind' E t x y i.kind) (cv x) (cv y)
      | none => .bad
    | .neq => match tget E.T t with
      | some i => .eq true (eqKind' E t x y i.kind) (cv x) (cv y)
      | none => .bad
    | op => .arith op (cv x) (cv y)
  | .unOp op _ x => match op with
    | .not => .not (cv x)
    | .neg => .neg (cv x)
    | _ => .bad
  | .convert s d x => match tget E.T s, tget E.T d with
    | some i, some j => match i.kind, j.kind with
      | .int _, .int k => .conv k (cv x)
      | .str, .str => .cstr (cv x)
      | _, _ => .bad
    | _, _ => .bad
  | .makeInterface t x => match tget E.T t with
    | some i => match i.kind with
      | .iface => .bad
      | _ => .mkIf t (cv x)
    | none => .bad
  | .makeFunc fn first captured => match fn with
    | .yield _ => .bad
    | fn => .mkFn fn (first.toList.map cv) (captured.toList.map cv)
  | .makeSlice t l c => match tget E.T t with
    | some i => match i.kind with
      | .slice e => match tget E.T e with
        | some j => match Nat.blt 0 j.size && Nat.beq (cellsL j.zero).length j.size with
          | true => .mkSl j.size j.bytes (cellsL j.zero) (cv l) (cv c)
          | false => .bad
        | none => .bad
      | _ => .bad
    | none => .bad
  | .slice t x lo hi none => match tget E.T t with
    | some i => match i.kind with
      | .slice e => match tget E.T e with
        | some j => .slc j.size (cv x) (lo.map cv) (hi.map cv)
        | none => .bad
      | .str => .slcS (cv x) (lo.map cv) (hi.map cv)
      | _ => .bad
    | none => .bad
  | .fieldAddr s x f => match tget E.T s with
    | some i => match i.kind with
      | .struct fs => match fieldAt? fs f with
        | some (off, t) => match tget E.T t with
          | some j => match j.size with
            | 0 => .bad
            | _ + 1 => .faddr off (cv x)
          | none => .bad
        | none => .bad
      | _ => .bad
    | none => .bad
  | .field t x f => match tget E.T t with
    | some i => match i.kind with
      | .struct fs => match fieldAt? fs f with
        | some (off, ft) => match tget E.T ft with
          | some j => match j.kind.agg with
            | true => match j.size with
              | 0 => .bad
              | s + 1 => .fieldN off (s + 1) (cv x)
            | false => .field1 off (cv x)
          | none => .bad
        | none => .bad
      | _ => .bad
    | none => .bad
  | .indexAddr t x i => match tget E.T t with
    | some ti => match ti.kind with
      | .slice e => match tget E.T e with
        | some j => .idxS j.size (cv x) (cv i)
        | none => .bad
      | .arr len e => match tget E.T e with
        | some j => .idxA len j.size (cv x) (cv i)
        | none => .bad
      | _ => .bad
    | none => .bad
  | .index t x i => match tget E.T t with
    | some ti => match ti.kind with
      | .str => .str1 (cv x) (cv i)
      | .arr len e => match tget E.T e with
        | some j => match j.kind.agg with
          | true => match j.size with
            | 0 => .bad
            | s + 1 => .arrN len (s + 1) (cv x) (cv i)
          | false => .arr1 len j.size (cv x) (cv i)
        | none => .bad
      | _ => .bad
    | none => .bad
  | .typeAssert x _ a ok => match tget E.T a with
    | some i => match i.kind with
      | .iface => .bad
      | _ => .tassert a i.zero (cv x) ok
    | none => .bad
  | .extract t i => .extr (cv t) i
  | .call c => match c.callee with
    | .builtin .len => match c.args.toList, c.argTypes.toList with
      | [x], [t] => match tget E.T t with
        | some i => match i.kind with
          | .slice _ => .lenSl (cv x)
          | .str => .lenStr (cv x)
          | .arr n _ => .lenArr n (cv x)
          | _ => .bad
        | none => .bad
      | _, _ => .bad
    | .builtin .append => match c.args.toList, c.argTypes.toList with
      | [s, x], [ts, tx] => match tget E.T ts, tget E.T tx with
        | some i, some ix => match i.kind with
          | .slice e => match tget E.T e with
            | some j => match Nat.blt 0 j.size && Nat.beq (cellsL j.zero).length j.size with
              | true => match ix.kind with
                | .slice _ => .app j.size j.bytes (cv s) (cv x)
                | .str => .app j.size j.bytes (cv s) (cv x)
                | _ => .bad
              | false => .bad
            | none => .bad
          | _ => .bad
        | _, _ => .bad
      | _, _ => .bad
    | .builtin .max => match c.args.toList with
      | [x, y] => .maxI (cv x) (cv y)
      | _ => .bad
    | .builtin .min => match c.args.toList with
      | [x, y] => .minI (cv x) (cv y)
      | _ => .bad
    | .builtin _ => .bad
    | .value f => .call (cv f) (c.args.toList.map cv)
    | .invoke r name => .inv (cv r) (msF E.ms name) (c.args.toList.map cv)
  | _ => .bad

/-! ### What they do -/

abbrev HK := Value → Tr EB → Nat → Bool

noncomputable def allocE (M : Tr EB) (n : Nat) (b : EB) (K : Nat → Tr EB → Nat → Bool) : Bool := M.setK b (psOf n) (fun M' => natF (Nat.succ n) (fun n' => K n M' n'))
noncomputable def cellsE (M : Tr EB) (b : Nat) (K : Nat → List Value → Bool) : Bool := M.getK (fun eb => match eb with | .cells z vs => K z vs | _ => false) (psOf b)
noncomputable def allOne (l : List Value) : Bool := List.rec true (fun x _ ih => Bool.rec false ih (oneCellV x)) l

noncomputable def numE (k : IntKind) (z : Int) (K : Value → Bool) : Bool :=
  match k with
  | .i64 => intF z (fun z => Bool.rec false (K (.int .i64 z)) (fit64 z))
  | k => intF (k.wrap z) (fun z => K (.int k z))

noncomputable def arithE (op : BinOp) (x y : Value) (K : Value → Bool) : Bool :=
  match x with
  | .int k a => match y with
    | .int j b => match op with
      | .shl => natOf b (fun n => numE k (a * 2 ^ (min n k.bits)) K)
      | .shr => natOf b (fun n => intF (a.fdiv (2 ^ (min n k.bits))) (fun z => K (.int k z)))
      | op => Bool.rec false (match op with
        | .add => numE k (Int.add a b) K
        | .sub => numE k (Int.sub a b) K
        | .mul => numE k (Int.mul a b) K
        | .quo => Bool.rec (numE k (a.tdiv b) K) false (ieq b 0)
        | .rem => Bool.rec (intF (a.tmod b) (fun z => K (.int k z))) false (ieq b 0)
        | .and => intF (k.wrap ((BitVec.ofInt k.bits a &&& BitVec.ofInt k.bits b).toNat : Int)) (fun z => K (.int k z))
        | .or => intF (k.wrap ((BitVec.ofInt k.bits a ||| BitVec.ofInt k.bits b).toNat : Int)) (fun z => K (.int k z))
        | .xor => intF (k.wrap ((BitVec.ofInt k.bits a ^^^ BitVec.ofInt k.bits b).toNat : Int)) (fun z => K (.int k z))
        | .andNot => intF (k.wrap ((BitVec.ofInt k.bits a &&& ~~~ BitVec.ofInt k.bits b).toNat : Int)) (fun z => K (.int k z))
        | .lss => boolF (ilt a b) (fun r => K (.bool r))
        | .leq => boolF (ile a b) (fun r => K (.bool r))
        | .gtr => boolF (ilt b a) (fun r => K (.bool r))
        | .geq => boolF (ile b a) (fun r => K (.bool r))
        | _ => false) (sameK k j)
    | _ => false
  | .string a => match y with
    | .string b => match op with
      | .add => Bool.rec false (K (.string (a ++ b))) (Nat.ble (a.size + b.size) 4611686018427387904)
      | .lss => boolF (Op.bytesLess a.toList b.toList) (fun r => K (.bool r))
      | .gtr => boolF (!(Op.bytesLess a.toList b.toList || a.toList == b.toList)) (fun r => K (.bool r))
      | .leq => boolF (Op.bytesLess a.toList b.toList || a.toList == b.toList) (fun r => K (.bool r))
      | .geq => boolF (!(Op.bytesLess a.toList b.toList)) (fun r => K (.bool r))
      | _ => false
    | _ => false
  | _ => false

noncomputable def intsE : List Value → List IntKind → (List Int → Bool) → Bool
  | [], [], K => K []
  | .int k n :: r, j :: ks, K => Bool.rec false (intsE r ks (fun l => K (n :: l))) (sameK k j)
  | _, _, _ => false
noncomputable def leqI (a : List Int) : List Int → Bool :=
  List.rec (motive := fun _ => List Int → Bool) (fun b => List.rec true (fun _ _ _ => false) b) (fun x _ ih b => List.rec false (fun y ys _ => Bool.rec false (ih ys) (ieq x y)) b) a

noncomputable def eqE (k : EqK) (M : Tr EB) (x y : Value) (K : Bool → Bool) : Bool :=
  match k with
  | .int => match x, y with
    | .int k a, .int j b => Bool.rec false (boolF (ieq a b) K) (sameK k j)
    | _, _ => false
  | .bool => match x, y with
    | .bool a, .bool b => boolF (a == b) K
    | _, _ => false
  | .str => match x, y with
    | .string a, .string b => boolF (a.toList == b.toList) K
    | _, _ => false
  | .ptr => match x, y with
    | .pointer none, .pointer none => K true
    | .pointer none, .pointer (some _) => K false
    | .pointer (some _), .pointer none => K false
    | _, _ => false
  | .iface c => match x, y with
    | .nilIface, .iface _ _ => K false
    | .iface _ _, .nilIface => K false
    | .nilIface, .nilIface => Bool.rec false (K true) c
    | _, _ => false
  | .slice => match x, y with
    | .slice none _ _, .slice none _ _ => K true
    | .slice (some ⟨b, _, none⟩) l _, .slice none _ _ => Bool.rec (cellsE M b (fun _ _ => K false)) false (Nat.beq l 0)
    | _, _ => false
  | .map => match x, y with
    | .map none, .map none => K true
    | .map (some _), .map none => K false
    | _, _ => false
  | .func => match x, y with
    | .nilFunc, .nilFunc => K true
    | .func _ _ _, .nilFunc => K false
    | _, _ => false
  | .agg ks => match x, y with
    | .agg xs, .agg ys => intsE xs.toList ks (fun as => intsE ys.toList ks (fun bs => boolF (leqI as bs) K))
    | _, _ => false
  | .bad => false

noncomputable def partsE (F : Tr Value) (K : List Value → Bool) (ps : List (Nat × Nat × EV)) : List Value → Bool :=
  List.rec (motive := fun _ => List Value → Bool) K (fun x _ ih zs => gv x.2.2 F (fun v => Bool.rec false (lover (cellsL v) zs x.1 ih) (Nat.beq (llen (cellsL v)) x.2.1))) ps

noncomputable def hiE (x : Option EV) (F : Tr Value) (l : Nat) (K : Nat → Bool) : Bool :=
  match x with
  | none => K l
  | some x => gv x F (fun v => match v with | .int _ n => natOf n K | _ => false)

noncomputable def srcE (M : Tr EB) (size : Nat) (x : Value) (K : Nat → List Value → Bool) : Bool :=
  match x with
  | .slice none l c => Bool.rec false (K Nat.zero []) (Nat.beq l 0 && Nat.beq c 0)
  | .slice (some ⟨b, o, none⟩) m _ => cellsE M b (fun _ vs => natF (Nat.mul m size) (fun q => lseg vs o q (fun new => K m new)))
  | .slice (some ⟨_, _, some _⟩) l c => Bool.rec false (K Nat.zero []) (Nat.beq l 0 && Nat.beq c 0)
  | .string s => Bool.rec false (lfin (s.data.toList.map (fun b => Value.int .u8 b.toNat)) (fun new => K s.size new)) (Nat.beq size 1)
  | _ => false

noncomputable def newE (M : Tr EB) (n size : Nat) (cells : List Value) (m : Nat) (K : HK) : Bool := allocE M n (.cells size cells) (fun i M' n' => K (.slice (some ⟨i, Nat.zero, none⟩) m m) M' n')

noncomputable def freshE (M : Tr EB) (n size bytes : Nat) (new : List Value) (m : Nat) (K : HK) : Bool := Bool.rec false (newE M n size new m K) (Nat.ble (Nat.mul m (Nat.succ bytes)) 70368744177664)

noncomputable def appE (lim : Nat) (M : Tr EB) (n size bytes : Nat) (s x : Value) (K : HK) : Bool :=
  srcE M size x (fun m new => Bool.rec false
    (match s with
    | .slice none l c => Bool.rec false (Bool.rec (freshE M n size bytes new m K) (K (.slice none Nat.zero Nat.zero) M n) (Nat.beq m 0)) (Nat.beq l 0 && Nat.beq c 0)
    | .slice (some ⟨b', o', some s'⟩) l c => Bool.rec false (Bool.rec (freshE M n size bytes new m K) (K (.slice (some ⟨b', o', some s'⟩) Nat.zero Nat.zero) M n) (Nat.beq m 0)) (Nat.beq l 0 && Nat.beq c 0)
    | .slice (some ⟨b, o, none⟩) l c => Bool.rec
        (cellsE M b (fun z vs => Bool.rec false
          (Bool.rec
            (Bool.rec false (natF (Nat.mul l size) (fun q => lseg vs o q (fun old => lapp old new (fun cells =>
              M.setK .dead (psOf b) (fun M' => natF (Nat.add l m) (fun lm => newE M' n size cells lm K)))))) (Nat.ble (Nat.mul (Nat.add l m) (Nat.succ bytes)) 70368744177664))
            (Bool.rec false (natF (Nat.add o (Nat.mul l size)) (fun p => lover new vs p (fun vs' => M.setK (.cells size vs') (psOf b) (fun M' => natF (Nat.add l m) (fun lm => K (.slice (some ⟨b, o, none⟩) lm c) M' n))))) (Nat.blt 0 l))
            (Nat.ble (Nat.add l m) c))
          (Nat.ble lim b && Nat.beq z size)))
        (Bool.rec false (K (.slice (some ⟨b, o, none⟩) l c) M n) (Nat.ble l c))
        (Nat.beq m 0)
    | _ => false) (allOne new))

/-- What an operation that runs no code does: with the frame F, the memory M of n blocks, those below lim only read. -/
noncomputable def eop (o : XO) (lim : Nat) (F : Tr Value) (M : Tr EB) (n : Nat) (K : HK) : Bool :=
  match o with
  | .mov x => gv x F (fun v => K v M n)
  | .pick c a b => gv c F (fun v => match v with | .bool t => Bool.rec (gv b F (fun v => K v M n)) (gv a F (fun v => K v M n)) t | _ => false)
  | .alloc z => allocE M n (.cells (Nat.succ Nat.zero) z) (fun i M' n' => K (.pointer (some ⟨i, Nat.zero, none⟩)) M' n')
  | .box x => gv x F (fun v => lfin (cellsL v) (fun z => allocE M n (.cells (Nat.succ Nat.zero) z) (fun i M' n' => K (.pointer (some ⟨i, Nat.zero, none⟩)) M' n')))
  | .build z ps => partsE F (fun zs => K (.agg ⟨zs⟩) M n) ps z
  | .bslice len size z ps => lfin z (partsE F (fun zs => newE M n size zs len K) ps)
  | .load1 x => gv x F (fun v => match v with | .pointer (some ⟨b, o, none⟩) => cellsE M b (fun _ vs => lget (fun v => K v M n) vs o) | _ => false)
  | .loadN q x => gv x F (fun v => match v with | .pointer (some ⟨b, o, none⟩) => cellsE M b (fun _ vs => lseg vs o q (fun l => K (.agg ⟨l⟩) M n)) | _ => false)
  | .store q x y => gv x F (fun p => match p with
    | .pointer (some ⟨b, o, none⟩) => gv y F (fun v => cellsE M b (fun z vs => Bool.rec false (lover (cellsL v) vs o (fun vs' => M.setK (.cells z vs') (psOf b) (fun M' => K undef M' n)))
        (Nat.ble lim b && (Nat.beq (llen (cellsL v)) q && (allOne (cellsL v) && Nat.ble (Nat.add o q) (llen vs))))))
    | _ => false)
  | .nilc x => gv x F (fun v => match v with
    | .pointer (some a) => K (.pointer (some a)) M n
    | .func (.func f) a c => K (.func (.func f) a c) M n
    | .func (.yield f) a c => K (.func (.yield f) a c) M n
    | .iface t v => K (.iface t v) M n
    | _ => false)
  | .eq neg k x y => gv x F (fun a => gv y F (fun b => eqE k M a b (fun r => boolF (Bool.rec r (!r) neg) (fun r => K (.bool r) M n))))
  | .arith op x y => gv x F (fun a => gv y F (fun b => arithE op a b (fun v => K v M n)))
  | .not x => gv x F (fun v => match v with | .bool b => boolF (!b) (fun r => K (.bool r) M n) | _ => false)
  | .neg x => gv x F (fun v => match v with | .int k z => numE k (Int.sub 0 z) (fun v => K v M n) | _ => false)
  | .conv k x => gv x F (fun v => match v with | .int _ z => numE k z (fun v => K v M n) | _ => false)
  | .cstr x => gv x F (fun v => match v with | .string s => K (.string s) M n | _ => false)
  | .mkIf t x => gv x F (fun v => K (.iface t v) M n)
  | .mkFn fn a b => gvs a F (fun as => gvs b F (fun bs => K (.func fn ⟨as⟩ ⟨bs⟩) M n))
  | .mkSl size bytes z l c => gv l F (fun l => gv c F (fun c => match l, c with
    | .int _ li, .int _ ci => natOf li (fun l => natOf ci (fun c => Bool.rec false (lfin (zeroRep c z) (fun vs => allocE M n (.cells size vs) (fun i M' n' => K (.slice (some ⟨i, Nat.zero, none⟩) l c) M' n'))) (Nat.ble l c && Nat.ble (Nat.mul c (Nat.succ bytes)) 70368744177664)))
    | _, _ => false))
  | .slc size x lo hi => gv x F (fun v => match v with
    | .slice none l c => hiE hi F Nat.zero (fun h => hiE lo F Nat.zero (fun l' => Bool.rec false (K (.slice none Nat.zero Nat.zero) M n) (Nat.beq l 0 && (Nat.beq c 0 && (Nat.beq h 0 && Nat.beq l' 0)))))
    | .slice (some ⟨b, o, none⟩) m c => cellsE M b (fun z _ => Bool.rec false (hiE hi F m (fun h => hiE lo F Nat.zero (fun l => Bool.rec false
        (natF (Nat.add o (Nat.mul l size)) (fun o' => natF (Nat.sub h l) (fun m' => natF (Nat.sub c l) (fun c' => K (.slice (some ⟨b, o', none⟩) m' c') M n)))) (Nat.ble l h && Nat.ble h c)))) (Nat.beq z size))
    | _ => false)
  | .slcS x lo hi => gv x F (fun v => match v with
    | .string s => hiE hi F s.size (fun h => hiE lo F Nat.zero (fun l => Bool.rec false (K (.string (s.extract l h)) M n) (Nat.ble l h && Nat.ble h s.size)))
    | _ => false)
  | .faddr off x => gv x F (fun v => match v with | .pointer (some ⟨b, o, none⟩) => cellsE M b (fun _ _ => natF (Nat.add o off) (fun o' => K (.pointer (some ⟨b, o', none⟩)) M n)) | _ => false)
  | .field1 off x => gv x F (fun v => match v with | .agg cs => lget (fun v => K v M n) cs.toList off | _ => false)
  | .fieldN off q x => gv x F (fun v => match v with | .agg cs => lseg cs.toList off q (fun l => K (.agg ⟨l⟩) M n) | _ => false)
  | .idxS size x i => gv x F (fun v => gv i F (fun i => match v, i with
    | .slice (some ⟨b, o, none⟩) l _, .int _ z => natOf z (fun k => Bool.rec false (cellsE M b (fun _ _ => natF (Nat.add o (Nat.mul k size)) (fun o' => K (.pointer (some ⟨b, o', none⟩)) M n))) (Nat.blt k l))
    | _, _ => false))
  | .idxA len size x i => gv x F (fun v => gv i F (fun i => match v, i with
    | .pointer (some ⟨b, o, none⟩), .int _ z => natOf z (fun k => Bool.rec false (cellsE M b (fun _ _ => natF (Nat.add o (Nat.mul k size)) (fun o' => K (.pointer (some ⟨b, o', none⟩)) M n))) (Nat.blt k len))
    | _, _ => false))
  | .str1 x i => gv x F (fun v => gv i F (fun i => match v, i with
    | .string s, .int _ z => natOf z (fun k => match s[k]? with | some b => natF b.toNat (fun q => K (.int .u8 (Int.ofNat q)) M n) | none => false)
    | _, _ => false))
  | .arr1 len size x i => gv x F (fun v => gv i F (fun i => match v, i with
    | .agg cs, .int _ z => natOf z (fun k => Bool.rec false (natF (Nat.mul k size) (fun p => lget (fun v => K v M n) cs.toList p)) (Nat.blt k len))
    | _, _ => false))
  | .arrN len size x i => gv x F (fun v => gv i F (fun i => match v, i with
    | .agg cs, .int _ z => natOf z (fun k => Bool.rec false (natF (Nat.mul k size) (fun p => lseg cs.toList p size (fun l => K (.agg ⟨l⟩) M n))) (Nat.blt k len))
    | _, _ => false))
  | .tassert t z x ok => gv x F (fun v => match v with
    | .iface u v => Bool.rec (Bool.rec false (K (.tuple ⟨[z, .bool false]⟩) M n) ok) (Bool.rec (K v M n) (K (.tuple ⟨[v, .bool true]⟩) M n) ok) (Nat.beq u t)
    | _ => false)
  | .extr x i => gv x F (fun v => match v with | .tuple vs => lget (fun v => K v M n) vs.toList i | _ => false)
  | .lenSl x => gv x F (fun v => match v with | .slice _ l _ => K (.int .i64 (Int.ofNat l)) M n | _ => false)
  | .lenStr x => gv x F (fun v => match v with | .string s => natF s.size (fun q => K (.int .i64 (Int.ofNat q)) M n) | _ => false)
  | .lenArr q x => gv x F (fun _ => K (.int .i64 (Int.ofNat q)) M n)
  | .app size bytes s x => gv s F (fun s => gv x F (fun x => appE lim M n size bytes s x K))
  | .maxI x y => gv x F (fun a => gv y F (fun b => match a, b with | .int k a, .int j b => Bool.rec false (Bool.rec (K (.int k a) M n) (K (.int k b) M n) (ile a b)) (sameK k j) | _, _ => false))
  | .minI x y => gv x F (fun a => gv y F (fun b => match a, b with | .int k a, .int j b => Bool.rec false (Bool.rec (K (.int k b) M n) (K (.int k a) M n) (ile a b)) (sameK k j) | _, _ => false))
  | _ => false
end Go.Af
