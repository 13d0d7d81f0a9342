/-
  An abstract heap beside the model's world: values with abstract block numbers, and the relation to a real world. No program is in sight.
-/
import Derived.Control
import Derived.Calls
import Derived.Laws.Sem
namespace Go.Af
open Go

/-- Where an abstract block lies: in the real block r, from cell sh on (the real block has tot cells, the elements esz cells each; esz = 0: not known); an object; or nowhere any more. -/
inductive Loc where
  | cel (r sh tot esz : Nat)
  | obj (r : Nat)
  | dead

def locBlk : Option Loc → Option Nat
  | some (.cel r _ _ _) => some r
  | some (.obj r) => some r
  | _ => none

abbrev LM := Nat → Option Loc

inductive FnRel (m : LM) : Fn → Fn → Prop
  | same (f : Fn) (h : ∀ l, f ≠ .yield l) : FnRel m f f
  | yield (b r : Nat) (h : m b = some (.obj r)) : FnRel m (.yield b) (.yield r)

inductive VRel (m : LM) : Value → Value → Prop
  | bool (b : Bool) : VRel m (.bool b) (.bool b)
  | int (k : IntKind) (n : Int) : VRel m (.int k n) (.int k n)
  | float (k : FloatKind) (b : Nat) : VRel m (.float k b) (.float k b)
  | complex (k : FloatKind) (a b : Nat) : VRel m (.complex k a b) (.complex k a b)
  | string (s : ByteArray) : VRel m (.string s) (.string s)
  | nilptr : VRel m (.pointer none) (.pointer none)
  | ptr (b o r sh tot esz : Nat) (h : m b = some (.cel r sh tot esz)) : VRel m (.pointer (some ⟨b, o, none⟩)) (.pointer (some ⟨r, sh + o, none⟩))
  | ptrDead (b o : Nat) (a : Addr) (h : m b = some .dead) : VRel m (.pointer (some ⟨b, o, none⟩)) (.pointer (some a))
  | nilslice : VRel m (.slice none 0 0) (.slice none 0 0)
  | slice (b o r sh tot esz l c c' : Nat) (h : m b = some (.cel r sh tot esz)) (hc : c ≤ c') (hl : esz = 0 ∨ sh + o + c' * esz ≤ tot) : VRel m (.slice (some ⟨b, o, none⟩) l c) (.slice (some ⟨r, sh + o, none⟩) l c')
  | sliceZero (b o : Nat) (a : Option Addr) : VRel m (.slice (some ⟨b, o, none⟩) 0 0) (.slice a 0 0)
  | sliceDead (b o l c c' : Nat) (a : Option Addr) (h : m b = some .dead) (hc : c ≤ c') : VRel m (.slice (some ⟨b, o, none⟩) l c) (.slice a l c')
  | sliceEmpty (b o : Nat) (s : Nat) (a : Option Addr) : VRel m (.slice (some ⟨b, o, some s⟩) 0 0) (.slice a 0 0)
  | nilmap : VRel m (.map none) (.map none)
  | map (b r : Nat) (h : m b = some (.obj r)) : VRel m (.map (some b)) (.map (some r))
  | func (f f' : Fn) (xs ys xs' ys' : Array Value) (hf : FnRel m f f') (h1 : xs.size = xs'.size) (h2 : ys.size = ys'.size)
      (h3 : ∀ (i : Nat) (x x' : Value), xs[i]? = some x → xs'[i]? = some x' → VRel m x x') (h4 : ∀ (i : Nat) (x x' : Value), ys[i]? = some x → ys'[i]? = some x' → VRel m x x') :
      VRel m (.func f xs ys) (.func f' xs' ys')
  | nilFunc : VRel m .nilFunc .nilFunc
  | iface (t : TypeId) (v v' : Value) (h : VRel m v v') : VRel m (.iface t v) (.iface t v')
  | nilIface : VRel m .nilIface .nilIface
  | agg (xs xs' : Array Value) (h1 : xs.size = xs'.size) (h3 : ∀ (i : Nat) (x x' : Value), xs[i]? = some x → xs'[i]? = some x' → VRel m x x') : VRel m (.agg xs) (.agg xs')
  | tuple (xs xs' : Array Value) (h1 : xs.size = xs'.size) (h3 : ∀ (i : Nat) (x x' : Value), xs[i]? = some x → xs'[i]? = some x' → VRel m x x') : VRel m (.tuple xs) (.tuple xs')

/-- Lists of values, cell by cell. -/
def LRel (m : LM) (xs ys : List Value) : Prop := xs.length = ys.length ∧ ∀ (i : Nat) (x y : Value), xs[i]? = some x → ys[i]? = some y → VRel m x y

/-- What is mapped stays where it is, or (a row of cells) dies. -/
def LocLe (l : Loc) (o : Option Loc) : Prop := o = some l ∨ (o = some .dead ∧ ∃ r sh tot esz, l = .cel r sh tot esz)
def LM.le (m m' : LM) : Prop := ∀ i l, m i = some l → LocLe l (m' i)

theorem LocLe.refl (l : Loc) : LocLe l (some l) := .inl rfl
theorem LocLe.dead {o : Option Loc} (h : LocLe .dead o) : o = some .dead := h.elim id fun h => h.1
theorem LocLe.obj {r : Nat} {o : Option Loc} (h : LocLe (.obj r) o) : o = some (.obj r) := h.elim id fun h => by obtain ⟨_, _, _, _, _, e⟩ := h; cases e
theorem LM.le.refl (m : LM) : m.le m := fun _ _ h => .inl h
theorem LM.le.trans {a b c : LM} (h : a.le b) (k : b.le c) : a.le c := fun i l hi => by
  rcases h i l hi with h1 | ⟨h1, h2⟩
  · exact k i l h1
  · exact .inr ⟨(k i _ h1).dead, h2⟩

theorem FnRel.mono {m m' : LM} (hm : m.le m') {f f' : Fn} (h : FnRel m f f') : FnRel m' f f' := by
  cases h with
  | same f h => exact .same _ h
  | yield b r h => exact .yield b r (hm _ _ h).obj

theorem VRel.mono {m m' : LM} (hm : m.le m') {v v' : Value} (h : VRel m v v') : VRel m' v v' := by
  induction h with
  | bool => exact .bool _
  | int => exact .int _ _
  | float => exact .float _ _
  | complex => exact .complex _ _ _
  | string => exact .string _
  | nilptr => exact .nilptr
  | ptr b o r sh tot esz h => rcases hm _ _ h with h1 | ⟨h1, _⟩; exact .ptr b o r sh tot esz h1; exact .ptrDead _ _ _ h1
  | ptrDead b o a h => exact .ptrDead _ _ _ (hm _ _ h).dead
  | nilslice => exact .nilslice
  | slice b o r sh tot esz l c c' h hc hl => rcases hm _ _ h with h1 | ⟨h1, _⟩; exact .slice b o r sh tot esz l c c' h1 hc hl; exact .sliceDead _ _ _ _ _ _ h1 hc
  | sliceZero => exact .sliceZero _ _ _
  | sliceDead b o l c c' a h hc => exact .sliceDead _ _ _ _ _ _ (hm _ _ h).dead hc
  | sliceEmpty => exact .sliceEmpty _ _ _ _
  | nilmap => exact .nilmap
  | map b r h => exact .map b r (hm _ _ h).obj
  | func f f' xs ys xs' ys' hf h1 h2 _ _ ih3 ih4 => exact .func _ _ _ _ _ _ (hf.mono hm) h1 h2 ih3 ih4
  | nilFunc => exact .nilFunc
  | iface t v v' _ ih => exact .iface _ _ _ ih
  | nilIface => exact .nilIface
  | agg xs xs' h1 _ ih => exact .agg _ _ h1 ih
  | tuple xs xs' h1 _ ih => exact .tuple _ _ h1 ih

theorem LRel.mono {m m' : LM} (hm : m.le m') {xs ys : List Value} (h : LRel m xs ys) : LRel m' xs ys :=
  ⟨h.1, fun i x y hx hy => (h.2 i x y hx hy).mono hm⟩
theorem LRel.nil (m : LM) : LRel m [] [] := ⟨rfl, fun i x y hx => by simp at hx⟩
theorem LRel.cons {m : LM} {x y : Value} {xs ys : List Value} (h : VRel m x y) (hs : LRel m xs ys) : LRel m (x :: xs) (y :: ys) := by
  refine ⟨by simp [hs.1], fun i a b ha hb => ?_⟩
  cases i with
  | zero => simp at ha hb; subst ha; subst hb; exact h
  | succ i => simp at ha hb; exact hs.2 i a b ha hb
theorem LRel.inv_cons {m : LM} {x : Value} {xs ys : List Value} (h : LRel m (x :: xs) ys) : ∃ y ys', ys = y :: ys' ∧ VRel m x y ∧ LRel m xs ys' := by
  cases ys with
  | nil => have := h.1; simp at this
  | cons y ys' => exact ⟨y, ys', rfl, h.2 0 x y rfl rfl, by have := h.1; simpa using this, fun i a b ha hb => h.2 (i + 1) a b (by simpa using ha) (by simpa using hb)⟩
theorem LRel.inv_nil {m : LM} {ys : List Value} (h : LRel m [] ys) : ys = [] := by cases ys with | nil => rfl | cons y ys => have := h.1; simp at this
theorem LRel.append {m : LM} {xs ys xs' ys' : List Value} (h : LRel m xs ys) (h' : LRel m xs' ys') : LRel m (xs ++ xs') (ys ++ ys') := by
  refine ⟨by simp [h.1, h'.1], fun i a b ha hb => ?_⟩
  rw [List.getElem?_append] at ha hb
  have e := h.1
  split at ha
  · rw [if_pos (by omega)] at hb; exact h.2 i a b ha hb
  · rw [if_neg (by omega)] at hb; rw [e] at ha; exact h'.2 _ a b ha hb
theorem LRel.get {m : LM} {xs ys : List Value} (h : LRel m xs ys) {i : Nat} {x : Value} (hx : xs[i]? = some x) : ∃ y, ys[i]? = some y ∧ VRel m x y := by
  have hi : i < xs.length := by
    rcases Nat.lt_or_ge i xs.length with h1 | h1
    · exact h1
    · rw [List.getElem?_eq_none h1] at hx; cases hx
  exact ⟨ys[i]'(h.1 ▸ hi), List.getElem?_eq_getElem _, h.2 i x _ hx (List.getElem?_eq_getElem _)⟩
theorem LRel.set {m : LM} {xs ys : List Value} (h : LRel m xs ys) (i : Nat) {x y : Value} (hv : VRel m x y) : LRel m (xs.set i x) (ys.set i y) := by
  refine ⟨by simp [h.1], fun j a b ha hb => ?_⟩
  rw [List.getElem?_set] at ha hb
  have e := h.1
  by_cases hij : i = j
  · subst hij
    by_cases hl : i < xs.length
    · simp [hl] at ha; simp [e ▸ hl] at hb; subst ha; subst hb; exact hv
    · simp [hl] at ha
  · simp [hij] at ha hb; exact h.2 j a b ha hb
theorem LRel.take {m : LM} {xs ys : List Value} (h : LRel m xs ys) (n : Nat) : LRel m (xs.take n) (ys.take n) := by
  refine ⟨by simp [h.1], fun i a b ha hb => ?_⟩
  rw [List.getElem?_take] at ha hb
  split at ha
  · rename_i hl; rw [if_pos hl] at hb; exact h.2 i a b ha hb
  · cases ha
theorem LRel.drop {m : LM} {xs ys : List Value} (h : LRel m xs ys) (n : Nat) : LRel m (xs.drop n) (ys.drop n) := by
  refine ⟨by simp [h.1], fun i a b ha hb => ?_⟩
  rw [List.getElem?_drop] at ha hb
  exact h.2 _ a b ha hb
theorem LRel.replicate {m : LM} {x y : Value} (h : VRel m x y) (n : Nat) : LRel m (List.replicate n x) (List.replicate n y) := by
  refine ⟨by simp, fun i a b ha hb => ?_⟩
  rw [List.getElem?_replicate] at ha hb
  split at ha
  · rename_i hl; rw [if_pos hl] at hb; cases ha; cases hb; exact h
  · cases ha

theorem VRel.agg' {m : LM} {xs ys : Array Value} (h : LRel m xs.toList ys.toList) : VRel m (.agg xs) (.agg ys) :=
  .agg _ _ (by simpa using h.1) (fun i x y hx hy => h.2 i x y (by simpa using hx) (by simpa using hy))
theorem VRel.tuple' {m : LM} {xs ys : Array Value} (h : LRel m xs.toList ys.toList) : VRel m (.tuple xs) (.tuple ys) :=
  .tuple _ _ (by simpa using h.1) (fun i x y hx hy => h.2 i x y (by simpa using hx) (by simpa using hy))
theorem VRel.inv_agg {m : LM} {xs : Array Value} {v : Value} (h : VRel m (.agg xs) v) : ∃ ys, v = .agg ys ∧ LRel m xs.toList ys.toList := by
  cases h with
  | agg _ ys h1 h3 => exact ⟨ys, rfl, by simpa using h1, fun i x y hx hy => h3 i x y (by simpa using hx) (by simpa using hy)⟩
theorem VRel.inv_tuple {m : LM} {xs : Array Value} {v : Value} (h : VRel m (.tuple xs) v) : ∃ ys, v = .tuple ys ∧ LRel m xs.toList ys.toList := by
  cases h with
  | tuple _ ys h1 h3 => exact ⟨ys, rfl, by simpa using h1, fun i x y hx hy => h3 i x y (by simpa using hx) (by simpa using hy)⟩
theorem VRel.inv_func {m : LM} {f : Fn} {xs ys : Array Value} {v : Value} (h : VRel m (.func f xs ys) v) :
    ∃ f' xs' ys', v = .func f' xs' ys' ∧ FnRel m f f' ∧ LRel m xs.toList xs'.toList ∧ LRel m ys.toList ys'.toList := by
  cases h with
  | func _ f' _ _ xs' ys' hf h1 h2 h3 h4 =>
    exact ⟨f', xs', ys', rfl, hf, ⟨by simpa using h1, fun i x y hx hy => h3 i x y (by simpa using hx) (by simpa using hy)⟩, ⟨by simpa using h2, fun i x y hx hy => h4 i x y (by simpa using hx) (by simpa using hy)⟩⟩
theorem VRel.func' {m : LM} {f f' : Fn} {xs ys xs' ys' : Array Value} (hf : FnRel m f f') (h1 : LRel m xs.toList xs'.toList) (h2 : LRel m ys.toList ys'.toList) : VRel m (.func f xs ys) (.func f' xs' ys') :=
  .func _ _ _ _ _ _ hf (by simpa using h1.1) (by simpa using h2.1) (fun i x y hx hy => h1.2 i x y (by simpa using hx) (by simpa using hy)) (fun i x y hx hy => h2.2 i x y (by simpa using hx) (by simpa using hy))

/-- The cells of a value. -/
def cellsL : Value → List Value
  | .agg cs => cs.toList
  | v => [v]

theorem VRel.cells {m : LM} {v v' : Value} (h : VRel m v v') : LRel m (cellsL v) v'.cells.toList := by
  have one : ∀ x y : Value, VRel m x y → LRel m [x] [y] := fun x y h => .cons h (.nil m)
  cases h with
  | agg xs xs' h1 h3 => exact ⟨by simpa [cellsL, Value.cells] using h1, fun i x y hx hy => h3 i x y (by simpa [cellsL] using hx) (by simpa [Value.cells] using hy)⟩
  | bool => exact one _ _ (.bool _)
  | int => exact one _ _ (.int _ _)
  | float => exact one _ _ (.float _ _)
  | complex => exact one _ _ (.complex _ _ _)
  | string => exact one _ _ (.string _)
  | nilptr => exact one _ _ .nilptr
  | ptr b o r sh tot esz h => exact one _ _ (.ptr b o r sh tot esz h)
  | ptrDead b o a h => exact one _ _ (.ptrDead b o a h)
  | nilslice => exact one _ _ .nilslice
  | slice b o r sh tot esz l c c' h hc hl => exact one _ _ (.slice b o r sh tot esz l c c' h hc hl)
  | sliceZero => exact one _ _ (.sliceZero _ _ _)
  | sliceDead b o l c c' a h hc => exact one _ _ (.sliceDead _ _ _ _ _ _ h hc)
  | sliceEmpty => exact one _ _ (.sliceEmpty _ _ _ _)
  | nilmap => exact one _ _ .nilmap
  | map b r h => exact one _ _ (.map b r h)
  | func f f' xs ys xs' ys' hf h1 h2 h3 h4 => exact one _ _ (.func _ _ _ _ _ _ hf h1 h2 h3 h4)
  | nilFunc => exact one _ _ .nilFunc
  | iface t v v' h => exact one _ _ (.iface _ _ _ h)
  | nilIface => exact one _ _ .nilIface
  | tuple xs xs' h1 h3 => exact one _ _ (.tuple _ _ h1 h3)

/-- A value in which no address stands. -/
def plainV : Nat → Value → Bool
  | 0, _ => false
  | n + 1, v => match v with
    | .bool _ | .int _ _ | .float _ _ | .complex _ _ _ | .string _ | .pointer none | .map none | .nilFunc | .nilIface => true
    | .slice none 0 0 => true
    | .agg xs | .tuple xs => xs.toList.all (plainV n)
    | .iface _ v => plainV n v
    | _ => false

theorem VRel.plain (m : LM) : ∀ (n : Nat) (v : Value), plainV n v = true → VRel m v v := by
  intro n
  induction n with
  | zero => intro v h; cases h
  | succ n ih =>
    intro v h
    unfold plainV at h
    split at h
    · exact .bool _
    · exact .int _ _
    · exact .float _ _
    · exact .complex _ _ _
    · exact .string _
    · exact .nilptr
    · exact .nilmap
    · exact .nilFunc
    · exact .nilIface
    · exact .nilslice
    · rw [List.all_eq_true] at h
      exact .agg _ _ rfl fun i x y hx hy => by rw [hx] at hy; cases hy; exact ih x (h x (by simpa using Array.mem_of_getElem? hx))
    · rw [List.all_eq_true] at h
      exact .tuple _ _ rfl fun i x y hx hy => by rw [hx] at hy; cases hy; exact ih x (h x (by simpa using Array.mem_of_getElem? hx))
    · exact .iface _ _ _ (ih _ h)
    · cases h

/-! ### Blocks and heaps -/

inductive Blk where
  | cells (wr : Bool) (esz : Nat) (vs : List Value)
  | map (wr : Bool) (es : List MapEntry) (clock : Nat)
  | iter (o : Obj)                                  -- an iterator over a string, or over a map (its map's number is abstract)
  | loop (st : LoopState) (pending : Option Code) (n : Nat) (sl : List (Nat × Value)) (params : Array Tmp) (assign body : Code)
  | defr (d : Bool)                                 -- the calls deferred in a range over a function: there are none (true), or they have been taken (false)
  | ghost                                           -- an object of which nothing is known (but that it is no row of deferred calls)
  | dead

def Blk.isRw : Blk → Bool
  | .cells wr _ _ => wr
  | .map wr _ _ => wr
  | .ghost => false
  | .dead => false
  | _ => true

def look : List (Nat × Value) → Nat → Option Value
  | [], _ => none
  | (i, v) :: r, s => match Nat.beq i s with
    | true => some v
    | false => look r s

/-- Some slots of a frame are known. -/
def SlRel (m : LM) (sl : List (Nat × Value)) (tmps : Array Value) : Prop := ∀ s v, look sl s = some v → ∃ v', tmps[s]? = some v' ∧ VRel m v v'

def ERel (m : LM) (e e' : MapEntry) : Prop := VRel m e.key e'.key ∧ VRel m e.val e'.val ∧ e.born = e'.born

def BRel (m : LM) (b : Blk) (l : Loc) (w : World) : Prop :=
  match b, l with
  | .cells wr z vs, .cel r sh tot esz => ∃ c e f, w.heap[r]? = some (.cells c e f) ∧ (∀ i v, vs[i]? = some v → ∃ v', c[sh + i]? = some v' ∧ VRel m v v') ∧ (esz = 0 ∨ esz = z) ∧ (wr = true → (∀ j, ¬ (f.1 ≤ j ∧ j < f.2)) ∧ esz = z ∧ 0 < z ∧ tot = c.size)
  | .map _ es clock, .obj r => ∃ es', w.heap[r]? = some (.map es' clock) ∧ es.length = es'.size ∧ ∀ (i : Nat) (e e' : MapEntry), es[i]? = some e → es'[i]? = some e' → ERel m e e'
  | .iter o, .obj r => ∃ o', w.heap[r]? = some o' ∧ match o with
    | .stringIter s p => o' = .stringIter s p
    | .mapIter (some b) since seen stepped => ∃ r', m b = some (.obj r') ∧ o' = .mapIter (some r') since seen stepped
    | .mapIter none since seen stepped => o' = .mapIter none since seen stepped
    | _ => False
  | .loop st pending n sl params assign body, .obj r => ∃ tmps d' fn, w.heap[r]? = some (.loop { state := st, pending, fn, tmps, params, assign, body, defers := d' }) ∧ tmps.size = n ∧ SlRel m sl tmps
  | .defr d, .obj r => w.heap[r]? = some (.deferred (if d then some [] else none))
  | .ghost, .obj r => ∃ o, w.heap[r]? = some o ∧ ∀ x, o ≠ .deferred x
  | _, _ => False

structure HRel (m : LM) (H : List Blk) (w : World) : Prop where
  dom : ∀ i l, m i = some l → i < H.length
  blk : ∀ i l b, m i = some l → l ≠ .dead → H[i]? = some b → BRel m b l w
  dd : ∀ i, m i = some .dead → H[i]? = some .dead
  own : ∀ i j r b, locBlk (m i) = some r → H[i]? = some b → b.isRw = true → locBlk (m j) = some r → i = j

def Wr (m : LM) (H : List Blk) (r : Nat) : Prop := ∃ i b, locBlk (m i) = some r ∧ H[i]? = some b ∧ b.isRw = true

/-- The outside is as it was. -/
structure OutEq (w w' : World) : Prop where
  os : w'.os = w.os
  tape : w'.tape = w.tape
  output : w'.output = w.output
theorem OutEq.refl (w : World) : OutEq w w := ⟨rfl, rfl, rfl⟩
theorem OutEq.trans {a b c : World} (h : OutEq a b) (k : OutEq b c) : OutEq a c := ⟨k.os.trans h.os, k.tape.trans h.tape, k.output.trans h.output⟩

/-- What a piece of code keeps: the first n abstract blocks stay where they are (or die); a real block that was there and is not written to by right is as it was. -/
structure Fr (n : Nat) (m : LM) (H : List Blk) (w : World) (m' : LM) (H' : List Blk) (w' : World) : Prop where
  size : w.heap.size ≤ w'.heap.size
  len : n ≤ H.length → n ≤ H'.length
  base : ∀ i, i < n → ∀ l, m i = some l → m' i = some l ∨ (m' i = some .dead ∧ (∃ r sh tot esz, l = .cel r sh tot esz) ∧ ∃ b, H[i]? = some b ∧ b.isRw = true)
  base' : ∀ i, i < n → m i = none → m' i = none
  rw : ∀ i, i < n → ∀ b', H'[i]? = some b' → b'.isRw = true → ∃ b, H[i]? = some b ∧ b.isRw = true
  keep : ∀ r, r < w.heap.size → ¬ Wr m H r → w'.heap[r]? = w.heap[r]? ∧ ¬ Wr m' H' r
  out : OutEq w w'

theorem Fr.refl (n : Nat) (m : LM) (H : List Blk) (w : World) : Fr n m H w m H w :=
  ⟨Nat.le_refl _, id, fun _ _ _ h => .inl h, fun _ _ h => h, fun _ _ b h k => ⟨b, h, k⟩, fun _ _ h => ⟨rfl, h⟩, .refl _⟩

theorem Fr.trans {n : Nat} {m m1 m2 : LM} {H H1 H2 : List Blk} {w w1 w2 : World} (h : Fr n m H w m1 H1 w1) (k : Fr n m1 H1 w1 m2 H2 w2) : Fr n m H w m2 H2 w2 := by
  refine ⟨Nat.le_trans h.size k.size, k.len ∘ h.len, fun i hi l hl => ?_, fun i hi hl => k.base' i hi (h.base' i hi hl), fun i hi b' hb hr => ?_, fun r hr hw => ?_, h.out.trans k.out⟩
  · rcases h.base i hi l hl with h1 | ⟨h1, h2, h3⟩
    · rcases k.base i hi l h1 with k1 | ⟨k1, k2, b, k3, k4⟩
      · exact .inl k1
      · exact .inr ⟨k1, k2, h.rw i hi b k3 k4⟩
    · rcases k.base i hi _ h1 with k1 | ⟨k1, _, _⟩
      · exact .inr ⟨k1, h2, h3⟩
      · exact .inr ⟨k1, h2, h3⟩
  · obtain ⟨b, k1, k2⟩ := k.rw i hi b' hb hr
    exact h.rw i hi b k1 k2
  · obtain ⟨e1, n1⟩ := h.keep r hr hw
    obtain ⟨e2, n2⟩ := k.keep r (Nat.lt_of_lt_of_le hr h.size) n1
    exact ⟨e2.trans e1, n2⟩

theorem Fr.weaken {n n' : Nat} (hn : n' ≤ n) {m m1 : LM} {H H1 : List Blk} {w w1 : World} (hl : n ≤ H.length) (h : Fr n m H w m1 H1 w1) : Fr n' m H w m1 H1 w1 :=
  ⟨h.size, fun _ => Nat.le_trans hn (h.len hl), fun i hi => h.base i (by omega), fun i hi => h.base' i (by omega), fun i hi => h.rw i (by omega), h.keep, h.out⟩

theorem Fr.le {m m1 : LM} {H H1 : List Blk} {w w1 : World} {n : Nat} (h : Fr n m H w m1 H1 w1) (hd : ∀ i l, m i = some l → i < n) : m.le m1 := fun i l hl => by
  rcases h.base i (hd i l hl) l hl with h1 | ⟨h1, h2, _⟩
  · exact .inl h1
  · exact .inr ⟨h1, h2⟩

theorem SlRel.mono {m m' : LM} (hm : m.le m') {sl : List (Nat × Value)} {t : Array Value} (h : SlRel m sl t) : SlRel m' sl t :=
  fun s v hv => let ⟨v', h1, h2⟩ := h s v hv; ⟨v', h1, h2.mono hm⟩

theorem ERel.mono {m m' : LM} (hm : m.le m') {e e' : MapEntry} (h : ERel m e e') : ERel m' e e' := ⟨h.1.mono hm, h.2.1.mono hm, h.2.2⟩

end Go.Af
