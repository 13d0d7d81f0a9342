/-
  An abstract heap beside the model's world: values with abstract block numbers, and the relation to a real world. No program is in sight.
  The heap's laws: what a load, a store, a new block and an append in place do to the relation.
  Code over the abstract heap: the judgement, and the rules of control.
  The operations over the abstract heap (those that run no code), each with its proof against the model's own.
  The operations, continued: equality, memory, slices, append; 'astep', which says of an operation what it comes to, and its proof.
  The operations that run no code: 'astep' says what each comes to over the abstract heap; 'astep_sound' proves it against the model.
  'astep' is sound: part 1, the lemmas.
  'astep' is sound, part 2: append.
  'astep' is sound, part 3: append put together.
-/
import Derived.Control
import Derived.Calls
import Derived.Laws.Sem
import Derived.Laws.Append
set_option linter.all false
namespace Go.Af
open Go

inductive Loc where
 | cel (r sh tot esz:Nat)
 | obj (r:Nat)
 | dead

def vI:Option Loc->Option Nat
 | some (.cel r _ _ _)=>some r
 | some (.obj r)=>some r
 | _=>none

abbrev LM:=Nat->Option Loc

inductive FnRel (m:LM):Fn->Fn->Prop
 | same (f:Fn) (h : ∀ l,f ≠ .yield l):FnRel m f f
 | yield (b r:Nat) (h:m b=some (.obj r)):FnRel m (.yield b) (.yield r)

inductive VRel (m:LM):Value->Value->Prop
 | bool (b:Bool):VRel m (.bool b) (.bool b)
 | int (k:IntKind) (n:Int):VRel m (.int k n) (.int k n)
 | float (k:FloatKind) (b:Nat):VRel m (.float k b) (.float k b)
 | complex (k:FloatKind) (a b:Nat):VRel m (.complex k a b) (.complex k a b)
 | string (s:ByteArray):VRel m (.string s) (.string s)
 | nilptr:VRel m (.pointer none) (.pointer none)
 | ptr (b o r sh tot esz:Nat) (h:m b=some (.cel r sh tot esz)):VRel m (.pointer (some ⟨b,o,none⟩)) (.pointer (some ⟨r,sh+o,none⟩))
 | ptrDead (b o:Nat) (a:Addr) (h:m b=some .dead):VRel m (.pointer (some ⟨b,o,none⟩)) (.pointer (some a))
 | itr (b r:Nat) (h:m b=some (.obj r)):VRel m (.pointer (some ⟨b,0,some 0⟩)) (.pointer (some ⟨r,0,none⟩))
 | nilslice:VRel m (.slice none 0 0) (.slice none 0 0)
 | slice (b o r sh tot esz l c c' : Nat) (h:m b=some (.cel r sh tot esz)) (hc:c<=c') (hl:esz=0\/sh+o+c' * esz<=tot):VRel m (.slice (some ⟨b,o,none⟩) l c) (.slice (some ⟨r,sh+o,none⟩) l c')
 | sliceZero (b o:Nat) (a:Option Addr):VRel m (.slice (some ⟨b,o,none⟩) 0 0) (.slice a 0 0)
 | sliceDead (b o l c c' : Nat) (a:Option Addr) (h:m b=some .dead) (hc:c<=c'):VRel m (.slice (some ⟨b,o,none⟩) l c) (.slice a l c')
 | sliceEmpty (b o:Nat) (s:Nat) (a:Option Addr):VRel m (.slice (some ⟨b,o,some s⟩) 0 0) (.slice a 0 0)
 | nilmap:VRel m (.map none) (.map none)
 | map (b r:Nat) (h:m b=some (.obj r)):VRel m (.map (some b)) (.map (some r))
 | func (f f' : Fn) (xs ys xs' ys' : Array Value) (hf:FnRel m f f') (h1:xs.size=xs'.size) (h2:ys.size=ys'.size)
    (h3 : ∀ (i:Nat) (x x' : Value),xs[i]? = some x->xs'[i]? = some x' -> VRel m x x') (h4 : ∀ (i:Nat) (x x' : Value),ys[i]? = some x->ys'[i]? = some x' -> VRel m x x') :
    VRel m (.func f xs ys) (.func f' xs' ys')
 | nilFunc:VRel m .nilFunc .nilFunc
 | iface (t:TypeId) (v v' : Value) (h:VRel m v v'):VRel m (.iface t v) (.iface t v')
 | nilIface:VRel m .nilIface .nilIface
 | agg (xs xs' : Array Value) (h1:xs.size=xs'.size) (h3 : ∀ (i:Nat) (x x' : Value),xs[i]? = some x->xs'[i]? = some x' -> VRel m x x'):VRel m (.agg xs) (.agg xs')
 | tuple (xs xs' : Array Value) (h1:xs.size=xs'.size) (h3 : ∀ (i:Nat) (x x' : Value),xs[i]? = some x->xs'[i]? = some x' -> VRel m x x'):VRel m (.tuple xs) (.tuple xs')

def LRel (m:LM) (xs ys:List Value):Prop:=xs.length=ys.length/\∀ (i:Nat) (x y:Value),xs[i]? = some x->ys[i]? = some y->VRel m x y

def zx0 (l:Loc) (o:Option Loc):Prop:=o=some l\/(o=some .dead/\∃ r sh tot esz,l = .cel r sh tot esz)
def LM.le (m m' : LM):Prop := ∀ i l,m i=some l->zx0 l (m' i)

theorem zx0.dead {o:Option Loc} (h:zx0 .dead o):o=some .dead:=h.elim id fun h=>h.1
theorem zx0.obj {r:Nat} {o:Option Loc} (h:zx0 (.obj r) o):o=some (.obj r):=h.elim id fun h=>by obtain ⟨_,_,_,_,_,e⟩:=h;cases e
theorem LM.le.refl (m:LM):m.le m:=fun _ _ h=>.inl h
theorem LM.le.trans {a b c:LM} (h:a.le b) (k:b.le c):a.le c:=fun i l hi=>by
 rcases h i l hi with h1 | ⟨h1,h2⟩
 ·exact k i l h1
 ·exact .inr ⟨(k i _ h1).dead,h2⟩

theorem FnRel.mono {m m' : LM} (hm:m.le m') {f f' : Fn} (h:FnRel m f f'):FnRel m' f f' := by
 cases h with
 | same f h=>exact .same _ h
 | yield b r h=>exact .yield b r (hm _ _ h).obj

theorem VRel.mono {m m' : LM} (hm:m.le m') {v v' : Value} (h:VRel m v v'):VRel m' v v' := by
 induction h with
 | bool=>exact .bool _
 | int=>exact .int _ _
 | float=>exact .float _ _
 | complex=>exact .complex _ _ _
 | string=>exact .string _
 | nilptr=>exact .nilptr
 | ptr b o r sh tot esz h=>rcases hm _ _ h with h1 | ⟨h1,_⟩;exact .ptr b o r sh tot esz h1;exact .ptrDead _ _ _ h1
 | ptrDead b o a h=>exact .ptrDead _ _ _ (hm _ _ h).dead
 | itr b r h=>exact .itr b r (hm _ _ h).obj
 | nilslice=>exact .nilslice
 | slice b o r sh tot esz l c c' h hc hl=>rcases hm _ _ h with h1 | ⟨h1,_⟩;exact .slice b o r sh tot esz l c c' h1 hc hl;exact .sliceDead _ _ _ _ _ _ h1 hc
 | sliceZero=>exact .sliceZero _ _ _
 | sliceDead b o l c c' a h hc=>exact .sliceDead _ _ _ _ _ _ (hm _ _ h).dead hc
 | sliceEmpty=>exact .sliceEmpty _ _ _ _
 | nilmap=>exact .nilmap
 | map b r h=>exact .map b r (hm _ _ h).obj
 | func f f' xs ys xs' ys' hf h1 h2 _ _ ih3 ih4=>exact .func _ _ _ _ _ _ (hf.mono hm) h1 h2 ih3 ih4
 | nilFunc=>exact .nilFunc
 | iface t v v' _ ih=>exact .iface _ _ _ ih
 | nilIface=>exact .nilIface
 | agg xs xs' h1 _ ih=>exact .agg _ _ h1 ih
 | tuple xs xs' h1 _ ih=>exact .tuple _ _ h1 ih

theorem LRel.mono {m m' : LM} (hm:m.le m') {xs ys:List Value} (h:LRel m xs ys):LRel m' xs ys :=
 ⟨h.1,fun i x y hx hy=>(h.2 i x y hx hy).mono hm⟩
theorem LRel.nil (m:LM):LRel m [] []:=⟨rfl,fun i x y hx=>by simp at hx⟩
theorem LRel.cons {m:LM} {x y:Value} {xs ys:List Value} (h:VRel m x y) (hs:LRel m xs ys):LRel m (x::xs) (y::ys):=by
 refine⟨by simp[hs.1],fun i a b ha hb=>?_⟩
 cases i with
 | zero=>simp at ha hb;subst ha;subst hb;exact h
 | succ i=>simp at ha hb;exact hs.2 i a b ha hb
theorem LRel.inv_cons {m:LM} {x:Value} {xs ys:List Value} (h:LRel m (x::xs) ys) : ∃ y ys',ys=y::ys' /\ VRel m x y/\LRel m xs ys' := by
 cases ys with
 | nil=>have:=h.1;simp at this
 | cons y ys' => exact⟨y,ys',rfl,h.2 0 x y rfl rfl,by have:=h.1;simpa using this,fun i a b ha hb=>h.2 (i+1) a b (by simpa using ha) (by simpa using hb)⟩
theorem LRel.inv_nil {m:LM} {ys:List Value} (h:LRel m [] ys):ys = []:=by cases ys with | nil=>rfl | cons y ys=>have:=h.1;simp at this
theorem LRel.append {m:LM} {xs ys xs' ys' : List Value} (h:LRel m xs ys) (h' : LRel m xs' ys'):LRel m (xs++xs') (ys++ys'):=by
 refine⟨by simp[h.1,h'.1],fun i a b ha hb=>?_⟩;rw[List.getElem?_append] at ha hb;have e:=h.1;split at ha
 ·rw[if_pos (by omega)] at hb;exact h.2 i a b ha hb
 ·rw[if_neg (by omega)] at hb;rw[e] at ha;exact h'.2 _ a b ha hb
theorem LRel.get {m:LM} {xs ys:List Value} (h:LRel m xs ys) {i:Nat} {x:Value} (hx:xs[i]? = some x) : ∃ y,ys[i]? = some y/\VRel m x y:=by
 have hi:i<xs.length:=by
  rcases Nat.lt_or_ge i xs.length with h1 | h1
  ·exact h1
  ·rw[List.getElem?_eq_none h1] at hx;cases hx
 exact⟨ys[i]'(h.1 ▸ hi),List.getElem?_eq_getElem _,h.2 i x _ hx (List.getElem?_eq_getElem _)⟩
theorem LRel.set {m:LM} {xs ys:List Value} (h:LRel m xs ys) (i:Nat) {x y:Value} (hv:VRel m x y):LRel m (xs.set i x) (ys.set i y):=by
 refine⟨by simp[h.1],fun j a b ha hb=>?_⟩;rw[List.getElem?_set] at ha hb;have e:=h.1;by_cases hij:i=j
 ·subst hij
  by_cases hl:i<xs.length
  ·simp[hl] at ha;simp[e ▸ hl] at hb;subst ha;subst hb;exact hv
  ·simp[hl] at ha
 ·simp[hij] at ha hb;exact h.2 j a b ha hb
theorem LRel.take {m:LM} {xs ys:List Value} (h:LRel m xs ys) (n:Nat):LRel m (xs.take n) (ys.take n):=by
 refine⟨by simp[h.1],fun i a b ha hb=>?_⟩;rw[List.getElem?_take] at ha hb;split at ha
 ·rename_i hl;rw[if_pos hl] at hb;exact h.2 i a b ha hb
 ·cases ha
theorem LRel.drop {m:LM} {xs ys:List Value} (h:LRel m xs ys) (n:Nat):LRel m (xs.drop n) (ys.drop n):=by
 refine⟨by simp[h.1],fun i a b ha hb=>?_⟩;rw[List.getElem?_drop] at ha hb;exact h.2 _ a b ha hb
theorem VRel.agg' {m:LM} {xs ys:Array Value} (h:LRel m xs.toList ys.toList):VRel m (.agg xs) (.agg ys) :=
 .agg _ _ (by simpa using h.1) (fun i x y hx hy=>h.2 i x y (by simpa using hx) (by simpa using hy))
theorem VRel.tuple' {m:LM} {xs ys:Array Value} (h:LRel m xs.toList ys.toList):VRel m (.tuple xs) (.tuple ys) :=
 .tuple _ _ (by simpa using h.1) (fun i x y hx hy=>h.2 i x y (by simpa using hx) (by simpa using hy))
theorem VRel.inv_agg {m:LM} {xs:Array Value} {v:Value} (h:VRel m (.agg xs) v) : ∃ ys,v = .agg ys/\LRel m xs.toList ys.toList:=by
 cases h with
 | agg _ ys h1 h3=>exact⟨ys,rfl,by simpa using h1,fun i x y hx hy=>h3 i x y (by simpa using hx) (by simpa using hy)⟩
theorem VRel.inv_tuple {m:LM} {xs:Array Value} {v:Value} (h:VRel m (.tuple xs) v) : ∃ ys,v = .tuple ys/\LRel m xs.toList ys.toList:=by
 cases h with
 | tuple _ ys h1 h3=>exact⟨ys,rfl,by simpa using h1,fun i x y hx hy=>h3 i x y (by simpa using hx) (by simpa using hy)⟩
theorem VRel.inv_func {m:LM} {f:Fn} {xs ys:Array Value} {v:Value} (h:VRel m (.func f xs ys) v) :
 ∃ f' xs' ys',v = .func f' xs' ys' /\ FnRel m f f' /\ LRel m xs.toList xs'.toList/\LRel m ys.toList ys'.toList:=by
 cases h with
 | func _ f' _ _ xs' ys' hf h1 h2 h3 h4 =>
   exact⟨f',xs',ys',rfl,hf,⟨by simpa using h1,fun i x y hx hy=>h3 i x y (by simpa using hx) (by simpa using hy)⟩,⟨by simpa using h2,fun i x y hx hy=>h4 i x y (by simpa using hx) (by simpa using hy)⟩⟩
theorem VRel.func' {m:LM} {f f' : Fn} {xs ys xs' ys' : Array Value} (hf:FnRel m f f') (h1:LRel m xs.toList xs'.toList) (h2:LRel m ys.toList ys'.toList):VRel m (.func f xs ys) (.func f' xs' ys') :=
 .func _ _ _ _ _ _ hf (by simpa using h1.1) (by simpa using h2.1) (fun i x y hx hy=>h1.2 i x y (by simpa using hx) (by simpa using hy)) (fun i x y hx hy=>h2.2 i x y (by simpa using hx) (by simpa using hy))

def qG:Value->List Value
 | .agg cs=>cs.toList
 | v=>[v]

theorem VRel.cells {m:LM} {v v' : Value} (h:VRel m v v'):LRel m (qG v) v'.cells.toList:=by
 have one : ∀ x y:Value,VRel m x y->LRel m [x] [y]:=fun x y h=>.cons h (.nil m)
 cases h with
 | agg xs xs' h1 h3=>exact⟨by simpa [qG,Value.cells] using h1,fun i x y hx hy=>h3 i x y (by simpa [qG] using hx) (by simpa [Value.cells] using hy)⟩
 | bool=>exact one _ _ (.bool _)
 | int=>exact one _ _ (.int _ _)
 | float=>exact one _ _ (.float _ _)
 | complex=>exact one _ _ (.complex _ _ _)
 | string=>exact one _ _ (.string _)
 | nilptr=>exact one _ _ .nilptr
 | ptr b o r sh tot esz h=>exact one _ _ (.ptr b o r sh tot esz h)
 | ptrDead b o a h=>exact one _ _ (.ptrDead b o a h)
 | itr b r h=>exact one _ _ (.itr b r h)
 | nilslice=>exact one _ _ .nilslice
 | slice b o r sh tot esz l c c' h hc hl=>exact one _ _ (.slice b o r sh tot esz l c c' h hc hl)
 | sliceZero=>exact one _ _ (.sliceZero _ _ _)
 | sliceDead b o l c c' a h hc=>exact one _ _ (.sliceDead _ _ _ _ _ _ h hc)
 | sliceEmpty=>exact one _ _ (.sliceEmpty _ _ _ _)
 | nilmap=>exact one _ _ .nilmap
 | map b r h=>exact one _ _ (.map b r h)
 | func f f' xs ys xs' ys' hf h1 h2 h3 h4=>exact one _ _ (.func _ _ _ _ _ _ hf h1 h2 h3 h4)
 | nilFunc=>exact one _ _ .nilFunc
 | iface t v v' h=>exact one _ _ (.iface _ _ _ h)
 | nilIface=>exact one _ _ .nilIface
 | tuple xs xs' h1 h3=>exact one _ _ (.tuple _ _ h1 h3)

def wS:Nat->Value->Bool
 | 0,_=>false
 | n+1,v=>match v with
   | .bool _ | .int _ _ | .float _ _ | .complex _ _ _ | .string _ | .pointer none | .map none | .nilFunc | .nilIface=>true
   | .slice none 0 0=>true
   | .agg xs | .tuple xs=>xs.toList.all (wS n)
   | .iface _ v=>wS n v
   | _=>false

theorem VRel.plain (m:LM) : ∀ (n:Nat) (v:Value),wS n v=true->VRel m v v:=by
 intro n
 induction n with
 | zero=>intro v h;cases h
 | succ n ih =>
   intro v h;unfold wS at h;split at h
   ·exact .bool _
   ·exact .int _ _
   ·exact .float _ _
   ·exact .complex _ _ _
   ·exact .string _
   ·exact .nilptr
   ·exact .nilmap
   ·exact .nilFunc
   ·exact .nilIface
   ·exact .nilslice
   ·rw[List.all_eq_true] at h
    exact .agg _ _ rfl fun i x y hx hy=>by rw[hx] at hy;cases hy;exact ih x (h x (by simpa using Array.mem_of_getElem? hx))
   ·rw[List.all_eq_true] at h
    exact .tuple _ _ rfl fun i x y hx hy=>by rw[hx] at hy;cases hy;exact ih x (h x (by simpa using Array.mem_of_getElem? hx))
   ·exact .iface _ _ _ (ih _ h)
   ·cases h

/-! ### Blocks and heaps -/

inductive Blk where
 | cells (wr:Bool) (esz:Nat) (vs:List Value)
 | map (wr:Bool) (es:List MapEntry) (clock:Nat)
 | iter (o:Obj)                                  -- an iterator over a string,or over a map (its map's number is abstract)
 | loop (st:LoopState) (pending:Option Code) (n:Nat) (sl:List (Nat × Value)) (params:Array Tmp) (assign body:Code)
 | defr (d:Bool)                                 -- the calls deferred in a range over a function: there are none (true),or they have been taken (false)
 | ghost                                           -- an object of which nothing is known (but that it is no row of deferred calls)
 | dead

def Blk.isRw:Blk->Bool
 | .cells wr _ _=>wr
 | .map wr _ _=>wr
 | .ghost=>false
 | .dead=>false
 | _=>true

def look:List (Nat × Value)->Nat->Option Value
 | [],_=>none
 | (i,v)::r,s=>match Nat.beq i s with
   | true=>some v
   | false=>look r s

def zx (m:LM) (sl:List (Nat × Value)) (tmps:Array Value):Prop := ∀ s v,look sl s=some v->∃ v',tmps[s]? = some v' /\ VRel m v v'

def ERel (m:LM) (e e' : MapEntry):Prop:=VRel m e.key e'.key/\VRel m e.val e'.val/\e.born=e'.born

def BRel (m:LM) (b:Blk) (l:Loc) (w:World):Prop :=
 match b,l with
 | .cells wr z vs, .cel r sh tot esz => ∃ c e f,w.heap[r]? = some (.cells c e f)/\(∀ i v,vs[i]? = some v->∃ v',c[sh+i]? = some v' /\ VRel m v v')/\(esz=0\/esz=z)/\(wr=true->(∀ j, ¬ (f.1<=j/\j<f.2))/\esz=z/\0<z/\tot=c.size)
 | .map _ es clock, .obj r => ∃ es',w.heap[r]? = some (.map es' clock)/\es.length=es'.size/\∀ (i:Nat) (e e' : MapEntry),es[i]? = some e->es'[i]? = some e' -> ERel m e e'
 | .iter o, .obj r => ∃ o',w.heap[r]? = some o' /\ match o with
   | .stringIter s p=>o' = .stringIter s p
   | .mapIter (some b) since seen stepped => ∃ r',m b=some (.obj r')/\o' = .mapIter (some r') since seen stepped
   | .mapIter none since seen stepped=>o' = .mapIter none since seen stepped
   | _=>False
 | .loop st pending n sl params assign body, .obj r => ∃ tmps d' fn,w.heap[r]? = some (.loop { state:=st,pending,fn,tmps,params,assign,body,defers:=d' })/\tmps.size=n/\zx m sl tmps
 | .defr d, .obj r=>w.heap[r]? = some (.deferred (if d then some [] else none))
 | .ghost, .obj r => ∃ o,w.heap[r]? = some o/\∀ x,o ≠ .deferred x
 | _,_=>False

structure HRel (m:LM) (H:List Blk) (w:World):Prop where
 dom : ∀ i l,m i=some l->i<H.length
 blk : ∀ i l b,m i=some l->l ≠ .dead->H[i]? = some b->BRel m b l w
 dd : ∀ i,m i=some .dead->H[i]? = some .dead
 own : ∀ i j r b,vI (m i)=some r->H[i]? = some b->b.isRw=true->vI (m j)=some r->i=j

def Wr (m:LM) (H:List Blk) (r:Nat):Prop := ∃ i b,vI (m i)=some r/\H[i]? = some b/\b.isRw=true

structure OutEq (w w' : World):Prop where
 os:w'.os=w.os
 tape:w'.tape=w.tape
 output:w'.output=w.output
 drawn:w.drawn<=w'.drawn
theorem OutEq.refl (w:World):OutEq w w:=⟨rfl,rfl,rfl,Nat.le_refl _⟩
theorem OutEq.trans {a b c:World} (h:OutEq a b) (k:OutEq b c):OutEq a c:=⟨k.os.trans h.os,k.tape.trans h.tape,k.output.trans h.output,Nat.le_trans h.drawn k.drawn⟩

structure Fr (n:Nat) (m:LM) (H:List Blk) (w:World) (m' : LM) (H' : List Blk) (w' : World):Prop where
 size:w.heap.size<=w'.heap.size
 len:n<=H.length->n<=H'.length
 base : ∀ i,i<n->∀ l,m i=some l->m' i=some l\/(m' i=some .dead/\(∃ r sh tot esz,l = .cel r sh tot esz)/\∃ b,H[i]? = some b/\b.isRw=true)
 base' : ∀ i,i<n->m i=none->m' i=none
 rw : ∀ i,i<n->∀ b',H'[i]? = some b' -> b'.isRw=true->∃ b,H[i]? = some b/\b.isRw=true
 keep : ∀ r,r<w.heap.size->¬ Wr m H r->w'.heap[r]? = w.heap[r]? /\ ¬ Wr m' H' r
 out:OutEq w w'

theorem Fr.refl (n:Nat) (m:LM) (H:List Blk) (w:World):Fr n m H w m H w :=
 ⟨Nat.le_refl _,id,fun _ _ _ h=>.inl h,fun _ _ h=>h,fun _ _ b h k=>⟨b,h,k⟩,fun _ _ h=>⟨rfl,h⟩, .refl _⟩

theorem Fr.trans {n:Nat} {m m1 m2:LM} {H H1 H2:List Blk} {w w1 w2:World} (h:Fr n m H w m1 H1 w1) (k:Fr n m1 H1 w1 m2 H2 w2):Fr n m H w m2 H2 w2:=by
 refine⟨Nat.le_trans h.size k.size,k.len ∘ h.len,fun i hi l hl=>?_,fun i hi hl=>k.base' i hi (h.base' i hi hl),fun i hi b' hb hr=>?_,fun r hr hw=>?_,h.out.trans k.out⟩
 ·rcases h.base i hi l hl with h1 | ⟨h1,h2,h3⟩
  ·rcases k.base i hi l h1 with k1 | ⟨k1,k2,b,k3,k4⟩
   ·exact .inl k1
   ·exact .inr ⟨k1,k2,h.rw i hi b k3 k4⟩
  ·rcases k.base i hi _ h1 with k1 | ⟨k1,_,_⟩
   ·exact .inr ⟨k1,h2,h3⟩
   ·exact .inr ⟨k1,h2,h3⟩
 ·obtain ⟨b,k1,k2⟩:=k.rw i hi b' hb hr
  exact h.rw i hi b k1 k2
 ·obtain ⟨e1,n1⟩:=h.keep r hr hw
  obtain ⟨e2,n2⟩:=k.keep r (Nat.lt_of_lt_of_le hr h.size) n1;exact⟨e2.trans e1,n2⟩

theorem Fr.weaken {n n' : Nat} (hn:n' <= n) {m m1:LM} {H H1:List Blk} {w w1:World} (hl:n<=H.length) (h:Fr n m H w m1 H1 w1):Fr n' m H w m1 H1 w1 :=
 ⟨h.size,fun _=>Nat.le_trans hn (h.len hl),fun i hi=>h.base i (by omega),fun i hi=>h.base' i (by omega),fun i hi=>h.rw i (by omega),h.keep,h.out⟩

theorem Fr.le {m m1:LM} {H H1:List Blk} {w w1:World} {n:Nat} (h:Fr n m H w m1 H1 w1) (hd : ∀ i l,m i=some l->i<n):m.le m1:=fun i l hl=>by
 rcases h.base i (hd i l hl) l hl with h1 | ⟨h1,h2,_⟩
 ·exact .inl h1
 ·exact .inr ⟨h1,h2⟩

theorem zx.mono {m m' : LM} (hm:m.le m') {sl:List (Nat × Value)} {t:Array Value} (h:zx m sl t):zx m' sl t :=
 fun s v hv=>let ⟨v',h1,h2⟩:=h s v hv; ⟨v',h1,h2.mono hm⟩

theorem ERel.mono {m m' : LM} (hm:m.le m') {e e' : MapEntry} (h:ERel m e e'):ERel m' e e' := ⟨h.1.mono hm,h.2.1.mono hm,h.2.2⟩

end Go.Af
namespace Go.Af
open Go
variable {H:List Blk}

theorem BRel.mono {m m' : LM} (hm:m.le m') {b:Blk} {l:Loc} {w:World} (h:BRel m b l w):BRel m' b l w:=by
 unfold BRel at h ⊢;split at h
 ·obtain ⟨c,e,f,h1,h2,h3,h4⟩:=h
  exact⟨c,e,f,h1,fun i v hv=>let ⟨v',a,b⟩:=h2 i v hv; ⟨v',a,b.mono hm⟩,h3,h4⟩
 ·obtain ⟨es',h1,h2,h3⟩:=h
  exact⟨es',h1,h2,fun i e e' he he' => (h3 i e e' he he').mono hm⟩
 ·rename_i o r
  obtain ⟨o',h1,h2⟩:=h;refine⟨o',h1, ?_⟩;cases o <;> try exact h2
  rename_i mp since seen stepped
  cases mp with
  | none=>exact h2
  | some b =>
    obtain ⟨r',hb,e⟩:=h2;exact⟨r',(hm _ _ hb).obj,e⟩
 ·obtain ⟨tmps,d',fn,h1,h2,h3⟩:=h
  exact⟨tmps,d',fn,h1,h2,h3.mono hm⟩
 ·exact h
 ·exact h
 ·exact h.elim

theorem BRel.same {m:LM} {b:Blk} {l:Loc} {w w' : World} (hs : ∀ r,vI (some l)=some r->w'.heap[r]? = w.heap[r]?) (h:BRel m b l w):BRel m b l w' := by
 cases l with
 | cel r sh tot esz=>have:=hs r rfl;cases b <;> simp only[BRel,this] at h ⊢ <;> exact h
 | obj r=>have:=hs r rfl;cases b <;> simp only[BRel,this] at h ⊢ <;> exact h
 | dead=>cases b <;> exact h.elim

theorem BRel.lt {m:LM} {b:Blk} {l:Loc} {w:World} {r:Nat} (h:BRel m b l w) (hr:vI (some l)=some r):r<w.heap.size:=by
 have key : ∀ o,w.heap[r]? = some o->r<w.heap.size:=fun o ho=>(Array.getElem?_eq_some_iff.1 ho).1
 unfold BRel at h;split at h <;> simp only[vI,Option.some.injEq] at hr <;> (try subst hr)
 ·obtain ⟨c,e,f,h1,_⟩:=h;exact key _ h1
 ·obtain ⟨es',h1,_⟩:=h;exact key _ h1
 ·obtain ⟨o',h1,_⟩:=h;exact key _ h1
 ·obtain ⟨tmps,d',fn,h1,_⟩:=h;exact key _ h1
 ·exact key _ h
 ·obtain ⟨o,h1,_⟩:=h;exact key _ h1
 ·exact h.elim

theorem HRel.get {m:LM} {w:World} (h:HRel m H w) {i:Nat} {l:Loc} (hi:m i=some l) (hl:l ≠ .dead) : ∃ b,H[i]? = some b/\BRel m b l w:=by
 have:=h.dom i _ hi;exact⟨_,List.getElem?_eq_getElem this,h.blk i l _ hi hl (List.getElem?_eq_getElem this)⟩

theorem vF {o:Option Loc} {r:Nat} (h:vI o=some r) : ∃ l,o=some l/\l ≠ .dead/\vI (some l)=some r:=by
 unfold vI at h;split at h
 ·rename_i a b c d;exact⟨.cel a b c d,rfl,by simp,h⟩
 ·rename_i a;exact⟨.obj a,rfl,by simp,h⟩
 ·cases h

theorem HRel.lt {m:LM} {w:World} (h:HRel m H w) {i r:Nat} (hi:vI (m i)=some r):r<w.heap.size:=by
 obtain ⟨l,h1,h2,h3⟩:=vF hi;obtain ⟨b,_,hb⟩:=h.get h1 h2;exact hb.lt h3

theorem HRel.cells {m:LM} {w:World} (h:HRel m H w) {i r sh tot esz:Nat} (hi:m i=some (.cel r sh tot esz)) {wr:Bool} {z:Nat} {vs:List Value} (hb:H[i]? = some (.cells wr z vs)) :
 ∃ c e f,w.heap[r]? = some (.cells c e f)/\(∀ i v,vs[i]? = some v->∃ v',c[sh+i]? = some v' /\ VRel m v v')/\(esz=0\/esz=z)/\(wr=true->(∀ j, ¬ (f.1<=j/\j<f.2))/\esz=z/\0<z/\tot=c.size):=h.blk i _ _ hi (by simp) hb

theorem HRel.same {m:LM} {w w' : World} (h:HRel m H w) (hs : ∀ i r,vI (m i)=some r->w'.heap[r]? = w.heap[r]?):HRel m H w' :=
 ⟨h.dom,fun i l b hi hl hb=>(h.blk i l b hi hl hb).same (fun r hr=>hs i r (by rw[hi];exact hr)),h.dd,h.own⟩

theorem HRel.drawn {m:LM} {w:World} (h:HRel m H w) (n:Nat):HRel m H { w with drawn:=n }:=h.same fun _ _ _=>rfl

theorem Fr.drawn {n:Nat} {m:LM} {w:World} (k:Nat) (hk:w.drawn<=k:=by first | exact Nat.le_refl _ | exact Nat.le_succ _ | assumption):Fr n m H w m H { w with drawn:=k } :=
 ⟨Nat.le_refl _,id,fun _ _ _ h=>.inl h,fun _ _ h=>h,fun _ _ b h k=>⟨b,h,k⟩,fun _ _ h=>⟨rfl,h⟩,⟨rfl,rfl,rfl,hk⟩⟩

def LM.put (m:LM) (i:Nat) (l:Loc):LM:=fun j=>if j=i then some l else m j
@[simp] theorem LM.put_self (m:LM) (i:Nat) (l:Loc):m.put i l i=some l:=by simp[LM.put]
theorem LM.put_ne (m:LM) {i j:Nat} (l:Loc) (h:j≠i):m.put i l j=m j:=by simp[LM.put,h]
theorem LM.le_put {m:LM} {i:Nat} {l:Loc} (h:m i=none):m.le (m.put i l):=fun j l' hj=>by
 by_cases e:j=i
 ·subst e;rw[h] at hj;cases hj
 ·exact .inl (by rw[LM.put_ne m l e];exact hj)
theorem LM.le_kill {m:LM} {i:Nat} (h : ∀ l,m i=some l->l = .dead\/∃ r sh tot esz,l = .cel r sh tot esz):m.le (m.put i .dead):=fun j l' hj=>by
 by_cases e:j=i
 ·subst e
  rw[LM.put_self];rcases h _ hj with h1 | h1
  ·exact .inl (by rw[h1])
  ·exact .inr ⟨rfl,h1⟩
 ·exact .inl (by rw[LM.put_ne m _ e];exact hj)

theorem HRel.none_len {m:LM} {w:World} (h:HRel m H w):m H.length=none:=by
 cases e:m H.length with
 | none=>rfl
 | some l=>exact absurd (h.dom _ _ e) (Nat.lt_irrefl _)

/-! ### A new block -/

theorem zl {w:World} {o:Obj} {r:Nat} (h:r<w.heap.size):({ w with heap:=w.heap.push o }:World).heap[r]? = w.heap[r]? := by
 show (w.heap.push o)[r]? = w.heap[r]?;rw[Array.getElem?_push];split
 ·omega
 ·rfl

theorem HRel.alloc {m:LM} {w:World} (h:HRel m H w) {b:Blk} {o:Obj} {l:Loc} (hl:vI (some l)=some w.heap.size)
 (hb:BRel (m.put H.length l) b l { w with heap:=w.heap.push o }) :
 HRel (m.put H.length l) (H ++ [b]) { w with heap:=w.heap.push o }:=by
 have hn:=h.none_len;refine⟨fun i l' hi=>?_,fun i l' b' hi hd hb' => ?_,fun i hi=>?_,fun i j r b' hi hb' hw hj=>?_⟩
 ·by_cases e:i=H.length
  ·subst e;simp
  ·rw[LM.put_ne m _ e] at hi;have:=h.dom i _ hi;simp;omega
 ·by_cases e:i=H.length
  ·subst e
   rw[LM.put_self] at hi;cases hi;rw[List.getElem?_append_right (Nat.le_refl _)] at hb'; simp at hb'; subst hb';exact hb
  ·rw[LM.put_ne m _ e] at hi
   have hl:=h.dom i _ hi;rw[List.getElem?_append_left hl] at hb';exact ((h.blk i l' b' hi hd hb').mono (LM.le_put hn)).same (fun r hr=>zl (h.lt (i:=i) (by rw[hi];exact hr)))
 ·by_cases e:i=H.length
  ·subst e;rw[LM.put_self] at hi;cases hi;cases hl
  ·rw[LM.put_ne m _ e] at hi
   have:=h.dd i hi
   rwa [List.getElem?_append_left (h.dom i _ hi)]
 ·by_cases e:i=H.length
  ·subst e
   rw[LM.put_self,hl] at hi;cases hi;by_cases e' : j=H.length
   ·exact e'.symm
   ·rw[LM.put_ne m _ e'] at hj;exact absurd (h.lt hj) (Nat.lt_irrefl _)
  ·rw[LM.put_ne m _ e] at hi
   by_cases e' : j=H.length
   ·subst e'; rw[LM.put_self,hl] at hj;cases hj;exact absurd (h.lt hi) (Nat.lt_irrefl _)
   ·rw[LM.put_ne m _ e'] at hj
    obtain ⟨l',h1,_⟩:=vF hi;rw[List.getElem?_append_left (h.dom i _ h1)] at hb';exact h.own i j r b' hi hb' hw hj

theorem Fr.alloc {m:LM} {w:World} (h:HRel m H w) (b:Blk) (o:Obj) {l:Loc} (hl:vI (some l)=some w.heap.size) :
 Fr H.length m H w (m.put H.length l) (H ++ [b]) { w with heap:=w.heap.push o }:=by
 refine⟨by simp,fun _=>by simp,fun i hi l hl=>.inl (by rw[LM.put_ne m _ (by omega)];exact hl),fun i hi hl=>by rw[LM.put_ne m _ (by omega)];exact hl,fun i hi b' hb' hr' => ⟨b',by rwa [List.getElem?_append_left hi] at hb',hr'⟩,fun r hr hw=>⟨zl hr,fun ⟨i,b',h1,h2,h3⟩=>?_⟩,⟨rfl,rfl,rfl,by first | exact Nat.le_refl _ | exact Nat.le_succ _ | (simp;done) | (simp;omega)⟩⟩;by_cases e:i=H.length
 ·subst e;rw[LM.put_self,hl] at h1;cases h1;exact absurd hr (Nat.lt_irrefl _)
 ·rw[LM.put_ne m _ e] at h1
  obtain ⟨l',k1,_⟩:=vF h1;rw[List.getElem?_append_left (h.dom i _ k1)] at h2;exact hw ⟨i,b',h1,h2,h3⟩

/-! ### Cells -/

theorem HRel.cell {m:LM} {w:World} (h:HRel m H w) {i r sh tot esz:Nat} (hi:m i=some (.cel r sh tot esz)) {wr:Bool} {z:Nat} {vs:List Value} (hb:H[i]? = some (.cells wr z vs))
 {o:Nat} {v:Value} (hv:vs[o]? = some v) : ∃ v',w.cell? ⟨r,sh+o,none⟩=some v' /\ VRel m v v' := by
 obtain ⟨c,e,f,h1,h2,_,h3⟩:=h.cells hi hb;obtain ⟨v',h4,h5⟩:=h2 o v hv;exact⟨v',by simp[World.cell?,h1,h4],h5⟩

theorem addr_add (r o n:Nat):(⟨r,o,none⟩:Addr).add n=⟨r,o+n,none⟩:=by
 unfold Addr.add;split
 ·rename_i h;subst h;rfl
 ·rfl

theorem run_loadCellsFrom {P:Program} {m:LM} {w:World} (h:HRel m H w) {b r sh tot esz:Nat} (hb:m b=some (.cel r sh tot esz)) {wr:Bool} {z:Nat} {vs:List Value} (hB:H[b]? = some (.cells wr z vs)) (o:Nat) :
 ∀ (n i:Nat) (acc:Array Value),o+i+n<=vs.length->∃ xs:Array Value,(∀ d,(loadCellsFrom ⟨r,sh+o,none⟩ i n acc).run P { w with drawn:=d } = .ok (acc++xs) { w with drawn:=d })/\LRel m ((vs.drop (o+i)).take n) xs.toList:=by
 intro n
 induction n with
 | zero=>intro i acc _;exact⟨#[],fun d=>by simp[loadCellsFrom],by simpa using LRel.nil m⟩
 | succ n ih =>
   intro i acc hl;have hlt:o+i<vs.length:=by omega
   obtain ⟨v',hc,hv⟩:=h.cell hb hB (o:=o+i) (List.getElem?_eq_getElem hlt);obtain ⟨xs,h1,h2⟩:=ih (i+1) (acc.push v') (by omega);refine⟨#[v']++xs,fun d=>?_, ?_⟩
   ·have hc' : ({ w with drawn:=d }:World).cell? ⟨r,sh+o+i,none⟩=some v' := by rw[Nat.add_assoc];exact hc
    simp only[loadCellsFrom,addr_add,Sem.run_bind,run_load,hc',Result.andThen_ok,h1];rw[<- Array.append_assoc];simp
   ·have e:(vs.drop (o+i)).take (n+1)=vs[o+i]::(vs.drop (o+(i+1))).take n:=by
     rw[List.drop_eq_getElem_cons hlt,List.take_succ_cons];rfl
    rw[e]
    simpa using LRel.cons hv h2

theorem run_loadCells {P:Program} {m:LM} {w:World} (h:HRel m H w) {b r sh tot esz:Nat} (hb:m b=some (.cel r sh tot esz)) {wr:Bool} {z:Nat} {vs:List Value} (hB:H[b]? = some (.cells wr z vs)) (o n:Nat) (hn:o+n<=vs.length) :
 ∃ xs:Array Value,(∀ d,(loadCells ⟨r,sh+o,none⟩ n).run P { w with drawn:=d } = .ok xs { w with drawn:=d })/\LRel m ((vs.drop o).take n) xs.toList:=by
 obtain ⟨xs,h1,h2⟩:=run_loadCellsFrom (P:=P) h hb hB o n 0 #[] (by omega);exact⟨xs,fun d=>by simpa [loadCells] using h1 d,by simpa using h2⟩

/-! ### A store -/

theorem xN {w:World} {a:Addr} {v:Value} {r:Nat} (h:r≠a.block):(w.setCell a v).heap[r]? = w.heap[r]? := by
 show (w.heap.modify a.block _)[r]? = w.heap[r]?;rw[Array.getElem?_modify];simp[Ne.symm h]

theorem uH {w:World} {r o:Nat} {v:Value} {c:Array Value} {e:TypeId} {f:Nat × Nat} (h:w.heap[r]? = some (.cells c e f)) :
 (w.setCell ⟨r,o,none⟩ v).heap[r]? = some (.cells (c.setIfInBounds o v) e f):=by
 show (w.heap.modify r _)[r]? = _;rw[Array.getElem?_modify];simp[h]

theorem VP {w:World} {a:Addr} {v:Value}:(w.setCell a v).heap.size=w.heap.size:=by
 show (w.heap.modify _ _).size=_;simp

theorem HRel.store {m:LM} {w:World} (h:HRel m H w) {i r sh tot esz:Nat} (hi:m i=some (.cel r sh tot esz)) {z:Nat} {vs:List Value} (hb:H[i]? = some (.cells true z vs))
 {o:Nat} {v v' : Value} (hv:VRel m v v') (ho:o<vs.length) :
 HRel m (H.set i (.cells true z (vs.set o v))) (w.setCell ⟨r,sh+o,none⟩ v')/\Fr H.length m H w m (H.set i (.cells true z (vs.set o v))) (w.setCell ⟨r,sh+o,none⟩ v'):=by
 obtain ⟨c,e,f,h1,h2,h3z,h3⟩:=h.cells hi hb;have hil:=h.dom i _ hi;have hir:vI (m i)=some r:=by rw[hi];rfl
 refine⟨⟨fun j l hj=>by simpa using h.dom j l hj,fun j l b' hj hd hb' => ?_,fun j hj=>?dd,fun j k r' b' hj hb' hw hk=>?_⟩,⟨by rw[VP];exact Nat.le_refl _,fun _=>by simp,fun _ _ _ h=>.inl h,fun _ _ h=>h,fun j _ b' hb' hr' => ?_,fun r' hr hw=>⟨xN (fun e=>hw ⟨i,_,by rw[hir,e],hb,rfl⟩),fun ⟨j,b',k1,k2,k3⟩=>?_⟩,⟨rfl,rfl,rfl,by first | exact Nat.le_refl _ | exact Nat.le_succ _ | (simp;done) | (simp;omega)⟩⟩⟩
 case dd =>
  rw[List.getElem?_set];have:i≠j:=fun e=>by subst e;rw[hi] at hj;cases hj
  simp only[this,if_false];exact h.dd j hj
 ·rw[List.getElem?_set] at hb'
  by_cases hij:i=j
  ·subst hij
   rw[hi] at hj;cases hj;simp[hil] at hb'; subst hb';refine⟨c.setIfInBounds (sh+o) v',e,f,uH h1,fun k x hx=>?_,h3z,fun ht=>by simpa using h3 ht⟩;rw[List.getElem?_set] at hx;by_cases hok:o=k
   ·subst hok
    simp[ho] at hx;subst hx;obtain ⟨y,hy,_⟩:=h2 o vs[o] (List.getElem?_eq_getElem ho);have:sh+o<c.size:=(Array.getElem?_eq_some_iff.1 hy).1;exact⟨v',by rw[Array.getElem?_setIfInBounds];simp[this],hv⟩
   ·simp[hok] at hx
    obtain ⟨y,hy,hr⟩:=h2 k x hx;exact⟨y,by rw[Array.getElem?_setIfInBounds];simp[hok,hy],hr⟩
  ·simp[hij] at hb'
   refine (h.blk j l b' hj hd hb').same (fun r' hr' => xN fun e=>?_);have:r' = r:=e;subst this;exact hij (h.own i j r' _ hir hb rfl (by rw[hj];exact hr'))
 ·rw[List.getElem?_set] at hb'
  by_cases hij:i=j
  ·subst hij
   simp[hil] at hb';exact h.own i k r' _ hj hb rfl hk
  ·simp[hij] at hb'
   exact h.own j k r' b' hj hb' hw hk
 ·rw[List.getElem?_set] at hb'
  by_cases hij:i=j
  ·subst hij;exact⟨_,hb,rfl⟩
  ·simp[hij] at hb'; exact⟨b',hb',hr'⟩
 ·rw[List.getElem?_set] at k2
  by_cases hij:i=j
  ·subst hij;exact hw ⟨i,_,k1,hb,rfl⟩
  ·simp[hij] at k2;exact hw ⟨j,b',k1,k2,k3⟩

def setSeg:List Value->Nat->List Value->List Value
 | vs,_,[]=>vs
 | vs,o,x::xs=>setSeg (vs.set o x) (o+1) xs

theorem yT : ∀ (xs vs:List Value) (o:Nat),(setSeg vs o xs).length=vs.length
 | [],_,_=>rfl
 | x::xs,vs,o=>by rw[setSeg,yT xs];simp

theorem VF {m:LM} {w:World} (h:HRel m H w) {i r sh tot esz:Nat} (hi:m i=some (.cel r sh tot esz)) {z:Nat} {vs:List Value} (hb:H[i]? = some (.cells true z vs)) (o:Nat):w.frozen? ⟨r,o,none⟩=false:=by
 obtain ⟨c,e,f,h1,h2,_,h3⟩:=h.cells hi hb;have:=(h3 rfl).1 o;obtain ⟨lo,hi'⟩:=f;simp only[World.frozen?,h1]
 simpa using this

def vK:Value->Bool
 | .agg _ | .tuple _=>false
 | _=>true
theorem VRel.oneCell {m:LM} {v v' : Value} (h:VRel m v v'):v'.oneCell' = vK v:=by cases h <;> rfl

theorem xm {P:Program} : ∀ (xs xs' : List Value) {m:LM} {H:List Blk} {w:World} (_:HRel m H w) {b r sh tot esz:Nat} (_:m b=some (.cel r sh tot esz)) {z:Nat} {vs:List Value} (_:H[b]? = some (.cells true z vs)) (o i:Nat)
 (_:o+i+xs.length<=vs.length) (_:LRel m xs xs') (_:xs.all vK=true),
 ∃ w',(storeCells ⟨r,sh+o,none⟩ xs' i).run P w = .ok () w' /\ HRel m (H.set b (.cells true z (setSeg vs (o+i) xs))) w' /\ Fr H.length m H w m (H.set b (.cells true z (setSeg vs (o+i) xs))) w' := by
 intro xs
 induction xs with
 | nil =>
   intro xs' m H w h b r sh tot esz hb z vs hB o i hl hx hone;have:=hx.inv_nil;subst this
   have e:H.set b (.cells true z (setSeg vs (o+i) []))=H:=by
    simp only[setSeg];obtain ⟨hlt,he⟩:=List.getElem?_eq_some_iff.1 hB;rw[<- he,List.set_getElem_self]
   rw[e];exact⟨w,by simp[storeCells],h, .refl _ _ _ _⟩
 | cons x xs ih =>
   intro xs' m H w h b r sh tot esz hb z vs hB o i hl hx hone;obtain ⟨y,ys,rfl,hv,hs⟩:=hx.inv_cons;simp only[List.length_cons] at hl;simp only[List.all_cons,Bool.and_eq_true] at hone;obtain ⟨s1,s2⟩:=h.store hb hB (o:=o+i) hv (by omega)
   have hB' : (H.set b (.cells true z (vs.set (o+i) x)))[b]? = some (.cells true z (vs.set (o+i) x)):=by
    rw[List.getElem?_set];simp[h.dom b _ hb]
   obtain ⟨w',r1,r2,r3⟩:=ih ys s1 hb hB' o (i+1) (by simp;omega) hs hone.2;have eo:o+(i+1)=o+i+1:=by omega
   rw[List.set_set,eo] at r2 r3;refine⟨w', ?_,by simpa [setSeg] using r2, ?_⟩
   ·have hc : ∃ z' : Value,w.cell? ⟨r,sh+o+i,none⟩=some z' := by
     have ho:o+i<vs.length:=by omega
     obtain ⟨z',hz,_⟩:=h.cell hb hB (o:=o+i) (List.getElem?_eq_getElem ho);exact⟨z',by rw[Nat.add_assoc];exact hz⟩
    obtain ⟨z',hz⟩:=hc;have hfz:w.frozen? ⟨r,sh+o+i,none⟩=false:=VF h hb hB _;have h1:=run_store P w ⟨r,sh+o+i,none⟩ y .plain (by rw[hv.oneCell];exact hone.1);simp only[hz,hfz,Bool.false_eq_true,if_false] at h1;simp only[storeCells,addr_add,Sem.run_bind,h1,Result.andThen_ok];rw[Nat.add_assoc];exact r1
   ·have:=s2.trans (Fr.weaken (n' := H.length) (by simp) (Nat.le_refl _) r3)
    simpa [setSeg] using this

end Go.Af
namespace Go.Af
open Go
variable {rd:Bool}

structure FB where
 fn:FuncId
 kind:CallKind
 roundOf:Option Nat

def FB.at (b:FB) (a:Act) (todo:List Item):Frame := { fn:=b.fn,tmps:=a.tmps,todo,defers:=a.defers,mode := .run,kind:=b.kind,roundOf:=b.roundOf }

theorem FB.eval (b:FB) (a:Act) (todo:List Item):(b.at a todo).eval=a.eval:=by funext x;cases x <;> rfl

section steps
variable {P:Program} {b:FB} {a:Act} {k:List Item} {cs:List Frame} {w:World}
theorem ug0:step P (lone (b.at a (.code .skip::k)) cs w) = .next (lone (b.at a k) cs w):=step_lone_go (by simp[stepG,stepG.exec,FB.at])
theorem qG0 {id:Nat}:step P (lone (b.at a (.inBlock id::k)) cs w) = .next (lone (b.at a k) cs w):=step_lone_go (by simp[stepG,stepG.exec,FB.at])
theorem qF0 {c:Code}:step P (lone (b.at a (.inScope c::k)) cs w) = .next (lone (b.at a k) cs w):=step_lone_go (by simp[stepG,stepG.exec,FB.at])
theorem vt0 {x y:Code}:step P (lone (b.at a (.code (.seq x y)::k)) cs w) = .next (lone (b.at a (.code x :: .code y::k)) cs w):=step_lone_go (by simp[stepG,stepG.exec,FB.at])
theorem vw0 {c:Operand} {x y:Code} {t:Bool} (h:a.eval c = .bool t) :
 step P (lone (b.at a (.code (.cond c x y)::k)) cs w) = .next (lone (b.at a (.code (if t then x else y)::k)) cs w) :=
 step_lone_go (by
  have:=congrFun (FB.eval b a (.code (.cond c x y)::k)) c;simp only[FB.at] at this
  simp[stepG,stepG.exec,FB.at,this,h])
theorem Wv {id:Nat} {c:Code}:step P (lone (b.at a (.code (.block id c)::k)) cs w) = .next (lone (b.at a (.code c :: .inBlock id::k)) cs w):=step_lone_go (by simp[stepG,stepG.exec,FB.at])
theorem Xk {c:Code}:step P (lone (b.at a (.code (.scope c)::k)) cs w) = .next (lone (b.at a (.code c :: .inScope c::k)) cs w):=step_lone_go (by simp[stepG,stepG.exec,FB.at])
theorem uh0 {c:Code}:step P (lone (b.at a (.code (.loop c)::k)) cs w) = .next (lone (b.at a (.code c :: .inLoop c::k)) cs w):=step_lone_go (by simp[stepG,stepG.exec,FB.at])
theorem vv0 {c:Code}:step P (lone (b.at a (.inLoop c::k)) cs w) = .next (lone (b.at a (.code c :: .inLoop c::k)) cs w):=step_lone_go (by simp[stepG,stepG.exec,FB.at])
theorem ui0 {id:Nat} {k' : List Item} (h:exitTo id k=some k'):step P (lone (b.at a (.code (.exit id)::k)) cs w) = .next (lone (b.at a k') cs w):=step_lone_go (by simp[stepG,stepG.exec,FB.at,h])
theorem vu0 {id:Nat} {ops:Array Oper}:step P (lone (b.at a (.code (.region id ops false)::k)) cs w) = .next (lone (b.at a (.inRegion ops (List.range ops.size)::k)) cs w) :=
 step_lone_go (by simp[stepG,stepG.exec,FB.at])
theorem yA {id:Nat} {ops:Array Oper} :
 step P (lone (b.at a (.code (.region id ops true)::k)) cs w) =
  .next (lone (b.at a (.inRegion ops (Region.schedule (P.follows .mixedOrders) ops (w.tape w.drawn (.order b.fn id)))::k)) cs { w with drawn:=w.drawn+1 }) :=
 step_lone_go (by simp[stepG,stepG.exec,FB.at,choose,Sem.run,Question.forced,Question.cut])
theorem yQ {ops:Array Oper}:step P (lone (b.at a (.inRegion ops []::k)) cs w) = .next (lone (b.at a k) cs w):=step_lone_go (by simp[stepG,stepG.exec,FB.at])

theorem FB.finish_at (b:FB) (a:Act) (ops:Array Oper) (i:Nat) (rest:List Nat) (k:List Item) (v:Value) :
 (b.at a (.inRegion ops (i::rest)::k)).finish v=b.at (a.put ((ops[i]?).bind (·.dst)) v) (.inRegion ops rest::k):=by
 cases h:(ops[i]?).bind (·.dst) <;> simp[Frame.finish,FB.at,Act.put,h]

theorem ZG {ops:Array Oper} {i:Nat} {rest:List Nat} (h:((ops[i]?).map (Region.wanted · (yielded ops a.tmps))).getD false=false) :
 step P (lone (b.at a (.inRegion ops (i::rest)::k)) cs w) =
  .next (lone (b.at (a.put ((ops[i]?).bind (·.dst)) undef) (.inRegion ops rest::k)) cs w):=by
 rw[<- FB.finish_at]
 exact step_lone_go (by
  have h' := h;simp only[FB.at] at *
  simp[stepG,stepG.exec,h'])

def Op.isDefer:Op->Bool
 | .defer _=>true
 | _=>false

theorem stG_op {ops:Array Oper} {i:Nat} {rest:List Nat} {o:Oper} (ho:ops[i]? = some o) (hw:Region.wanted o (yielded ops a.tmps)=true) (hd:Op.isDefer o.op=false) :
 stepG P true { frame:=b.at a (.inRegion ops (i::rest)::k),callers:=cs,status := .running,dying:=none } w =
  stepG.apply P true (b.at a (.inRegion ops (i::rest)::k)) cs none (execOp a.eval o) w:=by
 have he:=FB.eval b a (.inRegion ops (i::rest)::k);simp only[FB.at] at he
 have e1:stepG P true { frame:=b.at a (.inRegion ops (i::rest)::k),callers:=cs,status := .running,dying:=none } w =
  stepG.oper P true (b.at a (.inRegion ops (i::rest)::k)) cs none w:=by
  simp[stepG,stepG.exec,FB.at,ho,hw]
 rw[e1];unfold stepG.oper;have e2:(b.at a (.inRegion ops (i::rest)::k)).oper? = some o:=by simp[Frame.oper?,FB.at,ho]
 rw[e2];dsimp only;split
 ·rename_i l c h1 h2
  rw[h2] at hd;cases hd
 ·rw[show (b.at a (.inRegion ops (i::rest)::k)).eval=a.eval from FB.eval b a _]
end steps

def Enters (P:Program) (fr:Frame) (w:World) (R:Value->World->Prop):Prop :=
 ∀ (c:Frame) (cs:List Frame), ∃ v w',R v w' /\ Steps P (lone fr (c::cs) w) (lone (c.finish v) cs w')

theorem Enters.mono {P:Program} {fr:Frame} {w:World} {R R' : Value->World->Prop} (h:Enters P fr w R) (hr : ∀ v w',R v w' -> R' v w'):Enters P fr w R' :=
 fun c cs=>let ⟨v,w',a,b⟩:=h c cs; ⟨v,w',hr _ _ a,b⟩

def zU (P:Program) (nx:Next) (w:World) (R:Value->World->Prop):Prop :=
 match nx with
 | .value v=>R v w
 | .skip=>R undef w
 | .enter f args=>Enters P (Frame.enter P f args .normal) w R
 | .round l f tmps assign body=>Enters P (Frame.round l f tmps assign body .normal) w R
 | _=>False

theorem zU.mono {P:Program} {nx:Next} {w:World} {R R' : Value->World->Prop} (h:zU P nx w R) (hr : ∀ v w',R v w' -> R' v w'):zU P nx w R' := by
 unfold zU at *;split at h <;> first | exact hr _ _ h | exact h.mono hr | exact h.elim

theorem vX0 {P:Program} {b:FB} {a:Act} {k:List Item} {cs:List Frame} {w w1:World} {ops:Array Oper} {i:Nat} {rest:List Nat} {o:Oper} {nx:Next} {R:Value->World->Prop}
 (ho:ops[i]? = some o) (hw:Region.wanted o (yielded ops a.tmps)=true) (hd:Op.isDefer o.op=false) (hr:(execOp a.eval o).run P w = .ok nx w1) (hn:zU P nx w1 R) :
 ∃ v w',R v w' /\ Steps P (lone (b.at a (.inRegion ops (i::rest)::k)) cs w) (lone (b.at (a.put o.dst v) (.inRegion ops rest::k)) cs w'):=by
 have hg:=stG_op (P:=P) (b:=b) (k:=k) (cs:=cs) (w:=w) (rest:=rest) ho hw hd
 have hfin : ∀ v,(b.at a (.inRegion ops (i::rest)::k)).finish v=b.at (a.put o.dst v) (.inRegion ops rest::k):=by
  intro v;rw[FB.finish_at,ho];rfl
 unfold zU at hn;split at hn
 ·rename_i v
  refine⟨v,w1,hn, .one (step_lone_go ?_)⟩;rw[hg,<- hfin];simp[stepG.apply,hr]
 ·refine⟨undef,w1,hn, .one (step_lone_go ?_)⟩
  rw[hg,<- hfin];simp[stepG.apply,hr]
 ·rename_i f args
  obtain ⟨v,w',h1,h2⟩:=hn (b.at a (.inRegion ops (i::rest)::k)) cs;refine⟨v,w',h1, ?_⟩;rw[<- hfin];exact .head (step_lone_go (by rw[hg];simp[stepG.apply,hr,FB.at])) h2
 ·rename_i l f tmps assign body
  obtain ⟨v,w',h1,h2⟩:=hn (b.at a (.inRegion ops (i::rest)::k)) cs;refine⟨v,w',h1, ?_⟩;rw[<- hfin];exact .head (step_lone_go (by rw[hg];simp[stepG.apply,hr,FB.at])) h2
 ·exact hn.elim

/-! ### The judgement -/

inductive Ex where
 | normal
 | exit (id:Nat)
 | ret

def Arr (P:Program) (m0:Machine) (b:FB) (k:List Item) (cs:List Frame):Ex->Act->World->Prop
 | .normal,a,w=>Steps P m0 (lone (b.at a k) cs w)
 | .exit id,a,w => ∃ k',exitTo id k' = exitTo id k/\Steps P m0 (lone (b.at a (.code (.exit id)::k')) cs w)
 | .ret,a,w => ∃ k',Steps P m0 (lone (b.at a (.code .ret::k')) cs w)

theorem Arr.of_steps {P:Program} {m m1:Machine} {b:FB} {k:List Item} {cs:List Frame} {e:Ex} {a:Act} {w:World} (h:Steps P m m1) (h' : Arr P m1 b k cs e a w):Arr P m b k cs e a w:=by
 cases e with
 | normal=>exact h.trans h'
 | exit id=>obtain ⟨k',h1,h2⟩:=h'; exact⟨k',h1,h.trans h2⟩
 | ret=>obtain ⟨k',h2⟩:=h'; exact⟨k',h.trans h2⟩

structure AF where
 n:Nat
 sl:List (Nat × Value)

def DfOk (m:LM) (H:List Blk) (w:World):List Deferred->Prop
 | []=>True
 | d::ds=>(∃ r,d = { target := .collected r,args := #[] }/\w.heap[r]? = some (.deferred (some []))/\¬ Wr m H r/\∀ d' ∈ ds,d'.target ≠ .collected r)/\DfOk m H w ds

theorem DfOk.keep {m m' : LM} {H H' : List Blk} {w w' : World} (hk : ∀ r,r<w.heap.size->¬ Wr m H r->w'.heap[r]? = w.heap[r]? /\ ¬ Wr m' H' r) : ∀ {ds:List Deferred},DfOk m H w ds->DfOk m' H' w' ds
 | [],_=>trivial
 | _::_,⟨⟨r,h1,h2,h3,h4⟩,h⟩=>by
   obtain ⟨k1,k2⟩:=hk r (Array.getElem?_eq_some_iff.1 h2).1 h3;exact⟨⟨r,h1,by rw[k1];exact h2,k2,h4⟩,h.keep hk⟩

structure SRel (m:LM) (a:AF) (H:List Blk) (aR:Act) (w:World):Prop where
 n:aR.tmps.size=a.n
 sl:zx m a.sl aR.tmps
 df:DfOk m H w aR.defers
 heap:HRel m H w

def DNew (w:World) (aR aR' : Act):Prop := ∃ new,aR'.defers=new++aR.defers/\∀ d∈new, ∀ r,d.target = .collected r->w.heap.size<=r
theorem DNew.refl (w:World) (aR:Act):DNew w aR aR:=⟨[],rfl,by simp⟩
theorem DNew.of_eq {w:World} {aR aR' : Act} (h:aR'.defers=aR.defers):DNew w aR aR' := ⟨[],h,by simp⟩
theorem DNew.trans {w w1:World} {a a1 a2:Act} (h:DNew w a a1) (k:DNew w1 a1 a2) (hs:w.heap.size<=w1.heap.size):DNew w a a2:=by
 obtain ⟨n1,e1,h1⟩:=h;obtain ⟨n2,e2,h2⟩:=k;refine⟨n2++n1,by rw[e2,e1,List.append_assoc],fun d hd r hr=>?_⟩;rcases List.mem_append.1 hd with hd | hd
 ·exact Nat.le_trans hs (h2 d hd r hr)
 ·exact h1 d hd r hr

structure FrA (n:Nat) (m:LM) (H:List Blk) (w:World) (aR:Act) (m' : LM) (H' : List Blk) (w' : World) (aR' : Act):Prop extends Fr n m H w m' H' w' where
 dn:DNew w aR aR'
theorem FrA.refl (n:Nat) (m:LM) (H:List Blk) (w:World) (aR:Act):FrA n m H w aR m H w aR:=⟨.refl _ _ _ _, .refl _ _⟩
theorem FrA.trans {n:Nat} {m m1 m2:LM} {H H1 H2:List Blk} {w w1 w2:World} {a a1 a2:Act} (h:FrA n m H w a m1 H1 w1 a1) (k:FrA n m1 H1 w1 a1 m2 H2 w2 a2):FrA n m H w a m2 H2 w2 a2 :=
 ⟨h.toFr.trans k.toFr,h.dn.trans k.dn h.size⟩

def awp (P:Program) (rd:Bool) (n0:Nat) (c:Code) (Q:Ex->AF->List Blk->Prop) (a:AF) (H:List Blk):Prop :=
 n0<=H.length->∀ m aR w,SRel m a H aR w->∀ b k cs,(rd=false->b.roundOf=none)->∃ e a' H' m' aR' w',Q e a' H' /\ SRel m' a' H' aR' w' /\ FrA n0 m H w aR m' H' w' aR' /\ Arr P (lone (b.at aR (.code c::k)) cs w) b k cs e aR' w'

/-! ### Operands -/

def ev (sl:List (Nat × Value)):Operand->Option Value
 | .tmp t=>look sl t
 | .const v=>match wS 6 v with
   | true=>some v
   | false=>none
 | .global _=>none
 | .func f=>some (.func (.func f) #[] #[])

theorem qH {m:LM} {sl:List (Nat × Value)} {aR:Act} (h:zx m sl aR.tmps) {x:Operand} {v:Value} (hv:ev sl x=some v):VRel m v (aR.eval x):=by
 cases x with
 | tmp t =>
   obtain ⟨v',h1,h2⟩:=h t v hv;have:aR.eval (.tmp t)=v' := by simp[Act.eval,h1]
   rw[this];exact h2
 | const c =>
   simp only[ev] at hv;split at hv
   ·rename_i hp;cases hv;exact VRel.plain m 6 _ hp
   ·cases hv
 | global g=>cases hv
 | func f =>
   cases hv;exact .func _ _ _ _ _ _ (.same _ (by simp)) rfl rfl (fun i x x' h=>by simp at h) (fun i x x' h=>by simp at h)

section rules
variable {P:Program} {n0:Nat} {Q:Ex->AF->List Blk->Prop} {a:AF} {H:List Blk}

theorem wu {c:Code} {Q' : Ex->AF->List Blk->Prop} (h:awp P rd n0 c Q a H) (hq : ∀ e a H,Q e a H->Q' e a H):awp P rd n0 c Q' a H :=
 fun hn m aR w hs b k cs hb=>let ⟨e,a',H',m',aR',w',q,r⟩:=h hn m aR w hs b k cs hb; ⟨e,a',H',m',aR',w',hq _ _ _ q,r⟩

theorem xZ0 (h:Q .normal a H):awp P rd n0 .skip Q a H:=fun _ m aR w hs _ _ _ _=>⟨.normal,a,H,m,aR,w,h,hs, .refl _ _ _ _ _, .one ug0⟩
theorem ya0 {id:Nat} (h:Q (.exit id) a H):awp P rd n0 (.exit id) Q a H:=fun _ m aR w hs _ k _ _=>⟨.exit id,a,H,m,aR,w,h,hs, .refl _ _ _ _ _,k,rfl, .refl _ _⟩
theorem Qv0 (h:Q .ret a H):awp P rd n0 .ret Q a H:=fun _ m aR w hs _ k _ _=>⟨.ret,a,H,m,aR,w,h,hs, .refl _ _ _ _ _,k, .refl _ _⟩

def Ex.then (next:AF->List Blk->Prop) (Q:Ex->AF->List Blk->Prop):Ex->AF->List Blk->Prop
 | .normal,a,H=>next a H
 | e,a,H=>Q e a H

theorem Arr.pass {P:Program} {m:Machine} {b:FB} {x:Item} {k:List Item} {cs:List Frame} {e:Ex} {a:Act} {w:World} (hx:x.plain=true) (he:e ≠ .normal) (h:Arr P m b (x::k) cs e a w):Arr P m b k cs e a w:=by
 cases e with
 | normal=>exact absurd rfl he
 | exit id=>obtain ⟨k',h1,h2⟩:=h;exact⟨k',h1.trans (by cases x <;> simp_all [exitTo,Item.plain]),h2⟩
 | ret=>exact h

theorem VL {x y:Code} (h:awp P rd n0 x (Ex.then (awp P rd n0 y Q) Q) a H):awp P rd n0 (.seq x y) Q a H:=by
 intro hn m aR w hs b k cs hb;obtain ⟨e,a1,H1,m1,aR1,w1,hq,hs1,hf1,harr⟩:=h hn m aR w hs b (.code y::k) cs hb
 cases e with
 | normal =>
   obtain ⟨e2,a2,H2,m2,aR2,w2,hq2,hs2,hf2,harr2⟩:=hq (hf1.len hn) m1 aR1 w1 hs1 b k cs hb;exact⟨e2,a2,H2,m2,aR2,w2,hq2,hs2,hf1.trans hf2, .of_steps (.head vt0 harr) harr2⟩
 | exit id=>exact⟨_,a1,H1,m1,aR1,w1,hq,hs1,hf1, .of_steps (.one vt0) (.pass (x := .code y) rfl (by simp) harr)⟩
 | ret=>exact⟨_,a1,H1,m1,aR1,w1,hq,hs1,hf1, .of_steps (.one vt0) (.pass (x := .code y) rfl (by simp) harr)⟩

def Ex.inBlock (id:Nat) (Q:Ex->AF->List Blk->Prop):Ex->AF->List Blk->Prop
 | .exit id',a,H=>match Nat.beq id' id with
   | true=>Q .normal a H
   | false=>Q (.exit id') a H
 | e,a,H=>Q e a H

theorem zk0 {id:Nat} {c:Code} (h:awp P rd n0 c (Ex.inBlock id Q) a H):awp P rd n0 (.block id c) Q a H:=by
 intro hn m aR w hs b k cs hb;obtain ⟨e,a1,H1,m1,aR1,w1,hq,hs1,hf1,harr⟩:=h hn m aR w hs b (.inBlock id::k) cs hb
 cases e with
 | normal=>exact⟨.normal,a1,H1,m1,aR1,w1,hq,hs1,hf1, .head Wv (Steps.trans harr (.one qG0))⟩
 | exit id' =>
   obtain ⟨k',h1,h2⟩:=harr;by_cases hid:id' = id
   ·subst hid
    have hq' : Q .normal a1 H1:=by simpa [Ex.inBlock] using hq
    refine⟨.normal,a1,H1,m1,aR1,w1,hq',hs1,hf1, .head Wv (Steps.trans h2 (.one (ui0 ?_)))⟩;rw[h1];simp[exitTo]
   ·have hb:Nat.beq id' id=false:=by cases h:Nat.beq id' id;rfl;exact absurd (Nat.eq_of_beq_eq_true h) hid
    have hq' : Q (.exit id') a1 H1:=by simpa [Ex.inBlock,hb] using hq
    refine⟨.exit id',a1,H1,m1,aR1,w1,hq',hs1,hf1,k', ?_, .head Wv h2⟩;rw[h1];have:(id == id')=false:=by simp;exact fun h=>hid h.symm
    simp[exitTo,this]
 | ret=>exact⟨_,a1,H1,m1,aR1,w1,hq,hs1,hf1, .of_steps (.one Wv) harr⟩

theorem zf0 {c:Code} (h:awp P rd n0 c Q a H):awp P rd n0 (.scope c) Q a H:=by
 intro hn m aR w hs b k cs hb;obtain ⟨e,a1,H1,m1,aR1,w1,hq,hs1,hf1,harr⟩:=h hn m aR w hs b (.inScope c::k) cs hb
 cases e with
 | normal=>exact⟨.normal,a1,H1,m1,aR1,w1,hq,hs1,hf1, .head Xk (Steps.trans harr (.one qF0))⟩
 | exit id' =>
   obtain ⟨k',h1,h2⟩:=harr;exact⟨.exit id',a1,H1,m1,aR1,w1,hq,hs1,hf1,k',by rw[h1];simp[exitTo], .head Xk h2⟩
 | ret=>exact⟨_,a1,H1,m1,aR1,w1,hq,hs1,hf1, .of_steps (.one Xk) harr⟩

theorem yc0 {c:Operand} {x y:Code} {t:Bool} (hc:ev a.sl c=some (.bool t)) (ht:t=true->awp P rd n0 x Q a H) (hf:t=false->awp P rd n0 y Q a H):awp P rd n0 (.cond c x y) Q a H:=by
 intro hn m aR w hs b k cs hb;have hv:=qH hs.sl hc
 have hc' : aR.eval c = .bool t:=by
  generalize aR.eval c=u at hv;cases hv;rfl
 cases t with
 | true =>
   obtain ⟨e,a',H',m',aR',w',hq,hs',hf',harr⟩:=ht rfl hn m aR w hs b k cs hb;exact⟨e,a',H',m',aR',w',hq,hs',hf', .of_steps (.one (vw0 hc')) harr⟩
 | false =>
   obtain ⟨e,a',H',m',aR',w',hq,hs',hf',harr⟩:=hf rfl hn m aR w hs b k cs hb;exact⟨e,a',H',m',aR',w',hq,hs',hf', .of_steps (.one (vw0 hc')) harr⟩

theorem XM {c:Code} (I:Nat->AF->List Blk->Prop) {n:Nat} (h0:I n a H)
 (round : ∀ n a H,I n a H->awp P rd n0 c (Ex.then (fun a' H' => ∃ n',n' < n/\I n' a' H') Q) a H):awp P rd n0 (.loop c) Q a H:=by
 intro hn m aR w hs b k cs hb
 have key : ∀ n a H m aR w,n0<=H.length->I n a H->SRel m a H aR w->∃ e a' H' m' aR' w',Q e a' H' /\ SRel m' a' H' aR' w' /\ FrA n0 m H w aR m' H' w' aR' /\ Arr P (lone (b.at aR (.code c :: .inLoop c::k)) cs w) b k cs e aR' w' := by
  intro n
  induction n using Nat.strongRecOn with
  | _ n ih =>
    intro a H m aR w hn hI hs;obtain ⟨e,a1,H1,m1,aR1,w1,hq,hs1,hf1,harr⟩:=round n a H hI hn m aR w hs b (.inLoop c::k) cs hb
    cases e with
    | normal =>
      obtain ⟨n',hlt,hI1⟩:=hq;obtain ⟨e2,a2,H2,m2,aR2,w2,hq2,hs2,hf2,harr2⟩:=ih n' hlt a1 H1 m1 aR1 w1 (hf1.len hn) hI1 hs1;exact⟨e2,a2,H2,m2,aR2,w2,hq2,hs2,hf1.trans hf2, .of_steps (Steps.trans harr (.one vv0)) harr2⟩
    | exit id=>exact⟨_,a1,H1,m1,aR1,w1,hq,hs1,hf1, .pass (x := .inLoop c) rfl (by simp) harr⟩
    | ret=>exact⟨_,a1,H1,m1,aR1,w1,hq,hs1,hf1, .pass (x := .inLoop c) rfl (by simp) harr⟩
 obtain ⟨e,a',H',m',aR',w',hq,hs',hf,harr⟩:=key n a H m aR w hn h0 hs;exact⟨e,a',H',m',aR',w',hq,hs',hf, .of_steps (.one uh0) harr⟩

end rules

end Go.Af
namespace Go.Af
open Go

inductive TK where
 | int (k:IntKind)
 | bool
 | str
 | slice (e:TypeId)
 | arr (n:Nat) (e:TypeId)
 | struct (fs:List (Nat × TypeId))
 | map (k e:TypeId)
 | ptr (e:TypeId)
 | iface
 | func
 | float (k:FloatKind)

def TK.agg:TK->Bool
 | .arr _ _ | .struct _=>true
 | _=>false

structure TI where
 kind:TK
 size:Nat
 bytes:Nat
 zero:Value

def KOk (P:Program) (t:TypeId):TK->Prop
 | .int k=>P.underlying t=some (.int k)
 | .bool=>P.underlying t=some .bool
 | .str=>P.underlying t=some .string
 | .slice e=>P.underlying t=some (.slice e)
 | .arr n e=>P.underlying t=some (.array n e)
 | .struct fs => ∃ f,P.underlying t=some (.struct f)/\f.toList.map (fun x=>(x.offset,x.type))=fs
 | .map k e=>P.underlying t=some (.map k e)
 | .ptr e=>P.underlying t=some (.pointer e)
 | .iface => ∃ ms,P.underlying t=some (.interface ms)
 | .func => ∃ a b c,P.underlying t=some (.func a b c)
 | .float k=>P.underlying t=some (.float k)

structure TIOk (P:Program) (t:TypeId) (i:TI):Prop where
 und:KOk P t i.kind
 info:(P.info? t).map (fun j=>(j.size,j.bytes,j.zero))=some (i.size,i.bytes,some i.zero)
 plain:wS 6 i.zero=true

abbrev TT:=List (TypeId × TI)
def tget:TT->TypeId->Option TI
 | [],_=>none
 | (k,i)::r,t=>match Nat.beq k t with
   | true=>some i
   | false=>tget r t

def TOk (P:Program):TT->Prop
 | []=>True
 | (t,i)::r=>TIOk P t i/\TOk P r

theorem TOk.get {P:Program} : ∀ {T:TT} (_:TOk P T) {t:TypeId} {i:TI} (_:tget T t=some i),TIOk P t i
 | [],_,_,_,hg=>by cases hg
 | (k,i)::r,h,t,j,hg=>by
   simp only[tget] at hg;split at hg
   ·rename_i hk
    cases hg;rw[<- Nat.eq_of_beq_eq_true hk];exact h.1
   ·exact TOk.get h.2 hg

section runs
variable {P:Program} {t:TypeId} {i:TI}

theorem TIOk.infoEx (h:TIOk P t i) : ∃ j,P.info? t=some j/\j.size=i.size/\j.bytes=i.bytes/\j.zero=some i.zero:=by
 have:=h.info
 cases hj:P.info? t with
 | none=>rw[hj] at this;cases this
 | some j=>rw[hj] at this;simp at this;exact⟨j,rfl,this.1,this.2.1,this.2.2⟩

theorem yU {j:TypeInfo} (h:P.info? t=some j) (w:World):(typeInfo t).run P w = .ok j w:=by simp[typeInfo,h]
theorem qy {d:TypeDesc} (h:P.underlying t=some d) (w:World):(underlying t).run P w = .ok d w:=by simp[underlying,h]
theorem TIOk.run_size (h:TIOk P t i) (w:World):(sizeOf t).run P w = .ok i.size w:=by
 obtain ⟨j,h1,h2,_⟩:=h.infoEx;simp[sizeOf,yU h1,h2]
theorem TIOk.run_zero (h:TIOk P t i) (w:World):(zeroValue t).run P w = .ok i.zero w:=by
 obtain ⟨j,h1,_,_,h2⟩:=h.infoEx;simp[zeroValue,yU h1,h2]
theorem KOk.desc {k:TK} (h:KOk P t k) : ∃ d,P.underlying t=some d/\(match d with | .struct _ | .array _ _=>true | _=>false)=k.agg:=by
 cases k <;> simp only[KOk] at h
 case struct fs=>obtain ⟨f,h1,_⟩:=h;exact⟨_,h1,rfl⟩
 case iface=>obtain ⟨f,h1⟩:=h;exact⟨_,h1,rfl⟩
 case func=>obtain ⟨a,b,c,h1⟩:=h;exact⟨_,h1,rfl⟩
 all_goals exact⟨_,h,rfl⟩
theorem TIOk.run_isAgg (h:TIOk P t i) (w:World):(isAgg t).run P w = .ok i.kind.agg w:=by
 obtain ⟨d,h1,h2⟩:=h.und.desc;simp only[isAgg,Sem.run_bind,qy h1,Result.andThen_ok];rw[<- h2];cases d <;> rfl
end runs

/-! ### Lists and blocks,in a form that computes by looking -/

def Ld (vs:List Value) (o:Nat) (K:Value->Prop):Prop := ∃ v,vs[o]? = some v/\K v
def segK (vs:List Value):Nat->Nat->(List Value->Prop)->Prop
 | _,0,K=>K []
 | o,n+1,K=>Ld vs o (fun v=>segK vs (o+1) n (fun r=>K (v::r)))

theorem vF0 (vs:List Value) : ∀ (n o:Nat) (K:List Value->Prop),segK vs o n K->K ((vs.drop o).take n)/\(n=0\/o+n<=vs.length):=by
 intro n
 induction n with
 | zero=>intro o K h;exact⟨by simpa [segK] using h, .inl rfl⟩
 | succ n ih =>
   intro o K h;obtain ⟨v,hv,hk⟩:=h;obtain ⟨h1,h2⟩:=ih _ _ hk;obtain ⟨hlt,he⟩:=List.getElem?_eq_some_iff.1 hv;refine⟨?_, .inr ?_⟩
   ·rw[List.drop_eq_getElem_cons hlt,List.take_succ_cons,he];exact h1
   ·rcases h2 with h2 | h2 <;> omega

def bget:List Blk->Nat->Option Blk
 | [],_=>none
 | x::_,0=>some x
 | _::r,n+1=>bget r n
theorem qV : ∀ (H:List Blk) (n:Nat),bget H n=H[n]?
 | [],_=>by simp[bget]
 | x::r,0=>rfl
 | x::r,n+1=>by simpa [bget] using qV r n

def zt:List Blk->Nat->Blk->(List Blk->Prop)->Prop
 | [],_,_,K=>K []
 | _::r,0,b,K=>K (b::r)
 | x::r,n+1,b,K=>zt r n b (fun r' => K (x::r'))
theorem qP : ∀ (H:List Blk) (n:Nat) (b:Blk) (K:List Blk->Prop),zt H n b K=K (H.set n b)
 | [],_,_,_=>rfl
 | x::r,0,_,_=>rfl
 | x::r,n+1,b,K=>by simp[zt,qP r n b]

def xB:List Blk->Nat->Blk->(Nat->List Blk->Prop)->Prop
 | [],n,b,K=>K n [b]
 | x::r,n,b,K=>xB r (n+1) b (fun i r' => K i (x::r'))
theorem vH : ∀ (H:List Blk) (n:Nat) (b:Blk) (K:Nat->List Blk->Prop),xB H n b K=K (n+H.length) (H ++ [b])
 | [],_,_,_=>rfl
 | x::r,n,b,K=>by simp only[xB,vH r (n+1) b,List.length_cons,List.cons_append];rw[show n+1+r.length=n+(r.length+1) by omega]

def uS {α : Type}:List α->(List α->Prop)->Prop
 | [],K=>K []
 | x::r,K=>uS r (fun r' => K (x::r'))
theorem vO {α : Type} : ∀ (l:List α) (K:List α->Prop),uS l K=K l
 | [],_=>rfl
 | x::r,K=>by simp[uS,vO r]

def evs (sl:List (Nat × Value)):List Operand->Option (List Value)
 | []=>some []
 | x::r=>match ev sl x with
   | some v=>match evs sl r with
     | some vs=>some (v::vs)
     | none=>none
   | none=>none

theorem QI {m:LM} {sl:List (Nat × Value)} {aR:Act} (h:zx m sl aR.tmps) : ∀ {xs:List Operand} {vs:List Value},evs sl xs=some vs->LRel m vs (xs.map aR.eval)
 | [],vs,hv=>by cases hv;exact .nil m
 | x::r,vs,hv=>by
   simp only[evs] at hv;split at hv
   ·rename_i v h1
    split at hv
    ·rename_i vs' h2
     cases hv;exact .cons (qH h h1) (QI h h2)
    ·cases hv
   ·cases hv

def I64 (z:Int):Prop := -9223372036854775808<=z/\z<=9223372036854775807

theorem wrap_i64 {z:Int} (h:I64 z):IntKind.i64.wrap z=z:=by
 unfold I64 at h;show (if (true&&decide (z % (2 ^ 64:Int) ≥ 2 ^ 63))=true then z % (2 ^ 64:Int)-2 ^ 64 else z % (2 ^ 64:Int))=z;simp only[Bool.true_and,decide_eq_true_eq];split <;> omega

def zF:IntKind->IntKind->Bool
 | .i8, .i8 | .i16, .i16 | .i32, .i32 | .i64, .i64 | .u8, .u8 | .u16, .u16 | .u32, .u32 | .u64, .u64=>true
 | _,_=>false
theorem vU {j k:IntKind} (h:zF j k=true):j=k:=by cases j <;> cases k <;> first | rfl | cases h

def numK (k:IntKind) (z:Int) (K:Value->Prop):Prop :=
 match k with
 | .i64=>(∃ y,z=y/\I64 y/\K (.int .i64 y))\/K (.int .i64 (IntKind.i64.wrap z))
 | k=>K (.int k (k.wrap z))
theorem xP {k:IntKind} {z:Int} {K:Value->Prop} (h:numK k z K):K (.int k (k.wrap z)):=by
 cases k <;> simp only[numK] at h <;> try exact h
 rcases h with ⟨y,rfl,h1,h2⟩ | h
 ·rw[wrap_i64 h1];exact h2
 ·exact h

def abin (op:BinOp) (x y:Value) (K:Value->Prop):Prop :=
 match x,y with
 | .int k a, .int j b =>
   match op with
   | .shl=>0<=b/\numK k (a*2 ^ (min b.toNat k.bits)) K
   | .shr=>0<=b/\∃ z,a.fdiv (2 ^ (min b.toNat k.bits))=z/\K (.int k z)
   | _=>match zF k j with
     | false=>False
     | true=>match op with
       | .add=>numK k (a+b) K
       | .sub=>numK k (a-b) K
       | .mul=>numK k (a*b) K
       | .quo=>b≠0/\numK k (a.tdiv b) K
       | .rem=>b≠0/\∃ z,a.tmod b=z/\K (.int k z)
       | .and => ∃ z,k.wrap ((BitVec.ofInt k.bits a &&& BitVec.ofInt k.bits b).toNat:Int)=z/\K (.int k z)
       | .or => ∃ z,k.wrap ((BitVec.ofInt k.bits a ||| BitVec.ofInt k.bits b).toNat:Int)=z/\K (.int k z)
       | .xor => ∃ z,k.wrap ((BitVec.ofInt k.bits a ^^^ BitVec.ofInt k.bits b).toNat:Int)=z/\K (.int k z)
       | .andNot => ∃ z,k.wrap ((BitVec.ofInt k.bits a &&& ~~~ BitVec.ofInt k.bits b).toNat:Int)=z/\K (.int k z)
       | .lss=>K (.bool (decide (a<b)))
       | .leq=>K (.bool (decide (a<=b)))
       | .gtr=>K (.bool (decide (b<a)))
       | .geq=>K (.bool (decide (b<=a)))
       | _=>False
 | .string a, .string b=>match op with
   | .add=>(a.size+b.size<=4611686018427387904)/\K (.string (a++b))
   | .lss=>K (.bool (Op.bytesLess a.toList b.toList))
   | .gtr=>K (.bool (!(Op.bytesLess a.toList b.toList||a.toList == b.toList)))
   | .leq=>K (.bool (Op.bytesLess a.toList b.toList||a.toList == b.toList))
   | .geq=>K (.bool (!(Op.bytesLess a.toList b.toList)))
   | _=>False
 | _,_=>False

theorem yn0 {P:Program} {op:BinOp} {t:TypeId} {x y:Value} {K:Value->Prop} {m:LM} {x' y' : Value} (hop:op ≠ .eql/\op ≠ .neq) (hx:VRel m x x') (hy:VRel m y y') (h:abin op x y K) :
 ∃ v,K v/\(∀ w,(binOp op t x' y').run P w = .ok v w)/\VRel m v v:=by
 unfold abin at h;split at h
 ·rename_i k a j b
  cases hx;cases hy;cases op <;> simp only at h
  case shl =>
   obtain ⟨h0,h⟩:=h;refine⟨_,xP h,fun w=>?_, .int _ _⟩;simp[binOp,Op.shift,show ¬ b<0 by omega]
  case shr =>
   obtain ⟨h0,z,hz,h⟩:=h;refine⟨_,h,fun w=>?_, .int _ _⟩;simp[binOp,Op.shift,show ¬ b<0 by omega,hz]
  case add=>(split at h; · exact h.elim);rename_i hk;have hk' := vU hk;subst hk'; exact⟨_,xP h,fun w=>by simp[binOp,Op.intArith], .int _ _⟩
  case sub=>(split at h; · exact h.elim);rename_i hk;have hk' := vU hk;subst hk'; exact⟨_,xP h,fun w=>by simp[binOp,Op.intArith], .int _ _⟩
  case mul=>(split at h; · exact h.elim);rename_i hk;have hk' := vU hk;subst hk'; exact⟨_,xP h,fun w=>by simp[binOp,Op.intArith], .int _ _⟩
  case quo=>(split at h; · exact h.elim);rename_i hk;have hk' := vU hk;subst hk'; exact⟨_,xP h.2,fun w=>by simp[binOp,Op.intDiv,h.1], .int _ _⟩
  case rem=>(split at h; · exact h.elim);rename_i hk;have hk' := vU hk;subst hk'; obtain ⟨h0,z,hz,h⟩:=h;exact⟨_,h,fun w=>by simp[binOp,Op.intDiv,h0,hz], .int _ _⟩
  case and=>(split at h; · exact h.elim);rename_i hk;have hk' := vU hk;subst hk'; obtain ⟨z,hz,h⟩:=h;exact⟨_,h,fun w=>by subst hz;rw[show binOp .and t (.int k a) (.int k b)=Op.intBits .and k a b by simp[binOp]];rfl, .int _ _⟩
  case or=>(split at h; · exact h.elim);rename_i hk;have hk' := vU hk;subst hk'; obtain ⟨z,hz,h⟩:=h;exact⟨_,h,fun w=>by subst hz;rw[show binOp .or t (.int k a) (.int k b)=Op.intBits .or k a b by simp[binOp]];rfl, .int _ _⟩
  case xor=>(split at h; · exact h.elim);rename_i hk;have hk' := vU hk;subst hk'; obtain ⟨z,hz,h⟩:=h;exact⟨_,h,fun w=>by subst hz;rw[show binOp .xor t (.int k a) (.int k b)=Op.intBits .xor k a b by simp[binOp]];rfl, .int _ _⟩
  case andNot=>(split at h; · exact h.elim);rename_i hk;have hk' := vU hk;subst hk'; obtain ⟨z,hz,h⟩:=h;exact⟨_,h,fun w=>by subst hz;rw[show binOp .andNot t (.int k a) (.int k b)=Op.intBits .andNot k a b by simp[binOp]];rfl, .int _ _⟩
  case lss=>(split at h; · exact h.elim);rename_i hk;have hk' := vU hk;subst hk'; exact⟨_,h,fun w=>by simp[binOp,Op.intCmp], .bool _⟩
  case leq=>(split at h; · exact h.elim);rename_i hk;have hk' := vU hk;subst hk'; exact⟨_,h,fun w=>by simp[binOp,Op.intCmp], .bool _⟩
  case gtr=>(split at h; · exact h.elim);rename_i hk;have hk' := vU hk;subst hk'; exact⟨_,h,fun w=>by simp[binOp,Op.intCmp], .bool _⟩
  case geq=>(split at h; · exact h.elim);rename_i hk;have hk' := vU hk;subst hk'; exact⟨_,h,fun w=>by simp[binOp,Op.intCmp], .bool _⟩
  case eql=>exact absurd rfl hop.1
  case neq=>exact absurd rfl hop.2
 ·rename_i a b
  cases hx;cases hy;cases op <;> simp only at h
  case add =>
   refine⟨_,h.2,fun w=>?_, .string _⟩;have hm:IntKind.i64.max=9223372036854775807:=by decide
   have : ¬ (((a.size+b.size:Nat):Int) > IntKind.i64.max):=by rw[hm];omega
   simp only[binOp,Op.stringOp,this,if_false];rfl
  case lss=>exact⟨_,h,fun w=>by simp[binOp,Op.stringOp], .bool _⟩
  case leq=>exact⟨_,h,fun w=>by simp[binOp,Op.stringOp], .bool _⟩
  case gtr=>exact⟨_,h,fun w=>by simp[binOp,Op.stringOp], .bool _⟩
  case geq=>exact⟨_,h,fun w=>by simp[binOp,Op.stringOp], .bool _⟩
 ·exact h.elim

end Go.Af
namespace Go.Af
open Go

def OpS (P:Program) (o:Oper) (sl:List (Nat × Value)) (H:List Blk) (K:Value->List Blk->Prop):Prop :=
 ∀ (m:LM) (aR:Act) (w:World),zx m sl aR.tmps->HRel m H w->∃ nx w1,(execOp aR.eval o).run P w = .ok nx w1 /\
   zU P nx w1 (fun vR w' => ∃ v H' m',K v H' /\ VRel m' v vR/\HRel m' H' w' /\ Fr H.length m H w m' H' w')

def ExtW (w w' : World):Prop:=w.heap.size<=w'.heap.size/\∀ r,r<w.heap.size->w'.heap[r]? = w.heap[r]?
theorem ExtW.refl (w:World):ExtW w w:=⟨Nat.le_refl _,fun _ _=>rfl⟩
theorem ExtW.trans {a b c:World} (h:ExtW a b) (k:ExtW b c):ExtW a c:=⟨Nat.le_trans h.1 k.1,fun r hr=>(k.2 r (Nat.lt_of_lt_of_le hr h.1)).trans (h.2 r hr)⟩
theorem HRel.ext {m:LM} {H:List Blk} {w w' : World} (h:HRel m H w) (hx:ExtW w w'):HRel m H w' := h.same fun _ r hi=>hx.2 r (h.lt hi)

def qj0 (ats:Array TypeId):Bool:=match ats.toList with
 | [t]=>([]:List Nat).any (Nat.beq t)
 | _=>false
def zV:Op->Bool
 | .load .. | .lookup .. | .range .. | .next .. | .entry .. | .mapEntry .. => true
 | .call { callee := .builtin .len,argTypes:=ats, .. }=>qj0 ats
 | _=>false

def OpV (P:Program) (o:Oper) (sl:List (Nat × Value)) (H:List Blk) (K:Value->List Blk->Prop):Prop :=
 ∀ (m:LM) (aR:Act) (w:World),zx m sl aR.tmps->HRel m H w->∃ v vR,K v H/\(∀ w',(zV o.op=true->ExtW w w')->(execOp aR.eval o).run P w' = .ok (.value vR) w')/\VRel m v vR

theorem OpV.ops {P:Program} {o:Oper} {sl:List (Nat × Value)} {H:List Blk} {K:Value->List Blk->Prop} (h:OpV P o sl H K):OpS P o sl H K:=by
 intro m aR w hs hh;obtain ⟨v,vR,h1,h2,h3⟩:=h m aR w hs hh;exact⟨_,_,h2 w (fun _=>.refl w),v,H,m,h1,h3,hh, .refl _ _ _ _⟩

def OpA (P:Program) (o:Oper) (sl:List (Nat × Value)) (H:List Blk) (K:Value->List Blk->Prop):Prop :=
 ∀ (m:LM) (aR:Act) (w:World),zx m sl aR.tmps->HRel m H w->∃ (z:Nat) (vs:List Value) (vs' : Array Value) (e:TypeId) (v vR:Value),0<z/\K v (H ++ [.cells true z vs])/\(execOp aR.eval o).run P w = .ok (.value vR) { w with heap:=w.heap.push (.cells vs' e) } /\
     LRel m vs vs'.toList/\VRel (m.put H.length (.cel w.heap.size 0 vs'.size z)) v vR

theorem ExtW.push (w:World) (o:Obj):ExtW w { w with heap:=w.heap.push o }:=⟨by simp,fun _ hr=>zl hr⟩

def OpX (P:Program) (o:Oper) (sl:List (Nat × Value)) (H:List Blk) (K:Value->List Blk->Prop):Prop :=
 ∀ (m:LM) (aR:Act) (w:World),zx m sl aR.tmps->HRel m H w->∃ nx w1,(execOp aR.eval o).run P w = .ok nx w1 /\
   zU P nx w1 (fun vR w' => (∃ v H' m',K v H' /\ VRel m' v vR/\HRel m' H' w' /\ Fr H.length m H w m' H' w')/\ExtW w w')

theorem OpX.ops {P:Program} {o:Oper} {sl:List (Nat × Value)} {H:List Blk} {K:Value->List Blk->Prop} (h:OpX P o sl H K):OpS P o sl H K:=fun m aR w hs hh =>
 let ⟨nx,w1,h1,h2⟩:=h m aR w hs hh
 ⟨nx,w1,h1,h2.mono fun _ _ h=>h.1⟩

theorem OpV.ext {P:Program} {o:Oper} {sl:List (Nat × Value)} {H:List Blk} {K:Value->List Blk->Prop} (h:OpV P o sl H K):OpX P o sl H K:=by
 intro m aR w hs hh;obtain ⟨v,vR,h1,h2,h3⟩:=h m aR w hs hh;exact⟨_,_,h2 w (fun _=>.refl w),⟨v,H,m,h1,h3,hh, .refl _ _ _ _⟩, .refl w⟩

theorem OpA.ext {P:Program} {o:Oper} {sl:List (Nat × Value)} {H:List Blk} {K:Value->List Blk->Prop} (h:OpA P o sl H K):OpX P o sl H K:=by
 intro m aR w hs hh;obtain ⟨z,vs,vs',e,v,vR,hz,h1,h2,h3,h4⟩:=h m aR w hs hh;refine⟨_,_,h2,⟨v,_,_,h1,h4,hh.alloc rfl ?_,Fr.alloc hh _ _ rfl⟩, .push _ _⟩;refine⟨vs',e,(0,0),by simp,fun i x hx=>?_, .inr rfl,fun _=>⟨fun j hj=>by omega,rfl,hz,rfl⟩⟩;obtain ⟨y,hy,hr⟩:=h3.get hx;exact⟨y,by simpa using hy,hr.mono (LM.le_put hh.none_len)⟩

/-! ### Equality -/

inductive PK where
 | int (k:IntKind)
 | bool
@[match_pattern] abbrev PK.i64:PK := .int .i64
def PK.val:PK->Int->Value
 | .int k,n=>.int k n
 | .bool,n=>.bool (decide (n≠0))
def PK.nrm:PK->Int->Int
 | .int _,n=>n
 | .bool,n=>if n=0 then 0 else 1
def ZE (P:Program) (t:TypeId) (ks:List PK):Prop :=
 ∀ (as bs:List Int),as.length=ks.length->bs.length=ks.length->∀ w:World,
   (Op.equal t (.agg ⟨List.zipWith PK.val ks as⟩) (.agg ⟨List.zipWith PK.val ks bs⟩)).run P w = .ok (decide (List.zipWith PK.nrm ks as=List.zipWith PK.nrm ks bs)) w /\
   ∀ (op:BinOp) (x y:Operand),(eqGuard op t x y (.agg ⟨List.zipWith PK.val ks as⟩) (.agg ⟨List.zipWith PK.val ks bs⟩)).run P w = .ok () w

def intsOf:List Value->List PK->(List Int->Prop)->Prop
 | [],[],K=>K []
 | .int k n::r, .int j::ks,K=>match zF k j with
   | true=>intsOf r ks (fun l=>K (n::l))
   | false=>False
 | .bool b::r, .bool::ks,K=>intsOf r ks (fun l=>K ((match b with | true=>1 | false=>0)::l))
 | _,_,_=>False
theorem zk : ∀ (l:List Value) (ks:List PK) (K:List Int->Prop),intsOf l ks K->∃ as,K as/\as.length=ks.length/\l=List.zipWith PK.val ks as/\List.zipWith PK.nrm ks as=as
 | [],[],K,h=>⟨[],h,rfl,rfl,rfl⟩
 | v::r, .int j::ks,K,h=>by
   cases v <;> simp only[intsOf] at h;split at h
   ·rename_i hk
    obtain ⟨as,h1,h2,h3,h4⟩:=zk r ks _ h;have:=vU hk;subst this;exact⟨_::as,h1,by simp[h2],by simp[<- h3,PK.val],by simp[h4,PK.nrm]⟩
   ·exact h.elim
 | v::r, .bool::ks,K,h=>by
   cases v <;> simp only[intsOf] at h;rename_i b;obtain ⟨as,h1,h2,h3,h4⟩:=zk r ks _ h;cases b
   ·exact⟨0::as,h1,by simp[h2],by simp[<- h3,PK.val],by simp[h4,PK.nrm]⟩
   ·exact⟨1::as,h1,by simp[h2],by simp[<- h3,PK.val],by simp[h4,PK.nrm]⟩
 | [],_::_,_,h=>by simp only[intsOf] at h
 | v::_,[],_,h=>by cases v <;> simp only[intsOf] at h

theorem LRel.ints {m:LM} {ys:List Value} : ∀ {ks:List PK} {as:List Int},LRel m (List.zipWith PK.val ks as) ys->ys=List.zipWith PK.val ks as
 | [],_,h=>by simp at h;exact h.inv_nil.trans (by simp)
 | k::ks,[],h=>by simp at h;exact h.inv_nil.trans (by simp)
 | k::ks,a::as,h=>by
   simp only[List.zipWith_cons_cons] at h ⊢;obtain ⟨y,ys',rfl,h1,h2⟩:=h.inv_cons
   cases k with
   | int k=>simp only[PK.val] at h1 ⊢; cases h1;rw[LRel.ints h2]
   | bool=>simp only[PK.val] at h1 ⊢; cases h1;rw[LRel.ints h2]

def uo:Operand->Bool
 | .const _=>true
 | _=>false

section eqs
variable {P:Program} {t:TypeId} (w:World) (d:Nat)
theorem YA (h:P.underlying t=some .bool) (a b:Bool):(Op.equalIn (d+1) t (.bool a) (.bool b)).run P w = .ok (a == b) w:=by rw[Op.equalIn];simp[qy h]
theorem Yz {e:TypeId} (h:P.underlying t=some (.pointer e)) (b:Option Addr):(Op.equalIn (d+1) t (.pointer none) (.pointer b)).run P w = .ok b.isNone w:=by rw[Op.equalIn];simp[qy h]
theorem wE0 {e:TypeId} (h:P.underlying t=some (.pointer e)) (a:Addr):(Op.equalIn (d+1) t (.pointer (some a)) (.pointer none)).run P w = .ok false w:=by rw[Op.equalIn];simp[qy h]
theorem xG0 {ms:Array (String × TypeId)} (h:P.underlying t=some (.interface ms)):(Op.equalIn (d+1) t .nilIface .nilIface).run P w = .ok true w:=by rw[Op.equalIn];simp[qy h]
theorem xD0 {ms:Array (String × TypeId)} (h:P.underlying t=some (.interface ms)) (u:TypeId) (v:Value):(Op.equalIn (d+1) t .nilIface (.iface u v)).run P w = .ok false w:=by rw[Op.equalIn];simp[qy h]
theorem xB0 {ms:Array (String × TypeId)} (h:P.underlying t=some (.interface ms)) (u:TypeId) (v:Value):(Op.equalIn (d+1) t (.iface u v) .nilIface).run P w = .ok false w:=by rw[Op.equalIn];simp[qy h]
theorem qm0 {e:TypeId} (h:P.underlying t=some (.slice e)) (l c:Nat) (b:Option Addr) (l' c' : Nat):(Op.equalIn (d+1) t (.slice none l c) (.slice b l' c')).run P w = .ok b.isNone w:=by rw[Op.equalIn];simp[qy h]
theorem XG {e:TypeId} (h:P.underlying t=some (.slice e)) (a:Addr) (l c:Nat) (l' c' : Nat):(Op.equalIn (d+1) t (.slice (some a) l c) (.slice none l' c')).run P w = .ok false w:=by rw[Op.equalIn];simp[qy h]
theorem wG0 {k e:TypeId} (h:P.underlying t=some (.map k e)) (b:Option Nat):(Op.equalIn (d+1) t (.map none) (.map b)).run P w = .ok b.isNone w:=by rw[Op.equalIn];simp[qy h]
theorem wF0 {k e:TypeId} (h:P.underlying t=some (.map k e)) (b:Nat):(Op.equalIn (d+1) t (.map (some b)) (.map none)).run P w = .ok false w:=by rw[Op.equalIn];simp[qy h]
theorem xI0 {a b:Array TypeId} {v:Bool} (h:P.underlying t=some (.func a b v)):(Op.equalIn (d+1) t .nilFunc .nilFunc).run P w = .ok true w:=by rw[Op.equalIn];simp[qy h]
theorem xH0 {a b:Array TypeId} {v:Bool} (h:P.underlying t=some (.func a b v)) (f:Fn) (xs ys:Array Value):(Op.equalIn (d+1) t (.func f xs ys) .nilFunc).run P w = .ok false w:=by rw[Op.equalIn];simp[qy h]
end eqs

def yI0:Value->Bool
 | .int _ _ | .float _ _ | .complex _ _ _ | .string _=>false
 | _=>true
theorem binOp_eql {P:Program} {t:TypeId} {x y:Value} {w:World} {b:Bool} (hx:yI0 x=true) (h:(Op.equalIn (9999+1) t x y).run P w = .ok b w) :
 (binOp .eql t x y).run P w = .ok (.bool b) w/\(binOp .neq t x y).run P w = .ok (.bool (!b)) w:=by
 have h' : (Op.equal t x y).run P w = .ok b w:=h;cases x <;> simp only[yI0,Bool.false_eq_true] at hx <;> simp only[binOp,Sem.run_bind,h',Result.andThen_ok,Sem.run_pure,and_self]

def Vl:Value->Bool
 | .agg _ | .nilIface=>false
 | _=>true
theorem zu {P:Program} {t:TypeId} {x y:Value} {w:World} (hx:Vl x=true) (op:BinOp) (xo yo:Operand):(eqGuard op t xo yo x y).run P w = .ok () w:=by
 cases op <;> cases x <;> simp only[Vl,Bool.false_eq_true] at hx <;> simp[eqGuard]
theorem uV0 {P:Program} {t:TypeId} {x y:Value} {w:World} (hx:Vl y=true) (op:BinOp) (xo yo:Operand):(eqGuard op t xo yo x y).run P w = .ok () w:=by
 cases op <;> cases y <;> simp only[Vl,Bool.false_eq_true] at hx <;> cases x <;> simp[eqGuard]
theorem wx0 {P:Program} {t:TypeId} {w:World} {xo yo:Operand} (h:(uo xo||uo yo)=true) (op:BinOp):(eqGuard op t xo yo .nilIface .nilIface).run P w = .ok () w:=by
 cases op <;> cases xo <;> cases yo <;> simp[uo] at h <;> simp[eqGuard]

def aeq (P:Program) (T:TT) (H:List Blk) (t:TypeId) (xo yo:Operand) (x y:Value) (K:Bool->Prop):Prop :=
 match tget T t with
 | none=>False
 | some i=>match i.kind,x,y with
   | .int _, .int k a, .int j b=>match zF k j with
     | true=>K (decide (a=b))
     | false=>False
   | .bool, .bool a, .bool b=>K (a == b)
   | .str, .string a, .string b=>K (a.toList == b.toList)
   | .ptr _, .pointer none, .pointer none=>K true
   | .ptr _, .pointer none, .pointer (some _)=>K false
   | .ptr _, .pointer (some _), .pointer none=>K false
   | .iface, .nilIface, .iface _ _=>K false
   | .iface, .iface _ _, .nilIface=>K false
   | .iface, .nilIface, .nilIface=>match uo xo||uo yo with
     | true=>K true
     | false=>False
   | .slice _, .slice none _ _, .slice none _ _=>K true
   | .slice _, .slice (some ⟨b,_,none⟩) (_+1) _, .slice none _ _=>match bget H b with
     | some (.cells _ _ _)=>K false
     | _=>False
   | .slice _, .slice (some ⟨b,_,none⟩) 0 (_+1), .slice none _ _=>match bget H b with
     | some (.cells _ _ _)=>K false
     | _=>False
   | .slice _, .slice (some ⟨_,_,none⟩) 0 0, .slice none _ _=>K true/\K false
   | .map _ _, .map none, .map none=>K true
   | .map _ _, .map (some _), .map none=>K false
   | .func, .nilFunc, .nilFunc=>K true
   | .func, .func _ _ _, .nilFunc=>K false
   | .struct _, .agg xs, .agg ys => ∃ ks,ZE P t ks/\intsOf xs.toList ks (fun as=>intsOf ys.toList ks (fun bs=>K (decide (as=bs))))
   | .arr _ _, .agg xs, .agg ys => ∃ ks,ZE P t ks/\intsOf xs.toList ks (fun as=>intsOf ys.toList ks (fun bs=>K (decide (as=bs))))
   | _,_,_=>False

theorem zR0 {m:LM} {b o l c:Nat} {v:Value} (h:VRel m (.slice (some ⟨b,o,none⟩) (l+1) c) v) (hd:m b≠some .dead) : ∃ a c',v = .slice (some a) (l+1) c' := by
 cases h with
 | slice b o r sh tot esz l c c' h hc hl=>exact⟨_,_,rfl⟩
 | sliceDead b o l c c' a h _=>exact absurd h hd

theorem vA0 {m:LM} {b o c:Nat} {v:Value} (h:VRel m (.slice (some ⟨b,o,none⟩) 0 (c+1)) v) (hd:m b≠some .dead) : ∃ a c',v = .slice (some a) 0 c' := by
 cases h with
 | slice b o r sh tot esz l c c' h hc hl=>exact⟨_,_,rfl⟩
 | sliceDead b o l c c' a h _=>exact absurd h hd

theorem zv0 {P:Program} {t:TypeId} {x y:Array Value} {K:Bool->Prop} {m:LM} {x' y' : Value} (hx:VRel m (.agg x) x') (hy:VRel m (.agg y) y')
 (h : ∃ ks,ZE P t ks/\intsOf x.toList ks (fun as=>intsOf y.toList ks (fun bs=>K (decide (as=bs))))) :
 ∃ b,K b/\(∀ w,(Op.equal t x' y').run P w = .ok b w)/\(∀ (w:World) (op:BinOp) (xo yo:Operand),(eqGuard op t xo yo x' y').run P w = .ok () w)/\(∃ a,x' = .agg a):=by
 obtain ⟨ks,h1,h2⟩:=h;obtain ⟨as,h3,h4,h5,n1⟩:=zk _ _ _ h2;obtain ⟨bs,h6,h7,h8,n2⟩:=zk _ _ _ h3;obtain ⟨xs',rfl,hx1⟩:=hx.inv_agg;obtain ⟨ys',rfl,hy1⟩:=hy.inv_agg;rw[h5] at hx1;rw[h8] at hy1;have ex:xs' = ⟨List.zipWith PK.val ks as⟩:=by have:=hx1.ints;cases xs'; simpa using this
 have ey:ys' = ⟨List.zipWith PK.val ks bs⟩:=by have:=hy1.ints;cases ys'; simpa using this
 subst ex;subst ey;have:=h1 as bs h4 h7;rw[n1,n2] at this;exact⟨_,h6,fun w=>(this w).1,fun w=>(this w).2,_,rfl⟩

theorem zu0 {P:Program} {T:TT} (hT:TOk P T) {H:List Blk} {w:World} {t:TypeId} {xo yo:Operand} {x y:Value} {K:Bool->Prop} {m:LM} {x' y' : Value} (hH:HRel m H w)
 (hx:VRel m x x') (hy:VRel m y y') (h:aeq P T H t xo yo x y K) :
 ∃ b,K b/\(∀ w,(binOp .eql t x' y').run P w = .ok (.bool b) w/\(binOp .neq t x' y').run P w = .ok (.bool (!b)) w)/\(∀ (w:World) (op:BinOp),(eqGuard op t xo yo x' y').run P w = .ok () w):=by
 unfold aeq at h;split at h
 ·exact h.elim
 rename_i i hi;have ht:=(hT.get hi).und;split at h <;> try exact h.elim
 all_goals (rename_i hk;try rw[hk] at ht;simp only[KOk] at ht)
 ·-- int
  split at h
  ·rename_i hs;have:=vU hs;subst this
   cases hx;cases hy;refine⟨_,h,fun w=>⟨?_, ?_⟩,fun w op=>zu rfl op xo yo⟩
   ·simp only[binOp];simp[Op.intCmp];rfl
   ·simp only[binOp];simp[Op.intCmp,bne];rfl
  ·exact h.elim
 ·cases hx;cases hy
  exact⟨_,h,fun w=>binOp_eql rfl (YA w _ ht _ _),fun w op=>zu rfl op xo yo⟩
 ·cases hx;cases hy
  refine⟨_,h,fun w=>⟨?_, ?_⟩,fun w op=>zu rfl op xo yo⟩
  ·simp only[binOp];simp[Op.stringOp]
  ·simp only[binOp];simp[Op.stringOp]
 ·cases hx;cases hy
  exact⟨_,h,fun w=>binOp_eql rfl (Yz w _ ht _),fun w op=>zu rfl op xo yo⟩
 ·cases hx
  cases hy <;> exact⟨_,h,fun w=>binOp_eql rfl (Yz w _ ht _),fun w op=>zu rfl op xo yo⟩
 ·cases hy
  cases hx <;> exact⟨_,h,fun w=>binOp_eql rfl (wE0 w _ ht _),fun w op=>zu rfl op xo yo⟩
 ·obtain ⟨ms,ht⟩:=ht
  cases hx;cases hy;exact⟨_,h,fun w=>binOp_eql rfl (xD0 w _ ht _ _),fun w op=>uV0 rfl op xo yo⟩
 ·obtain ⟨ms,ht⟩:=ht
  cases hx;cases hy;exact⟨_,h,fun w=>binOp_eql rfl (xB0 w _ ht _ _),fun w op=>zu rfl op xo yo⟩
 ·obtain ⟨ms,ht⟩:=ht
  cases hx;cases hy;split at h
  ·rename_i hcst
   exact⟨_,h,fun w=>binOp_eql rfl (xG0 w _ ht),fun w op=>wx0 hcst op⟩
  ·exact h.elim
 ·cases hx;cases hy
  exact⟨_,h,fun w=>binOp_eql rfl (qm0 w _ ht _ _ _ _ _),fun w op=>zu rfl op xo yo⟩
 ·split at h
  ·rename_i hb
   obtain ⟨a,c',rfl⟩:=zR0 hx (fun hd=>by have:=hH.dd _ hd;rw[qV,this] at hb;cases hb);cases hy;exact⟨_,h,fun w=>binOp_eql rfl (XG w _ ht _ _ _ _ _),fun w op=>zu rfl op xo yo⟩
  ·exact h.elim
 ·split at h
  ·rename_i hb
   obtain ⟨a,c',rfl⟩:=vA0 hx (fun hd=>by have:=hH.dd _ hd;rw[qV,this] at hb;cases hb);cases hy;exact⟨_,h,fun w=>binOp_eql rfl (XG w _ ht _ _ _ _ _),fun w op=>zu rfl op xo yo⟩
  ·exact h.elim
 ·obtain ⟨a,c',rfl⟩ : ∃ a c',x' = .slice a 0 c' := by cases hx <;> exact⟨_,_,rfl⟩
  cases hy
  cases a with
  | none=>exact⟨_,h.1,fun w=>binOp_eql rfl (qm0 w _ ht _ _ _ _ _),fun w op=>zu rfl op xo yo⟩
  | some a=>exact⟨_,h.2,fun w=>binOp_eql rfl (XG w _ ht _ _ _ _ _),fun w op=>zu rfl op xo yo⟩
 ·cases hx;cases hy
  exact⟨_,h,fun w=>binOp_eql rfl (wG0 w _ ht _),fun w op=>zu rfl op xo yo⟩
 ·cases hx;cases hy
  exact⟨_,h,fun w=>binOp_eql rfl (wF0 w _ ht _),fun w op=>zu rfl op xo yo⟩
 ·obtain ⟨_,_,_,ht⟩:=ht
  cases hx;cases hy;exact⟨_,h,fun w=>binOp_eql rfl (xI0 w _ ht),fun w op=>zu rfl op xo yo⟩
 ·obtain ⟨_,_,_,ht⟩:=ht
  obtain ⟨f',xs',ys',rfl,_⟩:=hx.inv_func;cases hy;exact⟨_,h,fun w=>binOp_eql rfl (xH0 w _ ht _ _ _),fun w op=>zu rfl op xo yo⟩
 ·obtain ⟨b,h1,h2,h3,a,rfl⟩:=zv0 hx hy h
  obtain ⟨ys',rfl,_⟩:=hy.inv_agg;exact⟨b,h1,fun w=>binOp_eql rfl (h2 w),fun w op=>h3 w op xo yo⟩
 ·obtain ⟨b,h1,h2,h3,a,rfl⟩:=zv0 hx hy h
  obtain ⟨ys',rfl,_⟩:=hy.inv_agg;exact⟨b,h1,fun w=>binOp_eql rfl (h2 w),fun w op=>h3 w op xo yo⟩

end Go.Af
namespace Go.Af
open Go
variable {H:List Blk}

def evK (sl:List (Nat × Value)) (x:Operand) (K:Value->Prop):Prop :=
 match ev sl x with
 | some v=>K v
 | none=>False

def isCells (H:List Blk) (b:Nat) (K:Prop):Prop :=
 match bget H b with
 | some (.cells _ _ _)=>K
 | _=>False
def ql (H:List Blk) (b:Nat) (K:Nat->List Value->Prop):Prop :=
 match bget H b with
 | some (.cells _ z vs)=>K z vs
 | _=>False
def qi (H:List Blk) (b:Nat) (K:Nat->List Value->Prop):Prop :=
 match bget H b with
 | some (.cells true z vs)=>K z vs
 | _=>False
def Qr0 (T:TT) (s d e:TypeId) (c:Nat) (H:List Blk) (b:Nat) (K:List Blk->Prop):Prop :=
 match Nat.beq s d,tget T e with
 | true,some j=>match j.kind with
   | .int .u8=>0<c/\qi H b (fun z vs=>zt H b (.cells false z vs) K)
   | _=>False
 | _,_=>False
theorem qO {b:Nat} {K:Prop} {wr:Bool} {z:Nat} {vs:List Value} (h:bget H b=some (.cells wr z vs)) (k:K):isCells H b K:=by unfold isCells;rw[h];exact k
theorem qF {b:Nat} {K:Nat->List Value->Prop} {wr:Bool} {z:Nat} {vs:List Value} (h:bget H b=some (.cells wr z vs)) (k:K z vs):ql H b K:=by unfold ql;rw[h];exact k
theorem qB0 {b:Nat} {K:Nat->List Value->Prop} {z:Nat} {vs:List Value} (h:bget H b=some (.cells true z vs)) (k:K z vs):qi H b K:=by unfold qi;rw[h];exact k

def fieldAt? : List (Nat × TypeId)->Nat->Option (Nat × TypeId)
 | [],_=>none
 | x::_,0=>some x
 | _::r,n+1=>fieldAt? r n
theorem fieldAt?_eq : ∀ (l:List (Nat × TypeId)) (n:Nat),fieldAt? l n=l[n]?
 | [],_=>by simp[fieldAt?]
 | x::r,0=>rfl
 | x::r,n+1=>by simpa [fieldAt?] using fieldAt?_eq r n

def xh (places:Nat->Option (Nat × Nat)):List Value->List (Nat × Value)->Option (List Value)
 | zs,[]=>some zs
 | zs,(i,v)::r=>match places i with
   | some (off,size)=>match Nat.beq (qG v).length size&&Nat.ble (off+size) zs.length with
     | true=>xh places (setSeg zs off (qG v)) r
     | false=>none
   | none=>none

def QJ (sl:List (Nat × Value)):List (Nat × Operand)->Option (List (Nat × Value))
 | []=>some []
 | (i,x)::r=>match ev sl x with
   | some v=>match QJ sl r with
     | some vs=>some ((i,v)::vs)
     | none=>none
   | none=>none

def Xu (T:TT) (fs:List (Nat × TypeId)) (i:Nat):Option (Nat × Nat) :=
 match fieldAt? fs i with
 | some (off,t)=>match tget T t with
   | some j=>some (off,j.size)
   | none=>none
 | none=>none

def Vr (T:TT):List (Nat × TypeId)->Bool
 | []=>true
 | (_,t)::r=>match tget T t with
   | some _=>Vr T r
   | none=>false

def vS (n:Nat):List Value->List Value
 | [x]=>List.replicate n x
 | z=>(List.replicate n z).flatten

def Qb0:Value := .slice (some ⟨0,0,some 0⟩) 0 0

def Vq (H:List Blk) (size:Nat) (x:Value) (K:Nat->List Value->Prop):Prop :=
 match x with
 | .slice none 0 0=>K 0 []
 | .slice (some ⟨_,_,some _⟩) 0 0=>K 0 []
 | .slice (some ⟨b,o,none⟩) n _=>match bget H b with
   | some (.cells _ _ vs)=>(n=0\/o+n*size<=vs.length)/\∃ new,(vs.drop o).take (n*size)=new/\K n new
   | _=>False
 | .string s=>match size with
   | 1 => ∃ new,s.data.toList.map (fun b=>Value.int .u8 b.toNat)=new/\K s.size new
   | _=>False
 | _=>False

def qm (H:List Blk) (size:Nat) (cells:List Value) (n:Nat) (K:Value->List Blk->Prop):Prop :=
 xB H 0 (.cells true size cells) (fun i H' => K (.slice (some ⟨i,0,none⟩) n n) H')

def qB (H:List Blk) (size bytes:Nat) (s x:Value) (K:Value->List Blk->Prop):Prop :=
 0<size/\Vq H size x (fun n new=>new.all vK=true /\
  match s with
  | .slice none 0 0=>(n=0/\K (.slice none 0 0) H)\/(0<n/\n*(bytes+1)<=70368744177664/\qm H size new n K)
  | .slice (some ⟨b',o',some s'⟩) 0 0=>(n=0/\K (.slice (some ⟨b',o',some s'⟩) 0 0) H)\/(0<n/\n*(bytes+1)<=70368744177664/\qm H size new n K)
  | .slice (some ⟨b,o,none⟩) l c=>(n=0/\l<=c/\K (.slice (some ⟨b,o,none⟩) l c) H) \/
    (0<n/\match bget H b with
      | some (.cells true z vs)=>z=size /\
        ((l+n<=c/\0<c/\o+(l+n)*size<=vs.length/\∃ vs',setSeg vs (o+l*size) new=vs' /\ zt H b (.cells true z vs') (fun H' => K (.slice (some ⟨b,o,none⟩) (l+n) c) H')) \/
         (c<l+n/\(l+n)*(bytes+1)<=70368744177664/\(l=0\/o+l*size<=vs.length)/\∃ cells,(vs.drop o).take (l*size)++new=cells /\
           zt H b .dead (fun H' => qm H' size cells (l+n) K)))
      | _=>False)
  | _=>False)

def zApp (H:List Blk) (size bytes:Nat) (z:List Value) (s x:Value) (K:Value->List Blk->Prop):Prop :=
 match s,x with
 | .slice none 0 0, .int _ v => ∃ n:Nat,v=(n:Int)/\((n=0/\K (.slice none 0 0) H)\/(0<n/\n*(bytes+1)<=70368744177664/\qm H size (vS n z) n K))
 | _,_=>False

/-! ### Maps -/
def MKey (P:Program) (t:TypeId) (ks:List PK):Prop :=
 ZE P t ks/\∀ xs:List Int,xs.length=ks.length->∀ (e:Bool) (w:World),(Instr.checkKey e 10000 t (.agg ⟨List.zipWith PK.val ks xs⟩)).run P w = .ok () w
def Yf (H:List Blk) (b o b' o' : Nat) (K:Bool->Prop):Prop :=
 match Nat.beq b b' with
 | true=>match bget H b with
   | some (.cells _ _ _)=>K (Nat.beq o o')
   | _=>False
 | false=>match bget H b,bget H b' with
   | some (.cells true _ _),some (.cells true _ _)=>K false
   | _,_=>False
def keq (P:Program) (T:TT) (H:List Blk) (t:TypeId) (x y:Value) (K:Bool->Prop):Prop :=
 match tget T t with
 | none=>False
 | some i=>match i.kind,x,y with
   | .int _, .int k a, .int j b=>match zF k j with
     | true=>K (decide (a=b))
     | false=>False
   | .str, .string a, .string b=>K (a.data.toList == b.data.toList)
   | .bool, .bool a, .bool b=>K (a == b)
   | .struct _, .agg xs, .agg ys => ∃ ks,MKey P t ks/\intsOf xs.toList ks (fun as=>intsOf ys.toList ks (fun bs=>K (decide (as=bs))))
   | .arr _ _, .agg xs, .agg ys => ∃ ks,MKey P t ks/\intsOf xs.toList ks (fun as=>intsOf ys.toList ks (fun bs=>K (decide (as=bs))))
   | .ptr e, .pointer (some ⟨b,o,none⟩), .pointer (some ⟨b',o',none⟩)=>match tget T e with
     | some j=>j.size≠0/\Yf H b o b' o' K
     | none=>False
   | _,_,_=>False
def keyK (P:Program) (T:TT) (t:TypeId) (x:Value) (K:Prop):Prop :=
 match tget T t with
 | none=>False
 | some i=>match i.kind,x with
   | .int _, .int _ _=>K
   | .str, .string _=>K
   | .bool, .bool _=>K
   | .struct _, .agg xs => ∃ ks,MKey P t ks/\intsOf xs.toList ks (fun _=>K)
   | .arr _ _, .agg xs => ∃ ks,MKey P t ks/\intsOf xs.toList ks (fun _=>K)
   | .ptr _, .pointer _=>K
   | _,_=>False
def wE (P:Program) (T:TT) (H:List Blk) (t:TypeId) (k:Value):List MapEntry->Nat->(Option Nat->Prop)->Prop
 | [],_,K=>K none
 | e::es,i,K=>keq P T H t k e.key (fun r=>match r with
   | true=>K (some i)
   | false=>wE P T H t k es (i+1) K)
def zG (H:List Blk) (b:Nat) (K:List MapEntry->Prop):Prop :=
 match bget H b with
 | some (.map _ es _)=>K es
 | _=>False
def wZ (H:List Blk) (b:Nat) (K:List MapEntry->Nat->Prop):Prop :=
 match bget H b with
 | some (.map true es clock)=>K es clock
 | _=>False
theorem Xr {b:Nat} {K:List MapEntry->Prop} {wr:Bool} {es:List MapEntry} {c:Nat} (h:bget H b=some (.map wr es c)) (k:K es):zG H b K:=by unfold zG;rw[h];exact k
theorem Qa {b:Nat} {K:List MapEntry->Nat->Prop} {es:List MapEntry} {c:Nat} (h:bget H b=some (.map true es c)) (k:K es c):wZ H b K:=by unfold wZ;rw[h];exact k
def entAt (es:List MapEntry) (p:Nat) (K:MapEntry->Prop):Prop := ∃ e,es[p]? = some e/\K e
def lkK (ok:Bool) (zero:Value) (es:List MapEntry) (r:Option Nat) (K:Value->Prop):Prop :=
 match r with
 | some p=>entAt es p (fun e=>match ok with
   | true=>K (.tuple ⟨[e.val, .bool true]⟩)
   | false=>K e.val)
 | none=>match ok with
   | true=>K (.tuple ⟨[zero, .bool false]⟩)
   | false=>K zero
def mupd (P:Program) (T:TT) (t:TypeId) (m k x:Operand) (sl:List (Nat × Value)) (H:List Blk) (K:Value->List Blk->Prop):Prop :=
 match tget T t with
 | some i=>match i.kind with
   | .map kt _=>match ev sl m,ev sl k,ev sl x with
     | some (.map (some b)),some k,some v=>wZ H b (fun es clock=>keyK P T kt k (wE P T H kt k es 0 (fun r=>match r with
       | some p=>zt H b (.map true (es.modify p (fun e=>{ e with key:=k,val:=v })) clock) (fun H' => K undef H')
       | none=>zt H b (.map true (es ++ [⟨k,v,clock⟩]) (clock+1)) (fun H' => K undef H'))))
     | _,_,_=>False
   | _=>False
 | none=>False
/-! ### Iterators over maps -/
def VS (H:List Blk) (b:Nat) (K:List MapEntry->Nat->Prop):Prop :=
 match bget H b with
 | some (.map _ es c)=>K es c
 | _=>False
def ZM (H:List Blk) (l:Nat) (K:Obj->Prop):Prop :=
 match bget H l with
 | some (.iter o)=>K o
 | _=>False
theorem yF {b:Nat} {K:List MapEntry->Nat->Prop} {wr:Bool} {es:List MapEntry} {c:Nat} (h:bget H b=some (.map wr es c)) (k:K es c):VS H b K:=by unfold VS;rw[h];exact k
theorem QX {l:Nat} {K:Obj->Prop} {o:Obj} (h:bget H l=some (.iter o)) (k:K o):ZM H l K:=by unfold ZM;rw[h];exact k
def uG0 (H:List Blk) (l:Nat) (o:Obj) (K:Value->List Blk->Prop):Prop :=
 match o with
 | .mapIter none _ _ _=>K (.tuple ⟨[.bool false]⟩) H
 | .mapIter (some b) since seen last=>VS H b (fun es c =>
     (seen.isEmpty||es.isEmpty || !(es.all (fun e=>decide (last<=e.born))))=true /\
     (∀ e∈es,seen.contains e.born=false->zt H l (.iter (.mapIter (some b) since (seen.push e.born) c)) (fun H' => K (.tuple ⟨[.bool true,e.key,e.val]⟩) H')) /\
     ((∀ e∈es,e.born<since->seen.contains e.born=true)->K (.tuple ⟨[.bool false]⟩) H))
 | _=>False
def wJ0 (H:List Blk) (o:Obj) (K:Value->List Blk->Prop):Prop :=
 match o with
 | .mapIter (some b) _ seen stepped=>VS H b (fun es c=>c=stepped/\∃ s,seen.back? = some s/\∃ e,es.find? (fun e=>Nat.beq e.born s)=some e/\K (.tuple ⟨[e.key,e.val]⟩) H)
 | _=>False
def xG (P:Program) (T:TT) (o:Op) (sl:List (Nat × Value)) (H:List Blk) (K:Value->List Blk->Prop):Prop :=
 match o with
 | .makeMap t none=>match tget T t with
   | some i=>match i.kind with
     | .map _ _=>xB H 0 (.map true [] 0) (fun n H' => K (.map (some n)) H')
     | _=>False
   | none=>False
 | .mapUpdate t m k x=>mupd P T t m k x sl H K
 | .insert t m k x=>mupd P T t m k x sl H K
 | .mapEntry t m k=>match tget T t with
   | some i=>match i.kind with
     | .map kt et=>match tget T et,ev sl m,ev sl k with
       | some j,some (.map (some b)),some k=>wZ H b (fun es clock=>keyK P T kt k (wE P T H kt k es 0 (fun r=>match r with
         | some p=>entAt es p (fun e=>zt H b (.map true (es.modify p (fun e=>{ e with key:=k })) clock) (fun H' => K (.tuple ⟨[e.val, .int .i64 e.born]⟩) H'))
         | none=>zt H b (.map true (es ++ [⟨k,j.zero,clock⟩]) (clock+1)) (fun H' => K (.tuple ⟨[j.zero, .int .i64 clock]⟩) H'))))
       | _,_,_=>False
     | _=>False
   | none=>False
 | .entryStore _ m s x=>match ev sl m,ev sl s,ev sl x with
   | some (.map (some b)),some (.int _ n),some v=>wZ H b (fun es clock => ∃ p,es.findIdx? (fun e=>decide ((e.born:Int)=n))=some p/\zt H b (.map true (es.modify p (fun e=>{ e with val:=v })) clock) (fun H' => K undef H'))
   | _,_,_=>False
 | .range t x=>match tget T t with
   | some i=>match i.kind with
     | .map _ _=>match ev sl x with
       | some (.map none)=>xB H 0 (.iter (.mapIter none 0 #[] 0)) (fun n H' => K (.pointer (some ⟨n,0,some 0⟩)) H')
       | some (.map (some b))=>VS H b (fun _ c=>xB H 0 (.iter (.mapIter (some b) c #[] c)) (fun n H' => K (.pointer (some ⟨n,0,some 0⟩)) H'))
       | _=>False
     | _=>False
   | none=>False
 | .next x false=>match ev sl x with
   | some (.pointer (some ⟨l,0,some 0⟩))=>ZM H l (fun o=>uG0 H l o K)
   | _=>False
 | .entry x=>match ev sl x with
   | some (.pointer (some ⟨l,0,some 0⟩))=>ZM H l (fun o=>wJ0 H o K)
   | _=>False
 | _=>False

def hiK (sl:List (Nat × Value)) (hi:Option Operand) (l:Nat) (K:Nat->Prop):Prop :=
 match hi with
 | none=>K l
 | some x=>match ev sl x with
   | some (.int _ n) => ∃ h:Nat,n=(h:Int)/\K h
   | _=>False

def Zo (P:Program) (T:TT) (f:Builtin) (args:List Operand) (ats:List TypeId) (sl:List (Nat × Value)) (H:List Blk) (K:Value->List Blk->Prop):Prop :=
 match f with
 | .clear=>match args,ats with
   | [x],[t]=>match tget T t with
     | some i=>match i.kind with
       | .slice e=>match tget T e with
         | some j=>match ev sl x with
           | some (.slice none 0 0)=>K (.tuple ⟨[]⟩) H
           | some (.slice (some ⟨b,o,none⟩) n _)=>(n=0/\K (.tuple ⟨[]⟩) H)\/(0<n/\match bget H b with
             | some (.cells true z vs)=>((0<j.size/\(qG j.zero).length=j.size)/\(qG j.zero).all vK=true/\o+n*j.size<=vs.length)/\∃ vs',setSeg vs o (vS n (qG j.zero))=vs' /\ zt H b (.cells true z vs') (fun H' => K (.tuple ⟨[]⟩) H')
             | _=>False)
           | _=>False
         | none=>False
       | _=>False
     | none=>False
   | _,_=>False
 | .cap=>match args,ats with
   | [x],[t]=>match tget T t with
     | some i=>match i.kind,ev sl x with
       | .slice _,some (.slice none 0 0)=>K (.int .i64 0) H
       | _,_=>False
     | none=>False
   | _,_=>False
 | .copy=>match args,ats with
   | [x,y],[t,_]=>match tget T t with
     | some i=>match i.kind with
       | .slice e=>match tget T e with
         | some j=>match ev sl x,ev sl y with
           | some (.slice none 0 0),some (.slice _ _ _)=>K (.int .i64 0) H
           | some (.slice (some ⟨_,_,none⟩) _ _),some (.slice none 0 0)=>K (.int .i64 0) H
           | some (.slice (some ⟨b,o,none⟩) l _),some (.slice (some ⟨b',o',none⟩) q _) => ∃ n:Nat,n=min q l/\((n=0/\K (.int .i64 0) H)\/(0<n/\match bget H b,bget H b' with
             | some (.cells true z vs),some (.cells _ _ us)=>(o' + n*j.size<=us.length/\o+n*j.size<=vs.length/\((us.drop o').take (n*j.size)).all vK=true)/\∃ vs',setSeg vs o ((us.drop o').take (n*j.size))=vs' /\ zt H b (.cells true z vs') (fun H' => K (.int .i64 n) H')
             | _,_=>False))
           | _,_=>False
         | none=>False
       | _=>False
     | none=>False
   | _,_=>False
 | .delete=>match args,ats with
   | [x,y],[t,_]=>match tget T t with
     | some i=>match i.kind with
       | .map kt _=>match ev sl x,ev sl y with
         | some (.map none),some k=>keyK P T kt k (K (.tuple ⟨[]⟩) H)
         | some (.map (some b)),some k=>wZ H b (fun es clock=>keyK P T kt k (wE P T H kt k es 0 (fun r=>match r with
           | some p=>zt H b (.map true (es.eraseIdx p) clock) (fun H' => K (.tuple ⟨[]⟩) H')
           | none=>zt H b (.map true es clock) (fun H' => K (.tuple ⟨[]⟩) H'))))
         | _,_=>False
       | _=>False
     | none=>False
   | _,_=>False
 | _=>False

def qC (P:Program) (T:TT) (o:Op) (sl:List (Nat × Value)) (H:List Blk) (K:Value->List Blk->Prop):Prop :=
 match o with
 | .move x | .assign x=>evK sl x (fun v=>K v H)
 | .pick c a b=>match ev sl c with
   | some (.bool t)=>match t with
     | true=>evK sl a (fun v=>K v H)
     | false=>evK sl b (fun v=>K v H)
   | _=>False
 | .alloc e=>match tget T e with
   | some i=>uS (qG i.zero) (fun z=>xB H 0 (.cells true 1 z) (fun n H' => K (.pointer (some ⟨n,0,none⟩)) H'))
   | none=>False
 | .box _ x=>evK sl x (fun v=>uS (qG v) (fun z=>xB H 0 (.cells true 1 z) (fun n H' => K (.pointer (some ⟨n,0,none⟩)) H')))
 | .build t ps=>match tget T t with
   | some i=>match QJ sl ps.toList with
     | some pv=>match i.kind with
       | .struct fs=>match Vr T fs with
         | true=>match xh (Xu T fs) (qG i.zero) pv with
           | some zs=>uS zs (fun zs=>K (.agg ⟨zs⟩) H)
           | none=>False
         | false=>False
       | .arr _ e=>match tget T e with
         | some j=>match xh (fun k=>some (k*j.size,j.size)) (qG i.zero) pv with
           | some zs=>uS zs (fun zs=>K (.agg ⟨zs⟩) H)
           | none=>False
         | none=>False
       | _=>False
     | none=>False
   | none=>False
 | .buildSlice t len ps=>match tget T t with
   | some i=>match i.kind with
     | .slice e=>match tget T e with
       | some j=>match QJ sl ps.toList with
         | some pv=>(0<j.size/\(qG j.zero).length=j.size/\len*j.size<=16777216)/\match xh (fun k=>some (k*j.size,j.size)) (vS len (qG j.zero)) pv with
           | some zs=>uS zs (fun zs=>qm H j.size zs len K)
           | none=>False
         | none=>False
       | none=>False
     | _=>False
   | none=>False
 | .load t x=>match tget T t with
   | some i=>match ev sl x with
     | some (.pointer (some ⟨b,o,none⟩))=>ql H b (fun _ vs=>match i.kind.agg with
       | true=>segK vs o i.size (fun seg=>K (.agg ⟨seg⟩) H)
       | false=>Ld vs o (fun v=>K v H))
     | _=>False
   | none=>False
 | .store t x y=>match tget T t with
   | some i=>match ev sl x,ev sl y with
     | some (.pointer (some ⟨b,o,none⟩)),some v=>qi H b (fun z vs=>((qG v).length=i.size/\(qG v).all vK=true/\o+i.size<=vs.length)/\∃ vs',setSeg vs o (qG v)=vs' /\ zt H b (.cells true z vs') (fun H' => K undef H'))
     | _,_=>False
   | none=>False
 | .nilCheck x=>match ev sl x with
   | some (.pointer (some a))=>K (.pointer (some a)) H
   | some (.func (.func f) a c)=>K (.func (.func f) a c) H
   | some (.func (.yield f) a c)=>K (.func (.yield f) a c) H
   | some (.iface t v)=>K (.iface t v) H
   | _=>False
 | .binOp op t x y _=>match ev sl x,ev sl y with
   | some a,some b=>match op with
     | .eql=>aeq P T H t x y a b (fun r=>K (.bool r) H)
     | .neq=>aeq P T H t x y a b (fun r=>K (.bool (!r)) H)
     | op=>abin op a b (fun v=>K v H)
   | _,_=>False
 | .unOp op _ x=>match op,ev sl x with
   | .not,some (.bool b)=>K (.bool (!b)) H
   | .neg,some (.int k n)=>numK k (0-n) (fun v=>K v H)
   | _,_=>False
 | .convert s d x=>match tget T s,tget T d,ev sl x with
   | some i,some j,some v=>match i.kind,j.kind,v with
     | .int _, .int k, .int _ n=>numK k n (fun v=>K v H)
     | .str, .str, .string b=>K (.string b) H
     | .slice _, .slice e, .slice (some ⟨b,o,none⟩) l c=>Qr0 T s d e c H b (fun H' => K (.slice (some ⟨b,o,none⟩) l c) H')
     | _,_,_=>False
   | _,_,_=>False
 | .makeInterface t x=>match tget T t with
   | some i=>match i.kind with
     | .iface=>False
     | _=>evK sl x (fun v=>K (.iface t v) H)
   | none=>False
 | .makeFunc fn first captured=>match evs sl first.toList,evs sl captured.toList with
   | some a,some b=>match fn with
     | .yield _=>False
     | fn=>K (.func fn ⟨a⟩ ⟨b⟩) H
   | _,_=>False
 | .makeSlice t l c=>match tget T t with
   | some i=>match i.kind with
     | .slice e=>match tget T e with
       | some j=>match ev sl l,ev sl c with
         | some (.int _ li),some (.int _ ci)=>(0<j.size/\(qG j.zero).length=j.size)/\∃ n c:Nat,(li=n/\ci=c)/\(n<=c/\c*(j.bytes+1)<=70368744177664)/\∃ vs,vS c (qG j.zero)=vs /\
            xB H 0 (.cells true j.size vs) (fun i H' => K (.slice (some ⟨i,0,none⟩) n c) H')
         | _,_=>False
       | none=>False
     | _=>False
   | none=>False
 | .slice t x lo hi mx=>match tget T t with
   | some i=>match i.kind with
     | .slice e=>match tget T e with
       | some j=>match ev sl x with
         | some (.slice none 0 0)=>match mx with
           | none=>hiK sl hi 0 (fun h=>hiK sl lo 0 (fun l=>l=0/\h=0/\K (.slice none 0 0) H))
           | some _=>hiK sl mx 0 (fun m=>hiK sl hi 0 (fun h=>hiK sl lo 0 (fun l=>l=0/\h=0/\m=0/\hi.isSome=true/\K (.slice none 0 0) H)))
         | some (.slice (some ⟨b,o,none⟩) n c)=>match mx with
           | none=>ql H b (fun z _=>z=j.size/\hiK sl hi n (fun h=>hiK sl lo 0 (fun l=>(l<=h/\h<=c)/\K (.slice (some ⟨b,o+l*j.size,none⟩) (h-l) (c-l)) H)))
           | some _=>hiK sl mx 0 (fun m=>hiK sl hi 0 (fun h=>hiK sl lo 0 (fun l=>l=h/\h=m/\m<=c/\hi.isSome=true/\K Qb0 H)))
         | _=>False
       | none=>False
     | .str=>match ev sl x,mx with
       | some (.string s),none=>hiK sl hi s.size (fun h=>hiK sl lo 0 (fun l=>(l<=h/\h<=s.size)/\K (.string (s.extract l h)) H))
       | _,_=>False
     | _=>False
   | none=>False
 | .fieldAddr s x f=>match tget T s with
   | some i=>match i.kind with
     | .struct fs=>match fieldAt? fs f with
       | some (off,t)=>match tget T t,ev sl x with
         | some j,some (.pointer (some ⟨b,o,none⟩))=>j.size≠0/\isCells H b (K (.pointer (some ⟨b,o+off,none⟩)) H)
         | _,_=>False
       | none=>False
     | _=>False
   | none=>False
 | .field t x f=>match tget T t with
   | some i=>match i.kind with
     | .struct fs=>match fieldAt? fs f with
       | some (off,ft)=>match tget T ft,ev sl x with
         | some j,some (.agg cs)=>match j.kind.agg with
           | true=>off+j.size<=cs.toList.length/\uS ((cs.toList.drop off).take j.size) (fun l=>K (.agg ⟨l⟩) H)
           | false=>Ld cs.toList off (fun v=>K v H)
         | _,_=>False
       | none=>False
     | _=>False
   | none=>False
 | .indexAddr t x i=>match tget T t with
   | some ti=>match ev sl i with
     | some (.int _ n)=>match ti.kind with
       | .slice e=>match tget T e,ev sl x with
         | some j,some (.slice (some ⟨b,o,none⟩) l _)=>isCells H b (∃ k:Nat,n=(k:Int)/\k<l/\K (.pointer (some ⟨b,o+k*j.size,none⟩)) H)
         | _,_=>False
       | .arr len e=>match tget T e,ev sl x with
         | some j,some (.pointer (some ⟨b,o,none⟩))=>isCells H b (∃ k:Nat,n=(k:Int)/\k<len/\K (.pointer (some ⟨b,o+k*j.size,none⟩)) H)
         | _,_=>False
       | _=>False
     | _=>False
   | none=>False
 | .index t x i=>match tget T t with
   | some ti=>match ev sl i,ev sl x with
     | some (.int _ n),some (.string s)=>match ti.kind with
       | .str => ∃ (k:Nat) (b:UInt8),n=(k:Int)/\s[k]? = some b/\K (.int .u8 b.toNat) H
       | _=>False
     | some (.int _ n),some (.agg cs)=>match ti.kind with
       | .arr len e=>match tget T e with
         | some j => ∃ k:Nat,(n=(k:Int)/\k<len)/\match j.kind.agg with
           | true=>k*j.size+j.size<=cs.toList.length/\uS ((cs.toList.drop (k*j.size)).take j.size) (fun l=>K (.agg ⟨l⟩) H)
           | false=>Ld cs.toList (k*j.size) (fun v=>K v H)
         | none=>False
       | _=>False
     | _,_=>False
   | none=>False
 | .typeAssert x _ a ok=>match tget T a with
   | some i=>match i.kind with
     | .iface=>False
     | _=>match ev sl x with
       | some (.iface t v)=>match Nat.beq t a,ok with
         | true,true=>K (.tuple ⟨[v, .bool true]⟩) H
         | true,false=>K v H
         | false,true=>K (.tuple ⟨[i.zero, .bool false]⟩) H
         | false,false=>False
       | _=>False
   | none=>False
 | .extract t i=>match ev sl t with
   | some (.tuple vs)=>Ld vs.toList i (fun v=>K v H)
   | _=>False
 | .call c=>match c.callee with
   | .builtin .len=>match c.args.toList,c.argTypes.toList with
     | [x],[t]=>match tget T t,ev sl x with
       | some i,some v=>match i.kind,v with
         | .slice _, .slice _ l _=>K (.int .i64 l) H
         | .str, .string s=>K (.int .i64 s.size) H
         | .arr n _,_=>K (.int .i64 n) H
         | .map _ _, .map none=>qj0 c.argTypes=true/\K (.int .i64 0) H
         | .map _ _, .map (some b)=>qj0 c.argTypes=true/\zG H b (fun es=>K (.int .i64 es.length) H)
         | _,_=>False
       | _,_=>False
     | _,_=>False
   | .builtin .append=>match c.args.toList,c.argTypes.toList with
     | [s,x],[ts,tx]=>match tget T ts,tget T tx,ev sl s,ev sl x with
       | some i,some ix,some sv,some xv=>match i.kind with
         | .slice e=>match tget T e with
           | some j=>match ix.kind with
             | .slice _=>(qG j.zero).length=j.size/\qB H j.size j.bytes sv xv K
             | .str=>(qG j.zero).length=j.size/\qB H j.size j.bytes sv xv K
             | .int _=>(0<j.size/\(qG j.zero).length=j.size)/\zApp H j.size j.bytes (qG j.zero) sv xv K
             | _=>False
           | none=>False
         | _=>False
       | _,_,_,_=>False
     | _,_=>False
   | .builtin .max=>match c.args.toList with
     | [x,y]=>match ev sl x,ev sl y with
       | some (.int k a),some (.int j b)=>match zF k j with
         | true=>K (.int k (max a b)) H
         | false=>False
       | _,_=>False
     | [x,y,z]=>match ev sl x,ev sl y,ev sl z with
       | some (.int k a),some (.int j b),some (.int i c)=>match zF k j&&zF k i with
         | true=>K (.int k (max (max a b) c)) H
         | false=>False
       | _,_,_=>False
     | _=>False
   | .builtin .min=>match c.args.toList with
     | [x,y]=>match ev sl x,ev sl y with
       | some (.int k a),some (.int j b)=>match zF k j with
         | true=>K (.int k (min a b)) H
         | false=>False
       | _,_=>False
     | [x,y,z]=>match ev sl x,ev sl y,ev sl z with
       | some (.int k a),some (.int j b),some (.int i c)=>match zF k j&&zF k i with
         | true=>K (.int k (min (min a b) c)) H
         | false=>False
       | _,_,_=>False
     | _=>False
   | .builtin f=>Zo P T f c.args.toList c.argTypes.toList sl H K
   | _=>False
 | .lookup t x ix ok=>match tget T t with
   | some i=>match i.kind with
     | .map kt et=>match tget T et,ev sl x,ev sl ix with
       | some j,some (.map none),some k=>keyK P T kt k (lkK ok j.zero [] none (fun v=>K v H))
       | some j,some (.map (some b)),some k=>zG H b (fun es=>keyK P T kt k (wE P T H kt k es 0 (fun r=>lkK ok j.zero es r (fun v=>K v H))))
       | _,_,_=>False
     | _=>False
   | none=>False
 | o=>xG P T o sl H K

end Go.Af
namespace Go.Af
open Go

section
variable {P:Program} {T:TT} {sl:List (Nat × Value)} {H:List Blk} {K:Value->List Blk->Prop} {o:Oper}

theorem Qi {x:Operand} {K:Value->Prop} (h:evK sl x K) : ∃ v,ev sl x=some v/\K v:=by
 unfold evK at h;split at h
 ·rename_i v hv;exact⟨v,hv,h⟩
 ·exact h.elim

theorem wF (v:Value):qG v=v.cells.toList:=by cases v <;> rfl

/-! #### build -/

theorem VY : ∀ (l:List Value) (k off:Nat) (cs:Array Value),((l.zipIdx k).foldl (fun (cs:Array Value) (x:Value × Nat)=>cs.setIfInBounds (off+x.2) x.1) cs).toList=setSeg cs.toList (off+k) l
 | [],k,off,cs=>by simp[setSeg]
 | x::l,k,off,cs=>by
   simp only[List.zipIdx_cons,List.foldl_cons,setSeg];rw[VY l (k+1) off];simp[Nat.add_assoc]

theorem LRel.setSeg {m:LM} : ∀ {xs ys:List Value} (_:LRel m xs ys) {zs cs:List Value} (_:LRel m zs cs) (off:Nat),LRel m (setSeg zs off xs) (setSeg cs off ys)
 | [],ys,h,zs,cs,hz,off=>by have:=h.inv_nil;subst this;exact hz
 | x::xs,ys,h,zs,cs,hz,off=>by
   obtain ⟨y,ys',rfl,h1,h2⟩:=h.inv_cons;exact LRel.setSeg h2 (hz.set off h1) (off+1)

theorem WB {m:LM} {places:Nat->Option (Nat × Nat)} : ∀ {pv pvR:List (Nat × Value)} (_:pv.map (·.1)=pvR.map (·.1)) (_:LRel m (pv.map (·.2)) (pvR.map (·.2))) {zs:List Value} {cs:Array Value} (_:LRel m zs cs.toList) {out:List Value}
 (_:xh places zs pv=some out), ∃ cs',Instr.fill places cs pvR=some cs' /\ LRel m out cs'.toList
 | [],pvR,h1,_,zs,cs,hz,out,h=>by
   cases pvR with
   | nil=>cases h;exact⟨cs,rfl,hz⟩
   | cons _ _=>simp at h1
 | (i,v)::r,pvR,h1,h2,zs,cs,hz,out,h=>by
   cases pvR with
   | nil=>simp at h1
   | cons p rR =>
     obtain ⟨i',v'⟩:=p;simp at h1;obtain ⟨rfl,h1⟩:=h1;obtain ⟨y,ys,e,hv,hr⟩:=LRel.inv_cons (x:=v) (xs:=r.map (·.2)) (by simpa using h2);simp at e;obtain ⟨rfl,rfl⟩:=e;simp only[xh] at h;split at h
     ·rename_i off size hp
      split at h
      ·rename_i hc
       simp only[Bool.and_eq_true] at hc;obtain ⟨hc1,hc2⟩:=hc;have hc1:=Nat.eq_of_beq_eq_true hc1;have hc2:=Nat.le_of_ble_eq_true hc2;have hcell:=hv.cells;have hlen:=hcell.1
       have hz' : LRel m (Af.setSeg zs off (qG v)) ((v'.cells.zipIdx.foldl (fun (cs:Array Value) (x:Value × Nat)=>cs.setIfInBounds (off+x.2) x.1) cs)).toList:=by
        rw[<- Array.foldl_toList,Array.toList_zipIdx,VY];exact LRel.setSeg hcell hz _
       obtain ⟨cs',g1,g2⟩:=WB h1 hr hz' h;refine⟨cs', ?_,g2⟩;simp only[Instr.fill,hp];have hs:v'.cells.size=size:=by rw[<- hc1,hlen];simp
       have hcs:cs.size=zs.length:=by rw[hz.1];simp
       rw[if_neg (by rw[hs];simp;omega)];exact g1
      ·cases h
     ·cases h

theorem uU {m:LM} {aR:Act} (hs:zx m sl aR.tmps) : ∀ {ps:List (Nat × Operand)} {pv:List (Nat × Value)} (_:QJ sl ps=some pv),
 pv.map (·.1)=(ps.map fun (i,x)=>(i,aR.eval x)).map (·.1)/\LRel m (pv.map (·.2)) ((ps.map fun (i,x)=>(i,aR.eval x)).map (·.2))
 | [],pv,h=>by cases h;exact⟨rfl, .nil m⟩
 | (i,x)::r,pv,h=>by
   simp only[QJ] at h;split at h
   ·rename_i v hv
    split at h
    ·rename_i vs hr
     cases h;obtain ⟨h1,h2⟩:=uU hs hr;exact⟨by simpa using h1,by simpa using LRel.cons (qH hs hv) h2⟩
    ·cases h
   ·cases h

theorem QV {α β : Type} {P:Program} {w:World} {f : α->Sem β} {g : α->β} : ∀ (l:List α) (_ : ∀ x∈l,(f x).run P w = .ok (g x) w),(l.mapM f).run P w = .ok (l.map g) w
 | [],_=>by simp
 | x::l,h=>by
   simp only[List.mapM_cons,Sem.run_bind,h x (by simp),Result.andThen_ok,QV l (fun y hy=>h y (by simp[hy])),Sem.run_pure,List.map_cons]

theorem zZ0 {α β : Type} {P:Program} {w:World} {f : α->Sem β} {g : α->β} (l:Array α) (h : ∀ x∈l,(f x).run P w = .ok (g x) w):(l.mapM f).run P w = .ok (l.map g) w:=by
 rw[Array.mapM_eq_mapM_toList];have:=QV (f:=f) (g:=g) (P:=P) (w:=w) l.toList (fun x hx=>h x (by simpa using hx));simp[this];rw[<- Array.toList_map]

theorem uA : ∀ {fs:List (Nat × TypeId)} (_:Vr T fs=true) {x:Nat × TypeId} (_:x∈fs), ∃ j,tget T x.2=some j
 | [],_,x,hx=>by simp at hx
 | (o,t)::r,h,x,hx=>by
   simp only[Vr] at h;split at h
   ·rename_i j hj
    rcases List.mem_cons.1 hx with e | e
    ·subst e;exact⟨j,hj⟩
    ·exact uA h e
   ·cases h

theorem Qw (n:Nat) (z:List Value):(vS n z).length=n*z.length:=by
 unfold vS;split <;> simp

theorem Zj {s:Nat} {z:List Value} (hz:z.length=s) (hs:0<s) : ∀ (n i:Nat),i<n*s->((List.replicate n z).flatten)[i]? = z[i % s]?
 | 0,i,hi=>by simp at hi
 | n+1,i,hi=>by
   rw[List.replicate_succ,List.flatten_cons,List.getElem?_append];split
   ·rw[Nat.mod_eq_of_lt (by omega)]
   ·have h1:s<=i:=by omega
    rw[hz,Zj hz hs n (i-s) (by rw[Nat.succ_mul] at hi;omega),Nat.mod_eq_sub_mod h1]

theorem YO {n s:Nat} {z:List Value} (hz:z.length=s) (hs:0<s) {i:Nat} (hi:i<n*s):(vS n z)[i]? = z[i % s]? := by
 unfold vS;split
 ·rename_i x
  simp at hz;subst hz;rw[List.getElem?_replicate];simp at hi;simp[hi,Nat.mod_one]
 ·exact Zj hz hs n i hi

theorem LRel.refl_all {m:LM} {l:List Value} (h : ∀ v∈l,VRel m v v):LRel m l l :=
 ⟨rfl,fun i x y hx hy=>by rw[hx] at hy;cases hy;exact h x (List.mem_of_getElem? hx)⟩

theorem wQ {t:TypeId} {i:TI} (h:TIOk P t i) (m:LM):VRel m i.zero i.zero:=VRel.plain m 6 _ h.plain

theorem Vu {n s:Nat} {z:Array Value} (hz:z.size=s) (hs:0<s):((Array.range (n*s)).map (fun i=>z[i % z.size]!)).toList=vS n z.toList:=by
 apply List.ext_getElem?
 intro i;by_cases hi:i<n*s
 ·rw[YO (z:=z.toList) (by simpa using hz) hs hi]
  have hm:i % s<z.size:=by rw[hz];exact Nat.mod_lt _ hs
  rw[hz];simp[hi,hm,getElem!_def]
 ·rw[List.getElem?_eq_none (by simp;omega),List.getElem?_eq_none (by rw[Qw];simp[hz];omega)]

theorem LRel.segOf {m:LM} {xs ys:List Value} (h:LRel m xs ys) (a n:Nat):LRel m ((xs.drop a).take n) ((ys.drop a).take n):=(h.drop a).take n

end
end Go.Af
namespace Go.Af
open Go

theorem VR {P:Program} : ∀ (xs:List Value) {w:World} {r o i:Nat} {c:Array Value} {e:TypeId} {f:Nat × Nat} (_:w.heap[r]? = some (.cells c e f)) (_ : ∀ j, ¬ (f.1<=j/\j<f.2)) (_:o+i+xs.length<=c.size)
 (_:xs.all (fun v=>v.oneCell')=true),
 ∃ w' c',(storeCells ⟨r,o,none⟩ xs i).run P w = .ok () w' /\ w'.heap[r]? = some (.cells c' e f)/\c'.toList=setSeg c.toList (o+i) xs/\w'.heap.size=w.heap.size/\(∀ r',r' ≠ r->w'.heap[r']? = w.heap[r']?)/\OutEq w w'
 | [],w,r,o,i,c,e,f,hw,_,_,_=>⟨w,c,by simp[storeCells],hw,rfl,rfl,fun _ _=>rfl, .refl _⟩
 | x::xs,w,r,o,i,c,e,f,hw,hf,hl,hone=>by
   simp only[List.length_cons] at hl;simp only[List.all_cons,Bool.and_eq_true] at hone;have hc:w.cell? ⟨r,o+i,none⟩=some (c[o+i]'(by omega)):=by simp[World.cell?,hw]
   have hfz:w.frozen? ⟨r,o+i,none⟩=false:=by
    obtain ⟨lo,hi⟩:=f;have:=hf (o+i);simp only[World.frozen?,hw];simpa using this
   have h1:=run_store P w ⟨r,o+i,none⟩ x .plain hone.1;simp only[hc,hfz,Bool.false_eq_true,if_false] at h1;obtain ⟨w',c',g1,g2,g3,g4,g5,g6⟩:=VR xs (w:=w.setCell ⟨r,o+i,none⟩ x) (o:=o) (i:=i+1) (uH hw) hf (by simp;omega) hone.2;refine⟨w',c', ?_,g2, ?_, ?_, ?_,(show OutEq w (w.setCell _ _) from ⟨rfl,rfl,rfl,by first | exact Nat.le_refl _ | exact Nat.le_succ _ | (simp;done) | (simp;omega)⟩).trans g6⟩
   ·simp only[storeCells,addr_add,Sem.run_bind,h1,Result.andThen_ok];exact g1
   ·rw[g3];simp only[setSeg,Nat.add_assoc,Array.toList_setIfInBounds]
   ·rw[g4,VP]
   ·intro r' hr'; rw[g5 r' hr',xN hr']

theorem ZI : ∀ (xs vs:List Value) (o i:Nat),o+xs.length<=vs.length->(setSeg vs o xs)[i]? = if o<=i/\i<o+xs.length then xs[i-o]? else vs[i]?
 | [],vs,o,i,h=>by
   simp only[setSeg,List.length_nil,Nat.add_zero];rw[if_neg (by omega)]
 | x::xs,vs,o,i,h=>by
   simp only[List.length_cons] at h;simp only[setSeg,List.length_cons];rw[ZI xs (vs.set o x) (o+1) i (by simp;omega)];by_cases h1:o+1<=i/\i<o+1+xs.length
   ·rw[if_pos h1,if_pos (by omega)]
    have:i-o=(i-(o+1))+1:=by omega
    rw[this];simp
   ·rw[if_neg h1]
    by_cases h2:i=o
    ·subst h2
     rw[if_pos (by omega),List.getElem?_set];simp;omega
    ·rw[if_neg (by omega),List.getElem?_set]
     simp[Ne.symm h2]

section
variable {P:Program} {H:List Blk} {m:LM} {w:World}

theorem vf0 {size:Nat} {x xR:Value} {K:Nat->List Value->Prop} (hH:HRel m H w) (hx:VRel m x xR) (h:Vq H size x K) :
 ∃ (n:Nat) (new:List Value) (newR:Array Value),K n new/\(Builtin.lenOf xR).run P w = .ok n w/\(∀ d,(Builtin.firstCells size n xR).run P { w with drawn:=d } = .ok newR { w with drawn:=d })/\LRel m new newR.toList/\new.length=n*size:=by
 unfold Vq at h;split at h
 ·cases hx
  exact⟨0,[], #[],h,by simp[Builtin.lenOf],fun d=>by simp[Builtin.firstCells], .nil m,by simp⟩
 ·cases hx
  rename_i a;refine⟨0,[], #[],h,by simp[Builtin.lenOf],fun d=>?_, .nil m,by simp⟩;cases a <;> simp[Builtin.firstCells,loadCells,loadCellsFrom]
 ·rename_i b o n cp
  split at h
  ·rename_i wr z vs hb
   rw[qV] at hb;obtain ⟨h0,new,hnew,hk⟩:=h
   have hnl:new.length=n*size:=by
    rw[<- hnew];simp;rcases h0 with h0 | h0
    ·subst h0;simp
    ·omega
   cases hx with
   | slice _ _ r sh tot esz _ _ c' hm hc hl =>
     rcases h0 with h0 | h0
     ·subst h0
      refine⟨0,new, #[],hk,by simp[Builtin.lenOf],fun d=>by simp[Builtin.firstCells,loadCells,loadCellsFrom], ?_,hnl⟩;rw[<- hnew];simp;exact .nil m
     ·obtain ⟨xs,g1,g2⟩:=run_loadCells (P:=P) hH hm hb o (n*size) h0
      exact⟨n,new,xs,hk,by simp[Builtin.lenOf],fun d=>by simpa [Builtin.firstCells] using g1 d,by rw[<- hnew];exact g2,hnl⟩
   | sliceZero _ _ a =>
     refine⟨0,new, #[],hk,by simp[Builtin.lenOf],fun d=>?_, ?_,hnl⟩
     ·cases a <;> simp[Builtin.firstCells,loadCells,loadCellsFrom]
     ·rw[<- hnew];simp;exact .nil m
   | sliceDead _ _ _ _ _ a hd _=>have:=hH.dd _ hd;rw[this] at hb;cases hb
  ·exact h.elim
 ·rename_i s
  split at h
  ·obtain ⟨new,hnew,hk⟩:=h
   cases hx;refine⟨s.size,new,(s.data.map fun b=>Value.int .u8 b.toNat),hk,by simp[Builtin.lenOf],fun d=>?_, ?_, ?_⟩
   ·have:s.extract 0 s.size=s:=by ext1;simp
    simp[Builtin.firstCells,this]
   ·rw[<- hnew]
    simp only[Array.toList_map];exact LRel.refl_all (fun v hv=>by obtain ⟨b,_,rfl⟩:=List.mem_map.1 hv;exact .int _ _)
   ·rw[<- hnew];simp
  ·exact h.elim
 ·exact h.elim

theorem UB {xs ys:List Value} (h:LRel m xs ys) (ho:xs.all vK=true):ys.all (fun v=>v.oneCell')=true:=by
 rw[List.all_eq_true];intro y hy;obtain ⟨i,hi⟩:=List.getElem?_of_mem hy;have hl:i<xs.length:=by rw[h.1];exact (List.getElem?_eq_some_iff.1 hi).1
 have:=h.2 i xs[i] y (List.getElem?_eq_getElem hl) hi;rw[this.oneCell];exact List.all_eq_true.1 ho _ (List.getElem_mem hl)

def zW (m:LM) (H:List Blk) (w:World) (K:Value->List Blk->Prop) (vR:Value) (w' : World):Prop :=
 ∃ v H' m',K v H' /\ VRel m' v vR/\HRel m' H' w' /\ Fr H.length m H w m' H' w'

theorem wd0 {size n nR:Nat} {cells:List Value} {cellsR:Array Value} {e:TypeId} {K:Value->List Blk->Prop} {d:Nat} (hH:HRel m H w) (hs:0<size) (hn:n<=nR) (hsz:cellsR.size=nR*size)
 (hc : ∀ (i:Nat) (v:Value),cells[i]? = some v->∃ v',cellsR[i]? = some v' /\ VRel m v v') (hk:qm H size cells n K) (hd:w.drawn<=d:=by first | exact Nat.le_refl _ | exact Nat.le_succ _ | assumption) :
 zW m H w K (.slice (some ⟨w.heap.size,0,none⟩) n nR) { w with heap:=w.heap.push (.cells cellsR e),drawn:=d }:=by
 simp only[qm,vH,Nat.zero_add] at hk;have hl:vI (some (.cel w.heap.size 0 cellsR.size size))=some w.heap.size:=rfl;have h1:=hH.alloc (b := .cells true size cells) (o := .cells cellsR e) hl ?_
 ·have f1:=Fr.alloc hH (.cells true size cells) (.cells cellsR e) hl
  refine⟨_,_,_,hk, ?_,h1.drawn d,f1.trans (Fr.drawn d)⟩;exact .slice _ _ _ _ _ _ _ _ _ (LM.put_self _ _ _) hn (.inr (by simp[hsz]))
 ·refine⟨cellsR,e,(0,0),by simp,fun i v hv=>?_, .inr rfl,fun _=>⟨fun j hj=>by omega,rfl,hs,rfl⟩⟩
  obtain ⟨v',g1,g2⟩:=hc i v hv;exact⟨v',by simpa using g1,g2.mono (LM.le_put hH.none_len)⟩

theorem HRel.kill (hH:HRel m H w) {b r sh tot esz:Nat} (hm:m b=some (.cel r sh tot esz)) {z:Nat} {vs:List Value} (hb:H[b]? = some (.cells true z vs)) :
 HRel (m.put b .dead) (H.set b .dead) w/\Fr H.length m H w (m.put b .dead) (H.set b .dead) w/\m.le (m.put b .dead):=by
 have hle:m.le (m.put b .dead):=LM.le_kill (fun l hl=>by rw[hm] at hl;cases hl;exact .inr ⟨_,_,_,_,rfl⟩);have hbl:=hH.dom b _ hm;refine⟨⟨fun i l hi=>?_,fun i l b' hi hd hb' => ?_,fun i hi=>?_,fun i j r' b' hi hb' hw hj=>?_⟩,⟨Nat.le_refl _,fun _=>by simp,fun i hi l hl=>?_,fun i hi hl=>?_,fun i hi b' hb' hr' => ?_,fun r' hr' hw=>⟨rfl,fun ⟨i,b',k1,k2,k3⟩=>?_⟩, .refl _⟩,hle⟩
 ·by_cases e:i=b
  ·subst e;simpa using hbl
  ·rw[LM.put_ne m _ e] at hi;simpa using hH.dom i l hi
 ·by_cases e:i=b
  ·subst e;rw[LM.put_self] at hi;cases hi;exact absurd rfl hd
  ·rw[LM.put_ne m _ e] at hi
   rw[List.getElem?_set] at hb';simp[Ne.symm e] at hb';exact (hH.blk i l b' hi hd hb').mono hle
 ·by_cases e:i=b
  ·subst e;rw[List.getElem?_set];simp[hbl]
  ·rw[LM.put_ne m _ e] at hi
   rw[List.getElem?_set];simp[Ne.symm e];exact hH.dd i hi
 ·by_cases e:i=b
  ·subst e;rw[LM.put_self] at hi;cases hi
  ·rw[LM.put_ne m _ e] at hi
   rw[List.getElem?_set] at hb';simp[Ne.symm e] at hb';by_cases e' : j=b
   ·subst e'; rw[LM.put_self] at hj;cases hj
   ·rw[LM.put_ne m _ e'] at hj
    exact hH.own i j r' b' hi hb' hw hj
 ·by_cases e:i=b
  ·subst e;rw[hm] at hl;cases hl
   exact .inr ⟨LM.put_self _ _ _,⟨_,_,_,_,rfl⟩,_,hb,rfl⟩
  ·exact .inl (by rw[LM.put_ne m _ e];exact hl)
 ·by_cases e:i=b
  ·subst e;rw[hm] at hl;cases hl
  ·rw[LM.put_ne m _ e];exact hl
 ·rw[List.getElem?_set] at hb'
  by_cases e:b=i
  ·subst e;simp[hbl] at hb'; subst hb'; cases hr'
  ·simp[e] at hb'; exact⟨b',hb',hr'⟩
 ·by_cases e:i=b
  ·subst e;rw[LM.put_self] at k1;cases k1
  ·rw[LM.put_ne m _ e] at k1
   rw[List.getElem?_set] at k2;simp[Ne.symm e] at k2;exact hw ⟨i,b',k1,k2,k3⟩

theorem xs0 {size n o:Nat} {c c' : Array Value} {e:TypeId} {f:Nat × Nat} {cells:List Value} {w' : World} {K:Value->List Blk->Prop} (hH:HRel m H w) {b r sh tot esz cR:Nat} (hm:m b=some (.cel r sh tot esz)) {vs:List Value}
 (hb:H[b]? = some (.cells true size vs)) (hw:w.heap[r]? = some (.cells c e f)) (hw' : w'.heap[r]? = some (.cells c' e f)) (hsz:w'.heap.size=w.heap.size) (hot : ∀ r',r' ≠ r->w'.heap[r']? = w.heap[r']?) (hout:OutEq w w') (hcs:c'.size=c.size)
 (hn:n<=cR) (hlim:sh+o+cR*esz<=tot)
 (hc : ∀ (i:Nat) (v:Value),cells[i]? = some v->∃ v',c'[sh+o+i]? = some v' /\ VRel m v v') (hk:zt H b .dead (fun H' => qm H' size cells n K)) :
 zW m H w K (.slice (some ⟨r,sh+o,none⟩) n cR) w' := by
 simp only[qP,qm,vH,Nat.zero_add] at hk;obtain ⟨c0,e0,f0,q1,q2,q3,q4⟩:=hH.cells hm hb;rw[hw] at q1;cases q1;obtain ⟨q5,q6,q7,q8⟩:=q4 rfl;obtain ⟨k1,k2,k3⟩:=hH.kill hm hb;have hmr:vI (m b)=some r:=by rw[hm];rfl
 have hbl:=hH.dom b _ hm;have hlen:(H.set b .dead).length=H.length:=by simp
 -- nothing else lies in r
 have alone : ∀ i,vI ((m.put b .dead) i)=some r->False:=fun i hi=>by
  by_cases e:i=b
  ·subst e;rw[LM.put_self] at hi;cases hi
  ·rw[LM.put_ne m _ e] at hi
   exact e (hH.own b i r _ hmr hb rfl hi).symm
 have k1' : HRel (m.put b .dead) (H.set b .dead) w' := k1.same (fun i r' hi=>hot r' (fun e=>alone i (e ▸ hi)));have hnone:=k1'.none_len
 let m2:=(m.put b .dead).put (H.set b .dead).length (.cel r (sh+o) tot esz)
 have hle2:(m.put b .dead).le m2:=LM.le_put hnone
 have hH2:HRel m2 (H.set b .dead ++ [.cells true size cells]) w' := by
  refine⟨fun i l hi=>?_,fun i l b' hi hd hb' => ?_,fun i hi=>?_,fun i j r' b' hi hb' hw hj=>?_⟩
  ·by_cases e:i=(H.set b .dead).length
   ·subst e;simp
   ·simp only[m2,LM.put_ne _ _ e] at hi;have:=k1'.dom i l hi;simp at this ⊢; omega
  ·by_cases e:i=(H.set b .dead).length
   ·subst e
    simp only[m2,LM.put_self] at hi;cases hi;rw[List.getElem?_append_right (Nat.le_refl _)] at hb'; simp at hb'; subst hb';refine⟨c',_,f,hw',fun i v hv=>?_, .inr q6,fun _=>⟨q5,q6,q7,by rw[q8,hcs]⟩⟩;obtain ⟨v',g1,g2⟩:=hc i v hv;exact⟨v',g1,g2.mono (k3.trans hle2)⟩
   ·simp only[m2,LM.put_ne _ _ e] at hi
    have hl:=k1'.dom i _ hi;rw[List.getElem?_append_left hl] at hb';exact (k1'.blk i l b' hi hd hb').mono hle2
  ·by_cases e:i=(H.set b .dead).length
   ·subst e;simp only[m2,LM.put_self] at hi;cases hi
   ·simp only[m2,LM.put_ne _ _ e] at hi
    rw[List.getElem?_append_left (k1'.dom i _ hi)];exact k1'.dd i hi
  ·by_cases e:i=(H.set b .dead).length
   ·subst e
    simp only[m2,LM.put_self,vI] at hi;cases hi;by_cases e' : j=(H.set b .dead).length
    ·exact e'.symm
    ·simp only[m2,LM.put_ne _ _ e'] at hj;exact (alone j hj).elim
   ·simp only[m2,LM.put_ne _ _ e] at hi
    by_cases e' : j=(H.set b .dead).length
    ·subst e'; simp only[m2,LM.put_self,vI] at hj;cases hj;exact (alone i hi).elim
    ·simp only[m2,LM.put_ne _ _ e'] at hj
     obtain ⟨l',h1,_⟩:=vF hi;rw[List.getElem?_append_left (k1'.dom i _ h1)] at hb';exact k1'.own i j r' b' hi hb' hw hj
 refine⟨_,_,m2,hk, ?_,hH2, ?_⟩
 ·have:=VRel.slice (m:=m2) (H.set b .dead).length 0 r (sh+o) tot esz n n cR (LM.put_self _ _ _) hn (.inr (by simpa using hlim))
  simpa using this
 ·refine⟨by rw[hsz];exact Nat.le_refl _,fun _=>by simp,fun i hi l hl=>?_,fun i hi hl=>?_,fun i hi b' hb' hr' => ?_,fun r' hr' hwr=>⟨hot r' (fun e=>hwr ⟨b,_,by rw[hmr,e],hb,rfl⟩),fun ⟨i,b',g1,g2,g3⟩=>?_⟩,hout⟩
  ·have hne:i≠(H.set b .dead).length:=by simp;omega
   simp only[m2,LM.put_ne _ _ hne];exact k2.base i hi l hl
  ·have hne:i≠(H.set b .dead).length:=by simp;omega
   simp only[m2,LM.put_ne _ _ hne];exact k2.base' i hi hl
  ·rw[List.getElem?_append_left (by simpa using hi)] at hb'
   exact k2.rw i hi b' hb' hr'
  ·by_cases e:i=(H.set b .dead).length
   ·subst e
    simp only[m2,LM.put_self,vI] at g1;cases g1;exact hwr ⟨b,_,hmr,hb,rfl⟩
   ·simp only[m2,LM.put_ne _ _ e] at g1
    obtain ⟨l',h1,_⟩:=vF g1;rw[List.getElem?_append_left (k1'.dom i _ h1)] at g2;exact (k2.keep r' hr' hwr).2 ⟨i,b',g1,g2,g3⟩

end
end Go.Af
namespace Go.Af
open Go

section
variable {P:Program} {H:List Blk} {m:LM} {w:World}

theorem LRel.getArr {xs:List Value} {ys:Array Value} (h:LRel m xs ys.toList) {i:Nat} {v:Value} (hv:xs[i]? = some v) : ∃ v',ys[i]? = some v' /\ VRel m v v' := by
 obtain ⟨y,h1,h2⟩:=h.get hv;exact⟨y,by simpa using h1,h2⟩

theorem Qs (need c e:Nat) (w:World):(choose (.appendCap need c e)).run P w = .ok (need+w.tape w.drawn (.appendCap need c e) % (2 ^ 63-need)) { w with drawn:=w.drawn+1 }:=by
 simp[run_choose,Question.forced,Question.cut]

theorem yz (z:Array Value) (n:Nat):(Builtin.zeroCells z n).size=n*z.size:=by simp[Builtin.zeroCells]

theorem XP {ts tx ty e:TypeId} {i:TypeInfo} {dx:TypeDesc} {n l c:Nat} {base:Option Addr} {xR:Value} {newR:Array Value} {w' : World} (hts:P.underlying ts=some (.slice e)) (htx:P.underlying tx=some dx) (hnx:dx = .string\/∃ e',dx = .slice e')
 (hi:P.info? e=some i) (x1:(Builtin.lenOf xR).run P w = .ok n w) (x2:(Builtin.firstCells i.size n xR).run P w = .ok newR w) (hc:l+n<=c)
 (hst:match base with | some a=>(storeCells (a.add (l*i.size)) newR.toList).run P w = .ok () w' | none=>w' = w) :
 (Builtin.append_ #[ts,tx] ty #[.slice base l c,xR]).run P w = .ok (.slice base (l+n) c) w' := by
 cases base with
 | none =>
   subst hst;rcases hnx with rfl | ⟨e',rfl⟩ <;> simp[Builtin.append_,qy hts,qy htx,sizeOf,typeInfo,hi,x1,x2,hc]
 | some a =>
   simp only at hst;rcases hnx with rfl | ⟨e',rfl⟩ <;> simp[Builtin.append_,qy hts,qy htx,sizeOf,typeInfo,hi,x1,x2,hc,hst]

theorem yg0 {ts tx ty e:TypeId} {i:TypeInfo} {z:Value} {dx:TypeDesc} {n l c:Nat} {base:Option Addr} {xR:Value} {newR oldR:Array Value} (hts:P.underlying ts=some (.slice e)) (htx:P.underlying tx=some dx) (hnx:dx = .string\/∃ e',dx = .slice e')
 (hi:P.info? e=some i) (hz:i.zero=some z) (x1:(Builtin.lenOf xR).run P w = .ok n w) (x2 : ∀ d,(Builtin.firstCells i.size n xR).run P { w with drawn:=d } = .ok newR { w with drawn:=d })
 (hc : ¬ l+n<=c) (h48:Builtin.nextslicecap (l+n) c*i.bytes<=2 ^ 48) (h63:((l+n:Nat):Int)<=IntKind.i64.max)
 (hold : ∀ d,(Builtin.firstCells i.size l (.slice base l c)).run P { w with drawn:=d } = .ok oldR { w with drawn:=d }) :
 ∃ k,(Builtin.append_ #[ts,tx] ty #[.slice base l c,xR]).run P w = .ok (.slice (some ⟨w.heap.size,0,none⟩) (l+n) (l+n+k)) { w with heap:=w.heap.push (.cells (oldR++newR++Builtin.zeroCells z.cells k) e),drawn:=w.drawn+1 }:=by
 have h48' : ¬ (2 ^ 48<Builtin.nextslicecap (l+n) c*i.bytes):=by omega
 have h63' : ¬ (((l+n:Nat):Int) > IntKind.i64.max):=by omega
 have h63'' : ¬ (IntKind.i64.max<(l:Int)+(n:Int)):=by have:((l+n:Nat):Int)=(l:Int)+n:=by simp
                                                      omega
 refine⟨w.tape w.drawn (.appendCap (l+n) c e) % (2 ^ 63-(l+n)), ?_⟩;have hx2:=x2 (w.drawn+1);have ho:=hold (w.drawn+1)
 rcases hnx with rfl | ⟨e',rfl⟩ <;> simp only[Builtin.append_,List.getElem?_toArray,List.getElem?_cons_zero,List.getElem?_cons_succ,Sem.run_bind,qy hts,qy htx,Result.andThen_ok,sizeOf,typeInfo,run_program,hi,Sem.run_pure,x1,Bool.false_eq_true,if_false,hc,Sem.run_ite,h63',false_and,h48',gt_iff_lt,
  Qs,run_askRoom,ho,Bool.not_false,if_true,hx2,zeroValue,hz,newRow,run_newObj] <;> simp

theorem vd0 {ts tx ty e:TypeId} {j:TI} {dx:TypeDesc} {s x sR xR:Value} {K:Value->List Blk->Prop} (hts:P.underlying ts=some (.slice e)) (htx:P.underlying tx=some dx) (hnx:dx = .string\/∃ e',dx = .slice e') (hj:TIOk P e j)
 (hzl:(qG j.zero).length=j.size) (hH:HRel m H w) (hs:VRel m s sR) (hx:VRel m x xR) (h:qB H j.size j.bytes s x K) :
 ∃ vR w',(Builtin.append_ #[ts,tx] ty #[sR,xR]).run P w = .ok vR w' /\ zW m H w K vR w' := by
 obtain ⟨hpos,h00⟩:=h;obtain ⟨n,new,newR,⟨hone,h⟩,x1,x3,x4,hnl⟩:=vf0 (P:=P) hH hx h00;clear h00;obtain ⟨ji,hji,hsz,hby,hze⟩:=hj.infoEx;rw[<- hsz] at x3;have x2:(Builtin.firstCells ji.size n xR).run P w = .ok newR w:=x3 w.drawn;have hi64:IntKind.i64.max=9223372036854775807:=by decide
 have hzc:j.zero.cells.size=j.size:=by rw[<- hzl,wF];simp
 have hnR:newR.size=n*j.size:=by have:=x4.1;simp at this;omega
 -- a new row,grown behind 'old'
 have grown : ∀ (base:Option Addr) (l c:Nat) (old:List Value) (oldR:Array Value) (m' : LM) (H' : List Blk),HRel m' H' w->LRel m' old oldR.toList->old.length=l*j.size->LRel m' new newR.toList ->
  (∀ d,(Builtin.firstCells ji.size l (.slice base l c)).run P { w with drawn:=d } = .ok oldR { w with drawn:=d }) ->
  0<n->c<l+n->(l+n)*(j.bytes+1)<=70368744177664->qm H' j.size (old++new) (l+n) K ->
  ∃ vR w',(Builtin.append_ #[ts,tx] ty #[.slice base l c,xR]).run P w = .ok vR w' /\ zW m' H' w K vR w' := by
  intro base l c old oldR m' H' hH' ho hol hn' hold hn hcl hb hk;have hb1:(l+n)*j.bytes<=70368744177664:=Nat.le_trans (Nat.mul_le_mul_left _ (Nat.le_succ _)) hb;have hb2:l+n<=70368744177664:=by rw[Nat.mul_succ] at hb;omega
  have hcap:Builtin.nextslicecap (l+n) c*ji.bytes<=2 ^ 48:=by
   rw[hby];refine Nat.le_trans (Nat.mul_le_mul_right _ (Go.nextslicecap_le hcl)) ?_;rw[Nat.mul_assoc];omega
  obtain ⟨k,hr⟩:=yg0 (P:=P) (w:=w) (ty:=ty) (l:=l) (c:=c) (base:=base) (oldR:=oldR) hts htx hnx hji hze x1 x3 (by omega) hcap (by rw[hi64];omega) hold;refine⟨_,_,hr, ?_⟩;have hz:=yz j.zero.cells k;have hoR:oldR.size=l*j.size:=by have:=ho.1;simp at this;omega
  have app:LRel m' (old++new) (oldR++newR).toList:=by rw[Array.toList_append];exact ho.append hn'
  exact wd0 (e:=e) (d:=w.drawn+1) (nR:=l+n+k) hH' hpos (by omega) (cellsR:=oldR++newR++Builtin.zeroCells j.zero.cells k) (by simp[hnR,hoR,hz,hzc,Nat.add_mul,Nat.add_assoc]) (cells:=old++new) (K:=K) (n:=l+n)
   (fun i v hv=>by
     obtain ⟨v',g1,g2⟩:=app.getArr hv
     exact⟨v',by rw[Array.getElem?_append_left (Array.getElem?_eq_some_iff.1 g1).1];exact g1,g2⟩) hk
 have nil0 : ∀ (base:Option Addr) (c d:Nat),(Builtin.firstCells ji.size 0 (.slice base 0 c)).run P { w with drawn:=d } = .ok #[] { w with drawn:=d }:=fun base c d=>by
  cases base <;> simp[Builtin.firstCells,loadCells,loadCellsFrom]
 have room0 : ∀ (base:Option Addr) (l c:Nat),n=0->l<=c->(Builtin.append_ #[ts,tx] ty #[.slice base l c,xR]).run P w = .ok (.slice base (l+n) c) w:=by
  intro base l c h0 hlc;have e0:newR.toList = []:=by rw[h0,Nat.zero_mul] at hnR;simpa using hnR
  refine XP hts htx hnx hji x1 x2 (by omega) ?_
  cases base with
  | none=>rfl
  | some a=>simp only;rw[e0];simp[storeCells]
 split at h
 ·cases hs
  rcases h with ⟨h0,hk⟩ | ⟨hn,hb,hk⟩
  ·have:=room0 none 0 0 h0 (Nat.le_refl _)
   rw[h0] at this;exact⟨_,_,this,_,_,m,hk, .nilslice,hH, .refl _ _ _ _⟩
  ·exact grown none 0 0 [] #[] m H hH (.nil m) (by simp) x4 (nil0 _ _) hn (by omega) (by simpa using hb) (by simpa using hk)
 ·cases hs
  rename_i b' o' s' a;rcases h with ⟨h0,hk⟩ | ⟨hn,hb,hk⟩
  ·have:=room0 a 0 0 h0 (Nat.le_refl _)
   rw[h0] at this;exact⟨_,_,this,_,_,m,hk, .sliceEmpty _ _ _ _,hH, .refl _ _ _ _⟩
  ·exact grown a 0 0 [] #[] m H hH (.nil m) (by simp) x4 (nil0 _ _) hn (by omega) (by simpa using hb) (by simpa using hk)
 ·rename_i b o l c
  rcases h with ⟨h0,hlc,hk⟩ | ⟨hn,h⟩
  ·have key : ∃ base cR,sR = .slice base l cR/\l<=cR:=by
    cases hs with
    | slice _ _ r sh tot esz _ _ c' hm hc hl=>exact⟨_,_,rfl,by omega⟩
    | sliceZero _ _ a=>exact⟨_,_,rfl,by omega⟩
    | sliceDead _ _ _ _ c' a hd hc=>exact⟨_,_,rfl,by omega⟩
   obtain ⟨base,cR,rfl,hlR⟩:=key;have:=room0 base l cR h0 hlR;rw[h0] at this;exact⟨_,_,this,_,_,m,hk,hs,hH, .refl _ _ _ _⟩
  ·split at h
   ·rename_i z vs hb
    rw[qV] at hb;obtain ⟨rfl,h⟩:=h;rcases h with ⟨hlc,hl0,hbd,vs',hvs',hk⟩ | ⟨hcl,hbnd,hbd,cells,hcells,hk⟩
    ·-- in place,by right
     simp only[qP] at hk
     cases hs with
     | slice _ _ r sh tot esz _ _ c' hm hc hl =>
       obtain ⟨w',g1,g2,g3⟩:=xm (P:=P) new newR.toList hH hm hb (o+l*j.size) 0 (by rw[hnl];rw[Nat.add_mul] at hbd;omega) x4 hone;rw[Nat.add_zero,hvs'] at g2 g3;refine⟨_,w',XP (base:=some ⟨r,sh+o,none⟩) (l:=l) (c:=c') hts htx hnx hji x1 x2 (by omega) ?_,_,_,m,hk, .slice _ _ _ _ _ _ _ _ _ hm hc hl,g2,g3⟩;simp only[addr_add,hsz];rw[Nat.add_assoc];exact g1
     | sliceZero _ _ a=>omega
     | sliceDead _ _ _ _ _ a hd _=>have:=hH.dd _ hd;rw[this] at hb;cases hb
    ·-- the old block dies
     cases hs with
     | slice _ _ r sh tot esz _ _ c' hm hc hl =>
       obtain ⟨k1,k2,k3⟩:=hH.kill hm hb;obtain ⟨c0,e0,f0,q1,q2,q3,q4⟩:=hH.cells hm hb;obtain ⟨q5,q6,q7,q8⟩:=q4 rfl;by_cases hfit:l+n<=c'
       ·-- there was room
        have hl' : sh+o+c' * esz<=tot:=by rcases hl with hl | hl <;> omega
        have hmul:(l+n)*j.size<=c' * j.size:=Nat.mul_le_mul_right _ hfit;rw[Nat.add_mul] at hmul;rw[q6] at hl';have hnl' : newR.toList.length=n*j.size:=by simpa using hnR
        obtain ⟨w',cc,g1,g2,g3,g4,g5,g6⟩:=VR (P:=P) newR.toList (o:=sh+o+l*j.size) (i:=0) q1 q5 (by rw[hnl'];omega) (UB x4 hone);rw[Nat.add_zero] at g3;have hcc:cc.size=c0.size:=by have:=congrArg List.length g3;rw[yT] at this;simpa using this
        refine⟨_,w',XP (base:=some ⟨r,sh+o,none⟩) (l:=l) (c:=c') hts htx hnx hji x1 x2 hfit ?_, ?_⟩
        ·simp only[addr_add,hsz];exact g1
        ·refine xs0 (cells:=cells) hH hm hb q1 g2 g4 g5 g6 hcc hfit (by rw[q6];exact hl') (fun i v hv=>?_) hk
         rw[<- hcells,List.getElem?_append] at hv
         have hol:((vs.drop o).take (l*j.size)).length=l*j.size:=by
          simp;rcases hbd with hbd | hbd
          ·subst hbd;simp
          ·omega
         have hgl:cc[sh+o+i]? = (setSeg c0.toList (sh+o+l*j.size) newR.toList)[sh+o+i]? := by rw[<- g3];simp
         rw[hgl,ZI _ _ _ _ (by rw[hnl'];simp;omega)];split at hv
         ·rename_i hlt
          rw[hol] at hlt;rw[List.getElem?_take,if_pos hlt,List.getElem?_drop] at hv;obtain ⟨v',p1,p2⟩:=q2 _ _ hv;rw[if_neg (by omega)];exact⟨v',by rw[Nat.add_assoc];simpa using p1,p2⟩
         ·rename_i hge
          rw[hol] at hv hge;have hlt:i-l*j.size<new.length:=(List.getElem?_eq_some_iff.1 hv).1;rw[if_pos (by rw[hnl'];omega)];obtain ⟨v',p1,p2⟩:=x4.get hv;exact⟨v',by rw[show sh+o+i-(sh+o+l*j.size)=i-l*j.size by omega];exact p1,p2⟩
       ·-- there was none
        have hold : ∃ oldR:Array Value,LRel m ((vs.drop o).take (l*j.size)) oldR.toList/\(∀ d,(Builtin.firstCells ji.size l (.slice (some ⟨r,sh+o,none⟩) l c')).run P { w with drawn:=d } = .ok oldR { w with drawn:=d })/\((vs.drop o).take (l*j.size)).length=l*j.size:=by
         rcases hbd with hbd | hbd
         ·subst hbd;exact⟨#[],by simp;exact .nil m,nil0 _ _,by simp⟩
         ·obtain ⟨xs,g1,g2⟩:=run_loadCells (P:=P) hH hm hb o (l*j.size) hbd
          exact⟨xs,g2,fun d=>by rw[hsz];simpa [Builtin.firstCells] using g1 d,by simp;omega⟩
        obtain ⟨oldR,o1,o2,o3⟩:=hold;simp only[qP] at hk;rw[<- hcells] at hk;obtain ⟨vR,w',r1,v,H',m',r2,r3,r4,r5⟩:=grown (some ⟨r,sh+o,none⟩) l c' _ oldR _ _ k1 (o1.mono k3) o3 (x4.mono k3) o2 hn (by omega) hbnd hk;exact⟨vR,w',r1,v,H',m',r2,r3,r4,k2.trans (by simpa using r5)⟩
     | sliceZero _ _ a =>
       -- no block stands behind it
       simp only[qP] at hk;rw[<- hcells] at hk
       have hk' : ∃ m',HRel m' (H.set b .dead) w/\Fr H.length m H w m' (H.set b .dead) w/\m.le m' := by
        cases hmb:m b with
        | none =>
          have hne : ∀ i l,m i=some l->b≠i:=fun i l hi e=>by subst e;rw[hmb] at hi;cases hi
          refine⟨m,⟨fun i l hi=>by simpa using hH.dom i l hi,fun i l b' hi hd hb' => ?_,fun i hi=>?_,fun i j r' b' hi hb' hw hj=>?_⟩,⟨Nat.le_refl _,fun _=>by simp,fun _ _ _ h=>.inl h,fun _ _ h=>h,fun i _ b' hb' hr' => ?_,fun r' hr' hw=>⟨rfl,fun ⟨i,b',k1,k2,k3⟩=>?_⟩, .refl _⟩, .refl m⟩
          ·rw[List.getElem?_set] at hb'; simp[hne i l hi] at hb'; exact hH.blk i l b' hi hd hb'
          ·rw[List.getElem?_set];simp[hne i _ hi];exact hH.dd i hi
          ·obtain ⟨l',h1,_⟩:=vF hi
           rw[List.getElem?_set] at hb'; simp[hne i _ h1] at hb'; exact hH.own i j r' b' hi hb' hw hj
          ·rw[List.getElem?_set] at hb'
           by_cases e:b=i
           ·subst e;exact⟨_,hb,rfl⟩
           ·simp[e] at hb'; exact⟨b',hb',hr'⟩
          ·obtain ⟨l',h1,_⟩:=vF k1
           rw[List.getElem?_set] at k2;simp[hne i _ h1] at k2;exact hw ⟨i,b',k1,k2,k3⟩
        | some l =>
          have hd:l ≠ .dead:=fun e=>by subst e;have:=hH.dd _ hmb;rw[this] at hb;cases hb
          have hB:=hH.blk b l _ hmb hd hb
          cases l with
          | cel r sh tot esz =>
            obtain ⟨k1,k2,k3⟩:=hH.kill hmb hb;exact⟨_,k1,k2,k3⟩
          | obj r=>exact hB.elim
          | dead=>exact absurd rfl hd
       obtain ⟨m1,k1,k2,k3⟩:=hk';obtain ⟨vR,w',r1,v,H',m',r2,r3,r4,r5⟩:=grown a 0 0 _ #[] _ _ k1 (by simp;exact .nil m1) (by simp) (x4.mono k3) (nil0 _ _) hn (by omega) hbnd hk;exact⟨vR,w',r1,v,H',m',r2,r3,r4,k2.trans (by simpa using r5)⟩
     | sliceDead _ _ _ _ _ a hd _=>have:=hH.dd _ hd;rw[this] at hb;cases hb
   ·exact h.elim
 ·exact h.elim

end
end Go.Af
