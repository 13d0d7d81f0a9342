/-
  Another numbering of the abstract blocks: what is not needed any more is left out.
-/
import Derived.Test.YtkmhpolbhjgpoaaA13
namespace Go.Af
open Go
variable {rd : Bool}

def shiftO (s : Nat) : Option Loc → Option Loc
  | some (.cel r sh tot esz) => some (.cel r (sh + s) tot esz)
  | o => o

theorem shiftO_zero (o : Option Loc) : shiftO 0 o = o := by
  unfold shiftO
  split <;> rfl
theorem locBlk_shift (s : Nat) (o : Option Loc) : locBlk (shiftO s o) = locBlk o := by
  unfold shiftO
  split <;> rfl
theorem shiftO_dead {s : Nat} {o : Option Loc} (h : shiftO s o = some .dead) : o = some .dead := by
  unfold shiftO at h
  split at h
  · cases h
  · exact h

/-- New block i is old block j, from cell s on. -/
def LM.re (m : LM) (ι : List (Nat × Nat)) : LM := fun i =>
  match ι[i]? with
  | some (j, s) => shiftO s (m j)
  | none => none

def VRen (ι : List (Nat × Nat)) (v2 v : Value) : Prop := ∀ (m : LM) (vR : Value), VRel m v vR → VRel (m.re ι) v2 vR
def LRen (ι : List (Nat × Nat)) (xs2 xs : List Value) : Prop := ∀ (m : LM) (ys : List Value), LRel m xs ys → LRel (m.re ι) xs2 ys

section
variable {ι : List (Nat × Nat)}
theorem VRen.bool (b : Bool) : VRen ι (.bool b) (.bool b) := fun m vR h => by cases h; exact .bool _
theorem VRen.int (k : IntKind) (n : Int) : VRen ι (.int k n) (.int k n) := fun m vR h => by cases h; exact .int _ _
theorem VRen.string (s : ByteArray) : VRen ι (.string s) (.string s) := fun m vR h => by cases h; exact .string _
theorem VRen.nilptr : VRen ι (.pointer none) (.pointer none) := fun m vR h => by cases h; exact .nilptr
theorem VRen.nilslice : VRen ι (.slice none 0 0) (.slice none 0 0) := fun m vR h => by cases h; exact .nilslice
theorem VRen.emptySlice (b o s b' o' s' : Nat) : VRen ι (.slice (some ⟨b, o, some s⟩) 0 0) (.slice (some ⟨b', o', some s'⟩) 0 0) := fun m vR h => by cases h; exact .sliceEmpty _ _ _ _
theorem VRen.nilEmpty (b o s : Nat) : VRen ι (.slice (some ⟨b, o, some s⟩) 0 0) (.slice none 0 0) := fun m vR h => by cases h; exact .sliceEmpty _ _ _ _
theorem VRen.nilmap : VRen ι (.map none) (.map none) := fun m vR h => by cases h; exact .nilmap
theorem VRen.nilFunc : VRen ι .nilFunc .nilFunc := fun m vR h => by cases h; exact .nilFunc
theorem VRen.nilIface : VRen ι .nilIface .nilIface := fun m vR h => by cases h; exact .nilIface
theorem VRen.iface (t : TypeId) {v2 v : Value} (h : VRen ι v2 v) : VRen ι (.iface t v2) (.iface t v) := fun m vR hr => by cases hr with | iface _ _ v' hv => exact .iface _ _ _ (h m _ hv)

theorem VRen.ptr {b2 o2 b o s : Nat} (h : ι[b2]? = some (b, s)) (ho : o = s + o2) : VRen ι (.pointer (some ⟨b2, o2, none⟩)) (.pointer (some ⟨b, o, none⟩)) := fun m vR hr => by
  subst ho
  cases hr with
  | ptr _ _ r sh tot esz hm =>
    have : m.re ι b2 = some (.cel r (sh + s) tot esz) := by simp [LM.re, h, hm, shiftO]
    have := VRel.ptr (m := m.re ι) b2 o2 _ _ _ _ this
    rwa [Nat.add_assoc] at this
  | ptrDead _ _ a hm => exact .ptrDead _ _ _ (by simp [LM.re, h, hm, shiftO])

theorem VRen.slice {b2 o2 b o s l c2 c : Nat} (h : ι[b2]? = some (b, s)) (ho : o = s + o2) (hc : c2 ≤ c) : VRen ι (.slice (some ⟨b2, o2, none⟩) l c2) (.slice (some ⟨b, o, none⟩) l c) := fun m vR hr => by
  subst ho
  cases hr with
  | slice _ _ r sh tot esz _ _ c' hm hcc hl =>
    have : m.re ι b2 = some (.cel r (sh + s) tot esz) := by simp [LM.re, h, hm, shiftO]
    have := VRel.slice (m := m.re ι) b2 o2 _ _ _ _ l c2 c' this (Nat.le_trans hc hcc) (by rcases hl with hl | hl; exact .inl hl; exact .inr (by omega))
    rwa [Nat.add_assoc] at this
  | sliceZero _ _ a =>
    have : c2 = 0 := by omega
    subst this; exact .sliceZero _ _ _
  | sliceDead _ _ _ _ c' a hm hcc => exact .sliceDead _ _ _ _ _ _ (by simp [LM.re, h, hm, shiftO]) (Nat.le_trans hc hcc)

theorem VRen.map {b2 b s : Nat} (h : ι[b2]? = some (b, s)) : VRen ι (.map (some b2)) (.map (some b)) := fun m vR hr => by
  cases hr with
  | map _ r hm => exact .map _ _ (by simp [LM.re, h, hm, shiftO])

theorem LRen.nil : LRen ι [] [] := fun m ys h => by have := h.inv_nil; subst this; exact .nil _
theorem LRen.cons {x2 x : Value} {xs2 xs : List Value} (h : VRen ι x2 x) (hs : LRen ι xs2 xs) : LRen ι (x2 :: xs2) (x :: xs) := fun m ys hr => by
  obtain ⟨y, ys', rfl, h1, h2⟩ := hr.inv_cons
  exact .cons (h m _ h1) (hs m _ h2)
theorem LRen.of {xs2 xs : List Value} (hl : xs2.length = xs.length) (h : ∀ (i : Nat) (x2 x : Value), xs2[i]? = some x2 → xs[i]? = some x → VRen ι x2 x) : LRen ι xs2 xs := fun m ys hr => by
  refine ⟨hl.trans hr.1, fun i x2 y hx hy => ?_⟩
  have hi : i < xs.length := by rw [← hl]; exact (List.getElem?_eq_some_iff.1 hx).1
  exact h i x2 _ hx (List.getElem?_eq_getElem hi) m y (hr.2 i _ y (List.getElem?_eq_getElem hi) hy)
theorem VRen.agg {xs2 xs : Array Value} (h : LRen ι xs2.toList xs.toList) : VRen ι (.agg xs2) (.agg xs) := fun m vR hr => by
  obtain ⟨ys, rfl, hl⟩ := hr.inv_agg; exact .agg' (h m _ hl)
theorem VRen.tuple {xs2 xs : Array Value} (h : LRen ι xs2.toList xs.toList) : VRen ι (.tuple xs2) (.tuple xs) := fun m vR hr => by
  obtain ⟨ys, rfl, hl⟩ := hr.inv_tuple; exact .tuple' (h m _ hl)
theorem VRen.func {f : Fn} {xs2 xs ys2 ys : Array Value} (hf : ∀ l, f ≠ .yield l) (h1 : LRen ι xs2.toList xs.toList) (h2 : LRen ι ys2.toList ys.toList) : VRen ι (.func f xs2 ys2) (.func f xs ys) := fun m vR hr => by
  obtain ⟨f', xs', ys', rfl, hfr, hx, hy⟩ := hr.inv_func
  cases hfr with
  | same _ _ => exact .func' (.same _ hf) (h1 m _ hx) (h2 m _ hy)
  | yield b r _ => exact absurd rfl (hf b)
theorem VRen.yield {b2 b s : Nat} (h : ι[b2]? = some (b, s)) : VRen ι (.func (.yield b2) #[] #[]) (.func (.yield b) #[] #[]) := fun m vR hr => by
  obtain ⟨f', xs', ys', rfl, hfr, hx, hy⟩ := hr.inv_func
  cases hfr with
  | same _ hne => exact absurd rfl (hne b)
  | yield _ r hm => exact .func' (.yield _ _ (by simp [LM.re, h, hm, shiftO])) (LRen.nil m _ hx) (LRen.nil m _ hy)
end

/-- New block b2 is old block b from cell s on, perhaps no longer to be written to, perhaps less of it. -/
def BRen (ι : List (Nat × Nat)) (s : Nat) (b2 b : Blk) : Prop :=
  (b2.isRw = true → b.isRw = true) ∧ (b = .dead → b2 = .dead) ∧ ∀ (m : LM) (l l' : Loc) (w : World), BRel m b l w → shiftO s (some l) = some l' → BRel (m.re ι) b2 l' w

theorem BRen.cells {ι : List (Nat × Nat)} {s z : Nat} {wr2 wr : Bool} {vs2 vs : List Value} (hw : wr2 = true → wr = true) (h : ∀ (i : Nat) (x2 : Value), vs2[i]? = some x2 → ∃ x, vs[s + i]? = some x ∧ VRen ι x2 x) : BRen ι s (.cells wr2 z vs2) (.cells wr z vs) :=
  ⟨hw, (fun h => by cases h), fun m l l' w hb hl => by
    cases l with
    | cel r sh tot esz =>
      simp only [shiftO, Option.some.injEq] at hl
      subst hl
      obtain ⟨c, e, f, h1, h2, h3, h4⟩ := hb
      refine ⟨c, e, f, h1, fun i x2 hx => ?_, h3, fun ht => h4 (hw ht)⟩
      obtain ⟨x, hx1, hx2⟩ := h i x2 hx
      obtain ⟨v', g1, g2⟩ := h2 _ _ hx1
      exact ⟨v', by rw [Nat.add_assoc]; exact g1, hx2 m _ g2⟩
    | obj r => exact hb.elim
    | dead => exact hb.elim⟩

theorem BRen.dead {ι : List (Nat × Nat)} {s : Nat} : BRen ι s .dead .dead := ⟨id, (fun h => h), fun m l l' w hb hl => by cases l <;> exact hb.elim⟩
theorem BRen.defr {ι : List (Nat × Nat)} {s : Nat} (d : Bool) : BRen ι s (.defr d) (.defr d) := ⟨id, (fun h => by cases h), fun m l l' w hb hl => by
  cases l with
  | obj r => simp only [shiftO, Option.some.injEq] at hl; subst hl; exact hb
  | cel r sh tot esz => exact hb.elim
  | dead => exact hb.elim⟩

theorem LRel.sl_re {ι : List (Nat × Nat)} {m : LM} {sl2 sl : List (Nat × Value)} {t : Array Value} (h : SlRel m sl t) (hr : ∀ s v2, look sl2 s = some v2 → ∃ v, look sl s = some v ∧ VRen ι v2 v) : SlRel (m.re ι) sl2 t := fun s v2 hv => by
  obtain ⟨v, h1, h2⟩ := hr s v2 hv
  obtain ⟨v', h3, h4⟩ := h s v h1
  exact ⟨v', h3, h2 m _ h4⟩

theorem BRen.loop {ι : List (Nat × Nat)} {s : Nat} {st : LoopState} {pending : Option Code} {n : Nat} {sl2 sl : List (Nat × Value)} {params : Array Tmp} {assign body : Code}
    (hr : ∀ s v2, look sl2 s = some v2 → ∃ v, look sl s = some v ∧ VRen ι v2 v) : BRen ι s (.loop st pending n sl2 params assign body) (.loop st pending n sl params assign body) := ⟨id, (fun h => by cases h), fun m l l' w hb hl => by
  cases l with
  | obj r =>
    simp only [shiftO, Option.some.injEq] at hl; subst hl
    obtain ⟨tmps, d', fn, h1, h2, h3⟩ := hb
    exact ⟨tmps, d', fn, h1, h2, LRel.sl_re h3 hr⟩
  | cel r sh tot esz => exact hb.elim
  | dead => exact hb.elim⟩

def BlksRen (ι : List (Nat × Nat)) (H : List Blk) : List (Nat × Nat) → List Blk → Prop
  | [], [] => True
  | (j, s) :: r, b2 :: r2 => (∃ b, bget H j = some b ∧ BRen ι s b2 b) ∧ BlksRen ι H r r2
  | _, _ => False
theorem BlksRen.get {ι : List (Nat × Nat)} {H : List Blk} : ∀ {r : List (Nat × Nat)} {r2 : List Blk} (_ : BlksRen ι H r r2) {i j s : Nat} (_ : r[i]? = some (j, s)), ∃ b b2, H[j]? = some b ∧ r2[i]? = some b2 ∧ BRen ι s b2 b
  | [], [], _, i, j, s, hi => by simp at hi
  | (j', s') :: r, b2 :: r2, h, i, j, s, hi => by
    cases i with
    | zero => simp at hi; obtain ⟨rfl, rfl⟩ := hi; obtain ⟨b, h1, h2⟩ := h.1; exact ⟨b, b2, by rw [← bget_eq]; exact h1, rfl, h2⟩
    | succ i => simp at hi; obtain ⟨b, b2', h1, h2, h3⟩ := h.2.get hi; exact ⟨b, b2', h1, by simpa using h2, h3⟩
  | [], _ :: _, h, _, _, _, _ => h.elim
  | _ :: _, [], h, _, _, _, _ => h.elim
theorem BlksRen.len {ι : List (Nat × Nat)} {H : List Blk} : ∀ {r : List (Nat × Nat)} {r2 : List Blk} (_ : BlksRen ι H r r2), r.length = r2.length
  | [], [], _ => rfl
  | (_, _) :: r, _ :: r2, h => by simp [h.2.len]
  | [], _ :: _, h => h.elim
  | _ :: _, [], h => h.elim

def SlRen (ι : List (Nat × Nat)) (sl : List (Nat × Value)) : List (Nat × Value) → Prop
  | [] => True
  | (k, v2) :: r => (∃ v, look sl k = some v ∧ VRen ι v2 v) ∧ SlRen ι sl r
theorem SlRen.get {ι : List (Nat × Nat)} {sl : List (Nat × Value)} : ∀ {r : List (Nat × Value)} (_ : SlRen ι sl r) (s : Nat) (v2 : Value) (_ : look r s = some v2), ∃ v, look sl s = some v ∧ VRen ι v2 v
  | [], _, _, _, h => by cases h
  | (k, v) :: r, h, s, v2, hl => by
    simp only [look] at hl
    split at hl
    · rename_i hk; cases hl; have := Nat.eq_of_beq_eq_true hk; subst this; exact h.1
    · exact h.2.get s v2 hl

/-- No old block that is still written to is taken twice. -/
def noTwin : (Nat × Bool) → List (Nat × Nat) → List Blk → Bool
  | _, [], _ => true
  | _, _, [] => true
  | (j, w), (j', _) :: r, b :: bs => (!(Nat.beq j j') || !(w || b.isRw)) && noTwin (j, w) r bs
def injB : List (Nat × Nat) → List Blk → Bool
  | (j, _) :: r, b :: bs => noTwin (j, b.isRw) r bs && injB r bs
  | _, _ => true

theorem noTwin_spec : ∀ {r : List (Nat × Nat)} {bs : List Blk} {j : Nat} {w : Bool} (_ : noTwin (j, w) r bs = true) {i s : Nat} {b : Blk} (_ : r[i]? = some (j, s)) (_ : bs[i]? = some b), w = false ∧ b.isRw = false
  | [], _, _, _, _, i, s, b, hi, _ => by simp at hi
  | _ :: _, [], _, _, _, i, s, b, _, hb => by simp at hb
  | (j', s') :: r, b' :: bs, j, w, h, i, s, b, hi, hb => by
    simp only [noTwin, Bool.and_eq_true, Bool.or_eq_true] at h
    cases i with
    | zero =>
      simp at hi hb
      obtain ⟨rfl, _⟩ := hi
      subst hb
      rcases h.1 with h1 | h1
      · simp at h1
      · simpa using h1
    | succ i => simp at hi hb; exact noTwin_spec h.2 hi hb

theorem injB_spec : ∀ {r : List (Nat × Nat)} {bs : List Blk} (_ : injB r bs = true) {i i' j s s' : Nat} {b b' : Blk} (_ : r[i]? = some (j, s)) (_ : r[i']? = some (j, s')) (_ : bs[i]? = some b) (_ : bs[i']? = some b') (_ : b.isRw = true), i = i'
  | [], _, _, i, i', j, s, s', b, b', hi, _, _, _, _ => by simp at hi
  | _ :: _, [], _, i, i', j, s, s', b, b', _, _, hb, _, _ => by simp at hb
  | (j0, s0) :: r, b0 :: bs, h, i, i', j, s, s', b, b', hi, hi', hb, hb', hw => by
    simp only [injB, Bool.and_eq_true] at h
    cases i with
    | zero =>
      cases i' with
      | zero => rfl
      | succ i' =>
        simp at hi hb hi' hb'
        obtain ⟨rfl, _⟩ := hi
        subst hb
        have := (noTwin_spec h.1 hi' hb').1
        rw [this] at hw; cases hw
    | succ i =>
      cases i' with
      | zero =>
        simp at hi hb hi' hb'
        obtain ⟨rfl, _⟩ := hi'
        have := (noTwin_spec h.1 hi hb).2
        rw [this] at hw; cases hw
      | succ i' =>
        simp at hi hb hi' hb'
        rw [injB_spec h.2 hi hi' hb hb' hw]

theorem HRel.re {m : LM} {H H2 : List Blk} {w : World} (h : HRel m H w) {ι : List (Nat × Nat)} (hb : BlksRen ι H ι H2) (hi : injB ι H2 = true) : HRel (m.re ι) H2 w := by
  have key : ∀ i l, m.re ι i = some l → ∃ j s, ι[i]? = some (j, s) ∧ shiftO s (m j) = some l := fun i l hl => by
    unfold LM.re at hl
    split at hl
    · rename_i j s hj; exact ⟨j, s, hj, hl⟩
    · cases hl
  refine ⟨fun i l hl => ?_, fun i l b2 hl hd hb2 => ?_, fun i hl => ?_, fun i i' r b2 hl hb2 hw hl' => ?_⟩
  · obtain ⟨j, s, h1, _⟩ := key i l hl
    rw [← hb.len]; exact (List.getElem?_eq_some_iff.1 h1).1
  · obtain ⟨j, s, h1, h2⟩ := key i l hl
    obtain ⟨b, b2', k1, k2, k3⟩ := hb.get h1
    rw [hb2] at k2; cases k2
    cases hm : m j with
    | none => rw [hm] at h2; cases h2
    | some l0 =>
      rw [hm] at h2
      have hd0 : l0 ≠ .dead := fun e => by subst e; cases h2; exact hd rfl
      exact k3.2.2 m l0 l w (h.blk j l0 b hm hd0 k1) h2
  · obtain ⟨j, s, h1, h2⟩ := key i _ hl
    have := h.dd j (shiftO_dead h2)
    obtain ⟨b, b2, k1, k2, k3⟩ := hb.get h1
    rw [this] at k1; cases k1
    rw [k2, k3.2.1 rfl]
  · obtain ⟨l, g1, _, g3⟩ := locBlk_some hl
    obtain ⟨l', g1', _, g3'⟩ := locBlk_some hl'
    obtain ⟨j, s, h1, h2⟩ := key i l g1
    obtain ⟨j', s', h1', h2'⟩ := key i' l' g1'
    obtain ⟨b, b2a, k1, k2, k3⟩ := hb.get h1
    obtain ⟨b', b2b, k1', k2', k3'⟩ := hb.get h1'
    rw [hb2] at k2; cases k2
    have e1 : locBlk (m j) = some r := by rw [← locBlk_shift s, h2]; exact g3
    have e2 : locBlk (m j') = some r := by rw [← locBlk_shift s', h2']; exact g3'
    have := h.own j j' r b e1 k1 (k3.1 hw) e2
    subst this
    exact injB_spec hi h1 h1' hb2 k2' hw

theorem Wr.re {m : LM} {H H2 : List Blk} {ι : List (Nat × Nat)} (hb : BlksRen ι H ι H2) {r : Nat} (h : Wr (m.re ι) H2 r) : Wr m H r := by
  obtain ⟨i, b2, h1, h2, h3⟩ := h
  obtain ⟨l, g1, _, g3⟩ := locBlk_some h1
  unfold LM.re at g1
  split at g1
  · rename_i j s hj
    obtain ⟨b, b2', k1, k2, k3⟩ := hb.get hj
    rw [h2] at k2; cases k2
    exact ⟨j, b, by rw [← locBlk_shift s, g1]; exact g3, k1, k3.1 h3⟩
  · cases g1

/-- The first n blocks keep their numbers. -/
def anch (n : Nat) (ι : List (Nat × Nat)) : Prop := ∀ i, i < n → ι[i]? = some (i, 0)

theorem Fr.re {n0 : Nat} {m m' : LM} {H H2 H' : List Blk} {w w' : World} {ι : List (Nat × Nat)} (hb : BlksRen ι H ι H2) (ha : anch n0 ι) (hn : n0 ≤ H2.length) (h : Fr n0 (m.re ι) H2 w m' H' w') : Fr n0 m H w m' H' w' := by
  have e : ∀ i, i < n0 → m.re ι i = m i := fun i hi => by simp [LM.re, ha i hi, shiftO_zero]
  have up : ∀ i, i < n0 → ∀ b, H2[i]? = some b → b.isRw = true → ∃ b, H[i]? = some b ∧ b.isRw = true := fun i hi b hb2 hw => by
    obtain ⟨b', b2, k1, k2, k3⟩ := hb.get (ha i hi)
    rw [hb2] at k2; cases k2
    exact ⟨b', k1, k3.1 hw⟩
  refine ⟨h.size, fun _ => h.len hn, fun i hi l hl => ?_, fun i hi hl => h.base' i hi (by rw [e i hi]; exact hl), fun i hi b' hb' hr' => ?_, fun r hr hw => ?_, h.out⟩
  · rcases h.base i hi l (by rw [e i hi]; exact hl) with h1 | ⟨h1, h2, b, h3, h4⟩
    · exact .inl h1
    · exact .inr ⟨h1, h2, up i hi b h3 h4⟩
  · obtain ⟨b, k1, k2⟩ := h.rw i hi b' hb' hr'
    exact up i hi b k1 k2
  · exact h.keep r hr (fun hw' => hw (hw'.re hb))

theorem awp_ren {P : Program} {n0 : Nat} {c : Code} {Q : Ex → AF → List Blk → Prop} {a : AF} {H : List Blk} (ι : List (Nat × Nat)) (sl2 : List (Nat × Value)) (H2 : List Blk) (hn : n0 ≤ H2.length) (ha : anch n0 ι) (hb : BlksRen ι H ι H2) (hi : injB ι H2 = true)
    (hs : SlRen ι a.sl sl2) (h : awp P rd n0 c Q { n := a.n, sl := sl2 } H2) : awp P rd n0 c Q a H := by
  intro _ m aR w hr b k cs hrd
  obtain ⟨e, a', H', m', aR', w', q, r1, r2, r3⟩ := h hn (m.re ι) aR w ⟨hr.n, LRel.sl_re hr.sl hs.get, hr.df.keep (fun r _ h => ⟨rfl, fun hw => h (hw.re hb)⟩), hr.heap.re hb hi⟩ b k cs hrd
  exact ⟨e, a', H', m', aR', w', q, r1, ⟨r2.toFr.re hb ha hn, r2.dn⟩, r3⟩

end Go.Af
