/-
  A call in a greater heap: a contract over a heap of its own serves wherever its blocks are found.
-/
import Derived.Test.YtkmhpolbhjgpoaaA15
namespace Go.Af
open Go

/-- Two maps agree along a numbering. -/
def Along (ι : List (Nat × Nat)) (m2 m : LM) : Prop := ∀ j i s, ι[j]? = some (i, s) → m2 j = shiftO s (m i)

def VBack (ι : List (Nat × Nat)) (v2 v : Value) : Prop := ∀ (m2 m : LM), Along ι m2 m → ∀ vR, VRel m2 v2 vR → VRel m v vR
def LBack (ι : List (Nat × Nat)) (xs2 xs : List Value) : Prop := ∀ (m2 m : LM), Along ι m2 m → ∀ ys, LRel m2 xs2 ys → LRel m xs ys

section
variable {ι : List (Nat × Nat)}
theorem VBack.bool (b : Bool) : VBack ι (.bool b) (.bool b) := fun _ _ _ vR h => by cases h; exact .bool _
theorem VBack.int (k : IntKind) (n : Int) : VBack ι (.int k n) (.int k n) := fun _ _ _ vR h => by cases h; exact .int _ _
theorem VBack.string (s : ByteArray) : VBack ι (.string s) (.string s) := fun _ _ _ vR h => by cases h; exact .string _
theorem VBack.nilptr : VBack ι (.pointer none) (.pointer none) := fun _ _ _ vR h => by cases h; exact .nilptr
theorem VBack.nilslice : VBack ι (.slice none 0 0) (.slice none 0 0) := fun _ _ _ vR h => by cases h; exact .nilslice
theorem VBack.emptySlice (b o s b' o' s' : Nat) : VBack ι (.slice (some ⟨b, o, some s⟩) 0 0) (.slice (some ⟨b', o', some s'⟩) 0 0) := fun _ _ _ vR h => by cases h; exact .sliceEmpty _ _ _ _
theorem VBack.nilmap : VBack ι (.map none) (.map none) := fun _ _ _ vR h => by cases h; exact .nilmap
theorem VBack.nilFunc : VBack ι .nilFunc .nilFunc := fun _ _ _ vR h => by cases h; exact .nilFunc
theorem VBack.nilIface : VBack ι .nilIface .nilIface := fun _ _ _ vR h => by cases h; exact .nilIface
theorem VBack.iface (t : TypeId) {v2 v : Value} (h : VBack ι v2 v) : VBack ι (.iface t v2) (.iface t v) := fun m2 m ha vR hr => by cases hr with | iface _ _ v' hv => exact .iface _ _ _ (h m2 m ha _ hv)

theorem along_cel {m2 m : LM} (ha : Along ι m2 m) {j i s r sh2 tot esz : Nat} (h : ι[j]? = some (i, s)) (hm : m2 j = some (.cel r sh2 tot esz)) : ∃ sh, m i = some (.cel r sh tot esz) ∧ sh2 = sh + s := by
  have := ha j i s h
  rw [hm] at this
  unfold shiftO at this
  split at this
  · rename_i r' sh' t' e' hmi; cases this; exact ⟨sh', hmi, rfl⟩
  · rename_i hne; exact absurd this.symm (hne _ _ _ _)
theorem along_obj {m2 m : LM} (ha : Along ι m2 m) {j i s r : Nat} (h : ι[j]? = some (i, s)) (hm : m2 j = some (.obj r)) : m i = some (.obj r) := by
  have := ha j i s h
  rw [hm] at this
  unfold shiftO at this
  split at this
  · cases this
  · exact this.symm
theorem along_dead {m2 m : LM} (ha : Along ι m2 m) {j i s : Nat} (h : ι[j]? = some (i, s)) (hm : m2 j = some .dead) : m i = some .dead := by
  have := ha j i s h
  rw [hm] at this
  exact shiftO_dead this.symm

theorem VBack.ptr {j o i s : Nat} (h : ι[j]? = some (i, s)) : VBack ι (.pointer (some ⟨j, o, none⟩)) (.pointer (some ⟨i, s + o, none⟩)) := fun m2 m ha vR hr => by
  cases hr with
  | ptr _ _ r sh2 tot esz hm =>
    obtain ⟨sh, h1, rfl⟩ := along_cel ha h hm
    have := VRel.ptr i (s + o) _ _ _ _ h1
    rwa [← Nat.add_assoc] at this
  | ptrDead _ _ a hm => exact .ptrDead _ _ _ (along_dead ha h hm)
theorem VBack.slice {j o i s l c : Nat} (h : ι[j]? = some (i, s)) : VBack ι (.slice (some ⟨j, o, none⟩) l c) (.slice (some ⟨i, s + o, none⟩) l c) := fun m2 m ha vR hr => by
  cases hr with
  | slice _ _ r sh2 tot esz _ _ c' hm hcc hl =>
    obtain ⟨sh, h1, rfl⟩ := along_cel ha h hm
    have := VRel.slice i (s + o) _ _ _ _ l c c' h1 hcc (by rcases hl with hl | hl; exact .inl hl; exact .inr (by omega))
    rwa [← Nat.add_assoc] at this
  | sliceZero _ _ a => exact .sliceZero _ _ _
  | sliceDead _ _ _ _ c' a hm hcc => exact .sliceDead _ _ _ _ _ _ (along_dead ha h hm) hcc
theorem VBack.map {j i s : Nat} (h : ι[j]? = some (i, s)) : VBack ι (.map (some j)) (.map (some i)) := fun m2 m ha vR hr => by
  cases hr with
  | map _ r hm => exact .map _ _ (along_obj ha h hm)
theorem LBack.nil : LBack ι [] [] := fun _ _ _ ys h => by have := h.inv_nil; subst this; exact .nil _
theorem LBack.cons {x2 x : Value} {xs2 xs : List Value} (h : VBack ι x2 x) (hs : LBack ι xs2 xs) : LBack ι (x2 :: xs2) (x :: xs) := fun m2 m ha ys hr => by
  obtain ⟨y, ys', rfl, h1, h2⟩ := hr.inv_cons
  exact .cons (h m2 m ha _ h1) (hs m2 m ha _ h2)
theorem LBack.of {xs2 xs : List Value} (hl : xs2.length = xs.length) (h : ∀ (i : Nat) (x2 x : Value), xs2[i]? = some x2 → xs[i]? = some x → VBack ι x2 x) : LBack ι xs2 xs := fun m2 m ha ys hr => by
  refine ⟨hl.symm.trans hr.1, fun i x y hx hy => ?_⟩
  have hi : i < xs2.length := by rw [hl]; exact (List.getElem?_eq_some_iff.1 hx).1
  exact h i _ x (List.getElem?_eq_getElem hi) hx m2 m ha y (hr.2 i _ y (List.getElem?_eq_getElem hi) hy)
theorem VBack.agg {xs2 xs : Array Value} (h : LBack ι xs2.toList xs.toList) : VBack ι (.agg xs2) (.agg xs) := fun m2 m ha vR hr => by
  obtain ⟨ys, rfl, hl⟩ := hr.inv_agg; exact .agg' (h m2 m ha _ hl)
theorem VBack.tuple {xs2 xs : Array Value} (h : LBack ι xs2.toList xs.toList) : VBack ι (.tuple xs2) (.tuple xs) := fun m2 m ha vR hr => by
  obtain ⟨ys, rfl, hl⟩ := hr.inv_tuple; exact .tuple' (h m2 m ha _ hl)
theorem VBack.func {f : Fn} {xs2 xs ys2 ys : Array Value} (hf : ∀ l, f ≠ .yield l) (h1 : LBack ι xs2.toList xs.toList) (h2 : LBack ι ys2.toList ys.toList) : VBack ι (.func f xs2 ys2) (.func f xs ys) := fun m2 m ha vR hr => by
  obtain ⟨f', xs', ys', rfl, hfr, hx, hy⟩ := hr.inv_func
  cases hfr with
  | same _ _ => exact .func' (.same _ hf) (h1 m2 m ha _ hx) (h2 m2 m ha _ hy)
  | yield b r _ => exact absurd rfl (hf b)

def BBack (ι : List (Nat × Nat)) (b2 b : Blk) : Prop :=
  b.isRw = b2.isRw ∧ (b2 = .dead → b = .dead) ∧ ∀ (m2 m : LM), Along ι m2 m → ∀ l w, BRel m2 b2 l w → BRel m b l w

theorem BBack.cells {wr : Bool} {z : Nat} {vs2 vs : List Value} (h : LBack ι vs2 vs) (hl : vs2.length = vs.length) : BBack ι (.cells wr z vs2) (.cells wr z vs) :=
  ⟨rfl, (fun h => by cases h), fun m2 m ha l w hb => by
    cases l with
    | cel r sh tot esz =>
      obtain ⟨c, e, f, h1, h2, h3, h4⟩ := hb
      refine ⟨c, e, f, h1, fun i x hx => ?_, h3, h4⟩
      have hi : i < vs2.length := by rw [hl]; exact (List.getElem?_eq_some_iff.1 hx).1
      -- the cells that vs2 reads
      have hex : ∀ k, k < vs2.length → ∃ y, c[sh + k]? = some y := fun k hk => let ⟨y, g, _⟩ := h2 k _ (List.getElem?_eq_getElem hk); ⟨y, g⟩
      let ys := (List.range vs2.length).map (fun k => c[sh + k]?.getD undef)
      have hys : LRel m2 vs2 ys := by
        refine ⟨by simp [ys], fun k a b hka hkb => ?_⟩
        have hk : k < vs2.length := (List.getElem?_eq_some_iff.1 hka).1
        obtain ⟨y, g1, g2⟩ := h2 k a hka
        have : b = y := by simp [ys, hk, g1] at hkb; exact hkb.symm
        subst this; exact g2
      obtain ⟨y, g⟩ := hex i hi
      have := (h m2 m ha ys hys).2 i x y hx (by simp [ys, hi, g])
      exact ⟨y, g, this⟩
    | obj r => exact hb.elim
    | dead => exact hb.elim⟩
theorem BBack.dead : BBack ι .dead .dead := ⟨rfl, fun _ => rfl, fun m2 m ha l w hb => by cases l <;> exact hb.elim⟩
theorem BBack.defr (d : Bool) : BBack ι (.defr d) (.defr d) := ⟨rfl, (fun h => by cases h), fun m2 m ha l w hb => by
  cases l with
  | obj r => exact hb
  | cel r sh tot esz => exact hb.elim
  | dead => exact hb.elim⟩
end

/-- What the caller's heap is behind the call. -/
structure EmbOut (ι : List (Nat × Nat)) (H H2 H2' H' : List Blk) (ι' : List (Nat × Nat)) : Prop where
  len2 : H2.length ≤ H2'.length
  len : H'.length = H.length + (H2'.length - H2.length)
  num : ι' = ι ++ (List.range (H2'.length - H2.length)).map (fun k => (H.length + k, 0))
  upd : ∀ (j i s : Nat) (b2 : Blk), ι[j]? = some (i, s) → H2[j]? = some b2 → b2.isRw = true → ∃ b2' b', H2'[j]? = some b2' ∧ H'[i]? = some b' ∧ BBack ι' b2' b'
  old : ∀ i, i < H.length → (∀ (j s : Nat) (b2 : Blk), ι[j]? = some (i, s) → H2[j]? = some b2 → b2.isRw = false) → H'[i]? = H[i]?
  new : ∀ (k : Nat) (b2 : Blk), H2'[H2.length + k]? = some b2 → (b2.isRw = true ∨ b2 = .dead) ∧ ∃ b, H'[H.length + k]? = some b ∧ BBack ι' b2 b

theorem emb_core {ι ι' : List (Nat × Nat)} {H H2 H2' H' : List Blk} {m m2' : LM} {w w' : World} (hh : HRel m H w) (hb : BlksRen ι H ι H2) (hi : injB ι H2 = true) (hz : ∀ (j i s : Nat) (b2 : Blk), ι[j]? = some (i, s) → H2[j]? = some b2 → b2.isRw = true → s = 0)
    (h2' : HRel m2' H2' w') (hf : Fr H2.length (m.re ι) H2 w m2' H2' w') (ho : EmbOut ι H H2 H2' H' ι') :
    ∃ m', HRel m' H' w' ∧ Fr H.length m H w m' H' w' ∧ Along ι' m2' m' := by
  classical
  have hlen := hb.len
  -- the caller's map
  let isU : Nat → Nat → Prop := fun i j => ∃ s b2, ι[j]? = some (i, s) ∧ H2[j]? = some b2 ∧ b2.isRw = true
  let m' : LM := fun i => if i < H.length then (if h : ∃ j, isU i j then m2' (Classical.choose h) else m i) else m2' (i - H.length + H2.length)
  have uniq : ∀ i j j', isU i j → isU i j' → j = j' := fun i j j' ⟨s, b2, h1, h2, h3⟩ ⟨s', b2', h1', h2', h3'⟩ => injB_spec hi h1 h1' h2 h2' h3
  have ltU : ∀ i j, isU i j → i < H.length := fun i j ⟨s, b2, h1, h2, h3⟩ => by
    obtain ⟨b, _, k1, _, _⟩ := hb.get h1
    exact (List.getElem?_eq_some_iff.1 k1).1
  have mU : ∀ i j, isU i j → m' i = m2' j := fun i j hu => by
    have hex : ∃ j, isU i j := ⟨j, hu⟩
    simp only [m', ltU i j hu, if_true, dif_pos hex]
    rw [uniq i _ j (Classical.choose_spec hex) hu]
  have mO : ∀ i, i < H.length → (¬ ∃ j, isU i j) → m' i = m i := fun i hl hn => by simp only [m', hl, if_true, dif_neg hn]
  have mN : ∀ k, m' (H.length + k) = m2' (H2.length + k) := fun k => by
    simp only [m', show ¬ (H.length + k < H.length) by omega, if_false]; congr 1; omega
  have reU : ∀ i j, isU i j → (m.re ι) j = m i := fun i j ⟨s, b2, h1, h2, h3⟩ => by
    have := hz j i s b2 h1 h2 h3; subst this
    simp [LM.re, h1, shiftO_zero]
  have jlt : ∀ i j, isU i j → j < H2.length := fun i j ⟨s, b2, h1, h2, h3⟩ => (List.getElem?_eq_some_iff.1 h2).1
  have rwU : ∀ i j, isU i j → ∃ b, H[i]? = some b ∧ b.isRw = true := fun i j ⟨s, b2, h1, h2, h3⟩ => by
    obtain ⟨b, b2', k1, k2, k3⟩ := hb.get h1
    rw [h2] at k2; cases k2
    exact ⟨b, k1, k3.1 h3⟩
  have hle : m.le m' := fun i l hl => by
    have hil := hh.dom i l hl
    by_cases hu : ∃ j, isU i j
    · obtain ⟨j, hu⟩ := hu
      rw [mU i j hu]
      rcases hf.base j (jlt i j hu) l (by rw [reU i j hu]; exact hl) with h1 | ⟨h1, h2, _⟩
      · exact .inl h1
      · exact .inr ⟨h1, h2⟩
    · rw [mO i hil hu]; exact .inl hl
  have along : Along ι' m2' m' := by
    intro j i s hj
    rw [ho.num, List.getElem?_append] at hj
    split at hj
    · rename_i hjl
      obtain ⟨b, b2, k1, k2, k3⟩ := hb.get hj
      have hil : i < H.length := (List.getElem?_eq_some_iff.1 k1).1
      by_cases hw : b2.isRw = true
      · have hu : isU i j := ⟨s, b2, hj, k2, hw⟩
        have := hz j i s b2 hj k2 hw; subst this
        rw [mU i j hu, shiftO_zero]
      · have hno : ¬ ∃ j', isU i j' := fun ⟨j', s', b2', h1, h2, h3⟩ => by
          have := injB_spec hi h1 hj h2 k2 h3
          subst this
          rw [k2] at h2; cases h2; exact hw h3
        rw [mO i hil hno]
        have hre : (m.re ι) j = shiftO s (m i) := by simp [LM.re, hj]
        have hj2 : j < H2.length := by rw [← hlen]; exact hjl
        cases hm : (m.re ι) j with
        | none => rw [hf.base' j hj2 hm, ← hre, hm]
        | some l =>
          rcases hf.base j hj2 l hm with h1 | ⟨h1, h2, b', h3, h4⟩
          · rw [h1, ← hre, hm]
          · rw [k2] at h3; cases h3; exact absurd h4 hw
    · rename_i hjl
      have hk : j - ι.length < H2'.length - H2.length := by
        have := (List.getElem?_eq_some_iff.1 hj).1; simpa using this
      simp [hk] at hj
      obtain ⟨rfl, rfl⟩ := hj
      rw [mN, shiftO_zero]
      congr 1; omega
  have dead2 : ∀ i l, m' i = some l → i < H'.length := fun i l hl => by
    rw [ho.len]
    rcases Nat.lt_or_ge i H.length with h | h
    · omega
    · obtain ⟨k, rfl⟩ := Nat.exists_eq_add_of_le h
      rw [mN] at hl
      have := h2'.dom _ _ hl
      omega
  refine ⟨m', ⟨dead2, fun i l b' hl hd hb' => ?_, fun i hl => ?_, fun i i' r b' hl hb' hw hl' => ?_⟩, ⟨hf.size, fun _ => by rw [ho.len]; omega, fun i hi l hl => ?_, fun i hi hl => ?_, fun i hi b' hb' hw => ?_, fun r hr hw => ?_, hf.out⟩, along⟩
  · -- blk
    rcases Nat.lt_or_ge i H.length with hil | hil
    · by_cases hu : ∃ j, isU i j
      · obtain ⟨j, hu⟩ := hu
        obtain ⟨s, b2, h1, h2, h3⟩ := hu
        obtain ⟨b2', b'', k1, k2, k3⟩ := ho.upd j i s b2 h1 h2 h3
        rw [hb'] at k2; cases k2
        rw [mU i j ⟨s, b2, h1, h2, h3⟩] at hl
        exact k3.2.2 m2' m' along l w' (h2'.blk j l b2' hl hd k1)
      · rw [mO i hil hu] at hl
        rw [ho.old i hil (fun j s b2 h1 h2 => by
          cases hbw : b2.isRw with
          | false => rfl
          | true => exact absurd ⟨j, s, b2, h1, h2, hbw⟩ hu)] at hb'
        refine ((hh.blk i l b' hl hd hb').mono hle).same (fun r hr => ?_)
        have hlt : r < w.heap.size := hh.lt (i := i) (by rw [hl]; exact hr)
        refine (hf.keep r hlt (fun ⟨j, b2, g1, g2, g3⟩ => hu ?_)).1
        obtain ⟨l2, e1, _, e3⟩ := locBlk_some g1
        have hj : ∃ i' s, ι[j]? = some (i', s) ∧ shiftO s (m i') = some l2 := by
          unfold LM.re at e1; split at e1
          · rename_i i' s hj; exact ⟨i', s, hj, e1⟩
          · cases e1
        obtain ⟨i', s, hj, e4⟩ := hj
        obtain ⟨b, q1, q2⟩ := rwU i' j ⟨s, b2, hj, g2, g3⟩
        have e5 : locBlk (m i') = some r := by rw [← locBlk_shift s, e4]; exact e3
        have := hh.own i' i r b e5 q1 q2 (by rw [hl]; exact hr)
        subst this
        exact ⟨j, s, b2, hj, g2, g3⟩
    · obtain ⟨k, rfl⟩ := Nat.exists_eq_add_of_le hil
      rw [mN] at hl
      have hk := h2'.dom _ _ hl
      obtain ⟨b2, hb2⟩ : ∃ b2, H2'[H2.length + k]? = some b2 := ⟨_, List.getElem?_eq_getElem hk⟩
      obtain ⟨_, b'', k1, k2⟩ := ho.new k b2 hb2
      rw [hb'] at k1; cases k1
      exact k2.2.2 m2' m' along l w' (h2'.blk _ l b2 hl hd hb2)
  · -- dead
    rcases Nat.lt_or_ge i H.length with hil | hil
    · by_cases hu : ∃ j, isU i j
      · obtain ⟨j, s, b2, h1, h2, h3⟩ := hu
        obtain ⟨b2', b'', k1, k2, k3⟩ := ho.upd j i s b2 h1 h2 h3
        rw [mU i j ⟨s, b2, h1, h2, h3⟩] at hl
        have := h2'.dd j hl
        rw [k1] at this; cases this
        rw [k2, k3.2.1 rfl]
      · rw [mO i hil hu] at hl
        rw [ho.old i hil (fun j s b2 h1 h2 => by
          cases hbw : b2.isRw with
          | false => rfl
          | true => exact absurd ⟨j, s, b2, h1, h2, hbw⟩ hu)]
        exact hh.dd i hl
    · obtain ⟨k, rfl⟩ := Nat.exists_eq_add_of_le hil
      rw [mN] at hl
      have hb2 := h2'.dd _ hl
      obtain ⟨_, b'', k1, k2⟩ := ho.new k _ hb2
      rw [k1, k2.2.1 rfl]
  · -- own
    have cls : ∀ i r, locBlk (m' i) = some r → (i < H.length ∧ locBlk (m i) = some r ∧ (∀ j, isU i j → locBlk (m2' j) = some r)) ∨ (∃ k, i = H.length + k ∧ locBlk (m2' (H2.length + k)) = some r) := fun i r hl => by
      rcases Nat.lt_or_ge i H.length with hil | hil
      · left
        refine ⟨hil, ?_, fun j hu => by rw [← mU i j hu]; exact hl⟩
        by_cases hu : ∃ j, isU i j
        · obtain ⟨j, hu⟩ := hu
          rw [mU i j hu] at hl
          rw [← reU i j hu]
          obtain ⟨l, e1, e2, e3⟩ := locBlk_some hl
          cases hm : (m.re ι) j with
          | none => rw [hf.base' j (jlt i j hu) hm] at e1; cases e1
          | some l0 =>
            rcases hf.base j (jlt i j hu) l0 hm with h1 | ⟨h1, _⟩
            · rw [h1] at hl; exact hl
            · rw [h1] at hl; cases hl
        · rw [mO i hil hu] at hl; exact hl
      · right
        obtain ⟨k, rfl⟩ := Nat.exists_eq_add_of_le hil
        exact ⟨k, rfl, by rw [← mN]; exact hl⟩
    -- a new block that may be written lies in no old one that is still mapped
    have newOld : ∀ k r i, (∃ b2, H2'[H2.length + k]? = some b2 ∧ b2.isRw = true) → locBlk (m2' (H2.length + k)) = some r → i < H.length → locBlk (m i) = some r → (∀ j, isU i j → locBlk (m2' j) = some r) → False := by
      intro k r i ⟨b2, hb2, hrw⟩ hk hil hmi hju
      have hlt : r < w.heap.size := hh.lt hmi
      have hWr : Wr (m.re ι) H2 r := Classical.byContradiction (fun hn => (hf.keep r hlt hn).2 ⟨_, b2, hk, hb2, hrw⟩)
      obtain ⟨j, b0, g1, g2, g3⟩ := hWr
      obtain ⟨l2, e1, _, e3⟩ := locBlk_some g1
      have hj : ∃ i' s, ι[j]? = some (i', s) ∧ shiftO s (m i') = some l2 := by
        unfold LM.re at e1; split at e1
        · rename_i i' s hj; exact ⟨i', s, hj, e1⟩
        · cases e1
      obtain ⟨i', s, hj, e4⟩ := hj
      obtain ⟨b, q1, q2⟩ := rwU i' j ⟨s, b0, hj, g2, g3⟩
      have e5 : locBlk (m i') = some r := by rw [← locBlk_shift s, e4]; exact e3
      have := hh.own i' i r b e5 q1 q2 hmi
      subst this
      have hju' := hju j ⟨s, b0, hj, g2, g3⟩
      have := h2'.own _ _ r b2 hk hb2 hrw hju'
      have := (List.getElem?_eq_some_iff.1 g2).1
      omega
    have rwNew : ∀ k b', H'[H.length + k]? = some b' → b'.isRw = true → ∃ b2, H2'[H2.length + k]? = some b2 ∧ b2.isRw = true := fun k b' hb' hw => by
      have hlt : H.length + k < H'.length := (List.getElem?_eq_some_iff.1 hb').1
      have hk : H2.length + k < H2'.length := by rw [ho.len] at hlt; have := ho.len2; omega
      obtain ⟨_, b'', k1, k2⟩ := ho.new k _ (List.getElem?_eq_getElem hk)
      rw [hb'] at k1; cases k1
      exact ⟨_, List.getElem?_eq_getElem hk, by rw [← k2.1]; exact hw⟩
    rcases cls i r hl with ⟨hil, a1, a2⟩ | ⟨k, rfl, a1⟩
    · have hbo : ∃ b, H[i]? = some b ∧ b.isRw = true := by
        by_cases hu : ∃ j, isU i j
        · obtain ⟨j, hu⟩ := hu; exact rwU i j hu
        · rw [ho.old i hil (fun j s b2 h1 h2 => by
            cases hbw : b2.isRw with
            | false => rfl
            | true => exact absurd ⟨j, s, b2, h1, h2, hbw⟩ hu)] at hb'
          exact ⟨b', hb', hw⟩
      obtain ⟨b, q1, q2⟩ := hbo
      rcases cls i' r hl' with ⟨hil', a1', a2'⟩ | ⟨k, rfl, a1'⟩
      · exact hh.own i i' r b a1 q1 q2 a1'
      · exfalso
        have hlt : r < w.heap.size := hh.lt a1
        -- the other is new: it is one that may be written, or dead
        obtain ⟨l, e1, e2, _⟩ := locBlk_some a1'
        have hk := h2'.dom _ _ e1
        obtain ⟨hor, _⟩ := ho.new k _ (List.getElem?_eq_getElem hk)
        rcases hor with hor | hor
        · exact newOld k r i ⟨_, List.getElem?_eq_getElem hk, hor⟩ a1' hil a1 a2
        · have hB := h2'.blk _ l _ e1 e2 (List.getElem?_eq_getElem hk)
          rw [hor] at hB
          cases l <;> exact hB.elim
    · obtain ⟨b2, hb2, hrw⟩ := rwNew k b' hb' hw
      rcases cls i' r hl' with ⟨hil', a1', a2'⟩ | ⟨k', rfl, a1'⟩
      · exact (newOld k r i' ⟨b2, hb2, hrw⟩ a1 hil' a1' a2').elim
      · have := h2'.own _ _ r b2 a1 hb2 hrw a1'
        omega
  · -- base
    by_cases hu : ∃ j, isU i j
    · obtain ⟨j, hu⟩ := hu
      rw [mU i j hu]
      rcases hf.base j (jlt i j hu) l (by rw [reU i j hu]; exact hl) with h1 | ⟨h1, h2, _⟩
      · exact .inl h1
      · exact .inr ⟨h1, h2, rwU i j hu⟩
    · rw [mO i hi hu]; exact .inl hl
  · by_cases hu : ∃ j, isU i j
    · obtain ⟨j, hu⟩ := hu
      rw [mU i j hu]
      exact hf.base' j (jlt i j hu) (by rw [reU i j hu]; exact hl)
    · rw [mO i hi hu]; exact hl
  · by_cases hu : ∃ j, isU i j
    · obtain ⟨j, hu⟩ := hu; exact rwU i j hu
    · rw [ho.old i hi (fun j s b2 h1 h2 => by
        cases hbw : b2.isRw with
        | false => rfl
        | true => exact absurd ⟨j, s, b2, h1, h2, hbw⟩ hu)] at hb'
      exact ⟨b', hb', hw⟩
  · have hw2 : ¬ Wr (m.re ι) H2 r := fun h => hw (h.re hb)
    obtain ⟨k1, k2⟩ := hf.keep r hr hw2
    refine ⟨k1, fun ⟨i, b', g1, g2, g3⟩ => ?_⟩
    rcases Nat.lt_or_ge i H.length with hil | hil
    · by_cases hu : ∃ j, isU i j
      · obtain ⟨j, s, b2, h1, h2, h3⟩ := hu
        obtain ⟨b2', b'', q1, q2, q3⟩ := ho.upd j i s b2 h1 h2 h3
        rw [g2] at q2; cases q2
        rw [mU i j ⟨s, b2, h1, h2, h3⟩] at g1
        exact k2 ⟨j, b2', g1, q1, by rw [← q3.1]; exact g3⟩
      · rw [mO i hil hu] at g1
        rw [ho.old i hil (fun j s b2 h1 h2 => by
          cases hbw : b2.isRw with
          | false => rfl
          | true => exact absurd ⟨j, s, b2, h1, h2, hbw⟩ hu)] at g2
        exact hw ⟨i, b', g1, g2, g3⟩
    · obtain ⟨k, rfl⟩ := Nat.exists_eq_add_of_le hil
      rw [mN] at g1
      have hlt : H.length + k < H'.length := (List.getElem?_eq_some_iff.1 g2).1
      have hk : H2.length + k < H2'.length := by rw [ho.len] at hlt; have := ho.len2; omega
      obtain ⟨_, b'', q1, q2⟩ := ho.new k _ (List.getElem?_eq_getElem hk)
      rw [g2] at q1; cases q1
      exact k2 ⟨_, _, g1, List.getElem?_eq_getElem hk, by rw [← q2.1]; exact g3⟩

/-- A CALL IN A GREATER HEAP. -/
theorem acall_embed {P : Program} {f : FuncId} {args2 args : List Value} {H2 H : List Blk} {R2 R : Value → List Blk → Prop} (hc : ACall P f args2 H2 R2) (ι : List (Nat × Nat)) (ha : LRen ι args2 args) (hb : BlksRen ι H ι H2) (hi : injB ι H2 = true)
    (hz : ∀ (j i s : Nat) (b2 : Blk), ι[j]? = some (i, s) → H2[j]? = some b2 → b2.isRw = true → s = 0)
    (hR : ∀ v2 H2', R2 v2 H2' → ∃ v H' ι', EmbOut ι H H2 H2' H' ι' ∧ VBack ι' v2 v ∧ R v H') : ACall P f args H R :=
  ⟨hc.1, fun m argsR w hl hh => by
    refine (hc.2 (m.re ι) argsR w (ha m _ hl) (hh.re hb hi)).mono ?_
    rintro vR w' ⟨v2, H2', m2', r1, r2, r3, r4⟩
    obtain ⟨v, H', ι', e1, e2, e3⟩ := hR v2 H2' r1
    obtain ⟨m', k1, k2, k3⟩ := emb_core hh hb hi hz r3 r4 e1
    exact ⟨v, H', m', e3, e2 m2' m' k3 _ r2, k1, k2⟩⟩

end Go.Af
