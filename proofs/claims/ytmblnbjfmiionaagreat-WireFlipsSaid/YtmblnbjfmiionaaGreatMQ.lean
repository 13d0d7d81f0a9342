/-
  The law WireFlips returns true for every row of bytes and all bits: its given statement, with no condition of its own.
  Facts of the seat for the statements.
  Rows of bytes, and of pairs of bytes, as arguments; three rows beside one another. No program is in sight.
  Rows of truth values as arguments, and several rows beside one another. No program is in sight.
  From arguments that are read as data to the abstract heap, and back. No program is in sight.
-/
import Derived.Test.YtmblnbjfmiionaaGreatMC
import Derived.ProofKit
import Derived.Lib.SmallJoins
import Derived.Deep.Grids
import Derived.OpenShut
import Derived.Test.YtmblnbjfmiionaaGreatRows
import Derived.Test.YtmblnbjfmiionaaGreatMQA
set_option linter.all false
namespace Go.Af
open Go Go.ChangeShapes Go.WideShapes Go.ChangeAt Go.RowKit

section
variable {H : Type} {enc : TypeId × Value → H} {P : Program}
theorem post_below {f : Func} {s : ChangeSpec} {apart fresh handsOn again : Bool} {W W' : World} {args : Array Value} {v : Value} {ds gs : List (DataW H)} {before pa pv : List MemPlace}
    (hW : DataW.Whole enc P f.params.toList s.vars apart W args.toList ds gs before)
    (hres : ∀ (b : Nat) (sp : Nat → Bool) (hd : Bool), DataW.TrodAll enc P W' b sp hd f.resultTypes.toList (v.resultList f.resultTypes.size) (s.fn H (ds ++ gs)).results [])
    (hargs : ∀ sp : Nat → Bool, (∀ p ∈ before, sp p.block = true) → DataW.TrodAll enc P W' 0 sp true f.params.toList args.toList (s.fn H (ds ++ gs)).args pa)
    (hvars : ∀ sp : Nat → Bool, (∀ p ∈ before, sp p.block = true) → DataW.TrodVars enc P W' sp s.vars (s.fn H (ds ++ gs)).vars pv)
    (hps : before = pa ++ pv) (hb : Below W.heap.size W W')
    (hok : ∀ (j : Nat) (t : TypeId) (r : Value), f.resultTypes[j]? = some t → (v.resultList f.resultTypes.size)[j]? = some r → Value.okWide P W' .any 0 t r) :
    s.post enc P f apart fresh handsOn again W args v W' := by
  have hlt : ∀ p ∈ before, p.block < W.heap.size := fun p hp => hW.lt p hp
  have hold : ∀ p ∈ before, (fun b => decide (b < W.heap.size)) p.block = true := fun p hp => by simpa using hlt p hp
  refine ⟨ds, gs, before, [], pa, pv, hW, hres _ _ _, hargs _ hold, hvars _ hold, World.keptBut_mono (fun p hp => ⟨hp, ?_⟩) (hb.frame (· ∈ before)), fun _ => ?_⟩
  · rw [hps, List.mem_append] at hp
    exact Or.inr hp
  · obtain ⟨_, _, _, _, _, hz, hn⟩ := hW
    refine ⟨hok, _, _, ([] ++ pa) ++ pv, ⟨[] ++ pa, pv, trodAll_append (hargs _ (fun _ _ => rfl)) (hres _ _ _), hvars _ (fun _ _ => rfl), rfl, ?_, ?_⟩, ?_⟩
    · intro b off hp
      have hin : MemPlace.cell b off ∈ before := by rw [hps]; simpa using hp
      rw [hb.frozen (hlt _ hin)]
      exact hz b off hin
    · intro ha
      have := hn ha
      rw [hps] at this
      simpa using this
    · intro p hp _
      rw [hps]
      simpa using hp
/-- An argument that is only read reads behind the call as it did. -/
theorem below_trod {t : TypeId} (hl : laidOutB P = true) (hr : P.readableRec t = true) (hrow : t < P.types.size) {W W' : World} {v : Value} {d : DataW H} {ps : List MemPlace}
    (h : DataW.Trod enc P W 0 (fun _ => true) true t v d ps) (hb : Below W.heap.size W W') (hlt : ∀ x ∈ ps, x.block < W.heap.size) {sp : Nat → Bool} (hsp : ∀ x ∈ ps, sp x.block = true) :
    DataW.Trod enc P W' 0 sp true t v d ps :=
  WideElems.Trod_stays hl hr hrow h (fun x hx => hb.same (hlt x hx)) hsp
end

/-- Memory that is only read: all that was there is as it was. -/
theorem below_of {m m' : LM} {H H' : List Blk} {w w' : World} (hro : allRo H = true) (h : Fr H.length m H w m' H' w') : Below w.heap.size w w' :=
  ⟨h.out.os, h.out.tape, h.out.output, h.size, fun k hk => (h.keep k hk fun ⟨i, b, _, h2, h3⟩ => by rw [allRo_get hro h2] at h3; cases h3).1⟩

def noLoc : LM := fun _ => none
theorem hrel_no (H : List Blk) (w : World) : HRel noLoc H w := ⟨fun i l h => (by cases h), fun i l b h => (by cases h), fun i h => (by cases h), fun i j r b h => (by cases h)⟩

/-- A slice of numbers that can be read, as an abstract row. -/
theorem ints_arg {W : World} {v : Value} (h : v = .slice none 0 0 ∨ ∃ (a : Addr) (len cap : Nat) (zs : List Int), v = .slice (some a) len cap ∧ len ≤ cap ∧ zs.length = cap ∧ ∀ i, i < zs.length → W.cell? (a.add i) = some (.int .i64 (zs.getD i 0))) :
    ∃ (xs : List Int) (m : LM), HRel m [ro xs] W ∧ VRel m (sv 0 xs.length) v := by
  rcases h with rfl | ⟨a, len, cap, zs, rfl, hlc, hz, hc⟩
  · exact ⟨[], noLoc, hrel_no _ _, .sliceZero _ _ _⟩
  · cases hcap : cap with
    | zero =>
      have : len = 0 := by omega
      subst this
      exact ⟨[], noLoc, hrel_no _ _, .sliceZero _ _ _⟩
    | succ k =>
      rw [← hcap]
      have h0 := hc 0 (by omega)
      have ea : a.add 0 = a := by simp [Addr.add]
      rw [ea] at h0
      unfold World.cell? at h0
      cases hb : W.heap[a.block]? with
      | none => rw [hb] at h0; cases h0
      | some o =>
        rw [hb] at h0
        cases o with
        | cells c e f =>
          simp only at h0
          have hs : a.spot = none := by
            cases hsp : a.spot with
            | none => rfl
            | some s => rw [hsp] at h0; cases h0
          obtain ⟨blk, off, spot⟩ := a
          simp only at hs hb
          subst hs
          have hcell : ∀ i, i < zs.length → c[off + i]? = some (.int .i64 (zs.getD i 0)) := fun i hi => by
            have := hc i hi
            rw [addr_add] at this
            simpa [World.cell?, hb] using this
          refine ⟨zs.take len, fun i => if i = 0 then some (.cel blk off 0 0) else none, ?_, ?_⟩
          · refine ⟨fun i l hl => ?_, fun i l b hl hd hb' => ?_, fun i hl => ?_, fun i j r b hl hb' hw => ?_⟩
            · split at hl
              · rename_i h; subst h; simp
              · cases hl
            · split at hl
              · rename_i h; subst h; cases hl
                simp at hb'; subst hb'
                refine ⟨c, e, f, hb, fun i x hx => ?_, .inl rfl, fun h => by cases h⟩
                rw [ints_get] at hx
                cases hy : (zs.take len)[i]? with
                | none => rw [hy] at hx; cases hx
                | some y =>
                  rw [hy] at hx; cases hx
                  have hlt : i < (zs.take len).length := (List.getElem?_eq_some_iff.1 hy).1
                  simp only [List.length_take] at hlt
                  rw [List.getElem?_take_of_lt (by omega)] at hy
                  exact ⟨_, hcell i (by omega), by rw [show zs.getD i 0 = y by simp [List.getD, hy]]; exact .int _ _⟩
              · cases hl
            · split at hl <;> cases hl
            · cases i with
              | zero => simp at hb'; subst hb'; cases hw
              | succ i => simp at hb'
          · have e1 : (zs.take len).length = len := by simp; omega
            rw [e1]
            have := VRel.slice (m := fun i => if i = 0 then some (.cel blk off 0 0) else none) 0 0 blk off 0 0 len len cap rfl hlc (.inl rfl)
            simpa using this
        | _ => cases h0

theorem i64_wf {n : Int} (h : (Lit.int .i64 n).wf = true) : I64 n := by
  simp [Lit.wf, IntKind.min, IntKind.max, IntKind.signed, IntKind.bits] at h
  unfold I64; omega
end Go.Af
namespace Go.Af
open Go Go.ChangeShapes Go.WideShapes Go.ChangeAt Go.RowKit

abbrev roV (vs : List Value) : Blk := .cells false 1 vs
/-- A slice whose cells can be read, as an abstract row. -/
theorem cells_arg {W : World} {v : Value} {F : Nat → Value} (hF : ∀ i, plainV 6 (F i) = true) (h : v = .slice none 0 0 ∨ ∃ (a : Addr) (len cap : Nat), v = .slice (some a) len cap ∧ len ≤ cap ∧ ∀ i, i < cap → W.cell? (a.add i) = some (F i)) :
    ∃ (n : Nat) (m : LM), HRel m [roV ((List.range n).map F)] W ∧ VRel m (.slice (some ⟨0, 0, none⟩) n n) v ∧ (∃ c, v = .slice none 0 0 ∧ n = 0 ∨ ∃ a, v = .slice (some a) n c) := by
  rcases h with rfl | ⟨a, len, cap, rfl, hlc, hc⟩
  · exact ⟨0, noLoc, hrel_no _ _, .sliceZero _ _ _, 0, .inl ⟨rfl, rfl⟩⟩
  · cases hcap : cap with
    | zero =>
      have : len = 0 := by omega
      subst this
      exact ⟨0, noLoc, hrel_no _ _, .sliceZero _ _ _, 0, .inr ⟨a, rfl⟩⟩
    | succ k =>
      rw [← hcap]
      have h0 := hc 0 (by omega)
      have ea : a.add 0 = a := by simp [Addr.add]
      rw [ea] at h0
      unfold World.cell? at h0
      cases hb : W.heap[a.block]? with
      | none => rw [hb] at h0; cases h0
      | some o =>
        rw [hb] at h0
        cases o with
        | cells c e f =>
          simp only at h0
          have hs : a.spot = none := by
            cases hsp : a.spot with
            | none => rfl
            | some s => rw [hsp] at h0; cases h0
          obtain ⟨blk, off, spot⟩ := a
          simp only at hs hb
          subst hs
          have hcell : ∀ i, i < cap → c[off + i]? = some (F i) := fun i hi => by
            have := hc i hi
            rw [addr_add] at this
            simpa [World.cell?, hb] using this
          refine ⟨len, fun i => if i = 0 then some (.cel blk off 0 0) else none, ?_, ?_, cap, .inr ⟨_, rfl⟩⟩
          · refine ⟨fun i l hl => ?_, fun i l b hl hd hb' => ?_, fun i hl => ?_, fun i j r b hl hb' hw => ?_⟩
            · split at hl
              · rename_i h; subst h; simp
              · cases hl
            · split at hl
              · rename_i h; subst h; cases hl
                simp at hb'; subst hb'
                refine ⟨c, e, f, hb, fun i x hx => ?_, .inl rfl, fun h => by cases h⟩
                have hlt : i < len := by have := (List.getElem?_eq_some_iff.1 hx).1; simpa using this
                rw [List.getElem?_map, List.getElem?_range hlt] at hx
                cases hx
                exact ⟨_, hcell i (by omega), VRel.plain _ 6 _ (hF i)⟩
              · cases hl
            · split at hl <;> cases hl
            · cases i with
              | zero => simp at hb'; subst hb'; cases hw
              | succ i => simp at hb'
          · have := VRel.slice (m := fun i => if i = 0 then some (.cel blk off 0 0) else none) 0 0 blk off 0 0 len len cap rfl hlc (.inl rfl)
            simpa using this
        | _ => cases h0

theorem vrel_at {m m' : LM} {b b' n : Nat} {v : Value} (h : m' b' = m b) (hv : VRel m (.slice (some ⟨b, 0, none⟩) n n) v) : VRel m' (.slice (some ⟨b', 0, none⟩) n n) v := by
  cases hv with
  | slice _ _ r sh tot esz _ _ c' h1 hc hl => exact .slice b' 0 r sh tot esz n n c' (h.trans h1) hc hl
  | sliceZero _ _ a => exact .sliceZero _ _ _
  | sliceDead _ _ _ _ c' a h1 hc => exact .sliceDead _ _ _ _ c' a (h.trans h1) hc

/-- A row of truth values that is an argument. -/
theorem arg_bools {H : Type} {enc : TypeId × Value → H} {P : Program} {W : World} {held : Bool} {r : Reach} {b0 base : Nat} {t e : TypeId} {v : Value} {d : DataW H} {ps : List MemPlace} (ht : P.underlying t = some (.slice e)) (he : P.underlying e = some .bool) (hc : P.cellsOf e = 1)
    (hval : Value.okWide P W r b0 t v) (hd : DataW.Trod enc P W base (fun _ => true) held t v d ps) :
    ∃ B : Nat → Bool, v = .slice none 0 0 ∨ ∃ (a : Addr) (len cap : Nat), v = .slice (some a) len cap ∧ len ≤ cap ∧ ∀ i, i < cap → W.cell? (a.add i) = some (.bool (B i)) := by
  obtain ⟨a, len, cap, rfl⟩ := okWide_slice ht hval
  obtain ⟨fuel, hf⟩ := hd
  rcases Go.Deep.open_bools ht he hc hf with ⟨h, _⟩ | ⟨a', len', cap', B, h, _, hl, _, _, hB⟩
  · exact ⟨fun _ => false, .inl (by simpa [Value.cells] using h)⟩
  · exact ⟨B, .inr ⟨a', len', cap', by simpa [Value.cells] using h, hl, hB⟩⟩

/-- Two rows beside one another. -/
def twoM (m1 m2 : LM) : LM := fun i => if i = 0 then m1 0 else if i = 1 then m2 0 else none
theorem brel_plain {m m' : LM} {z : Nat} {vs : List Value} {l : Loc} {w : World} (hp : vs.all (plainV 6) = true) (h : BRel m (.cells false z vs) l w) : BRel m' (.cells false z vs) l w := by
  cases l with
  | cel r sh tot esz =>
    obtain ⟨c, e, f, h1, h2, h3, h4⟩ := h
    refine ⟨c, e, f, h1, fun i v hv => ?_, h3, h4⟩
    obtain ⟨v', h5, h6⟩ := h2 i v hv
    have hpv := List.all_eq_true.1 hp v (List.mem_of_getElem? hv)
    have := VRel.plain_eq 6 v hpv h6
    subst this
    exact ⟨_, h5, VRel.plain _ 6 _ hpv⟩
  | obj r => exact h
  | dead => exact h
theorem hrel_two {m1 m2 : LM} {v1 v2 : List Value} {W : World} (p1 : v1.all (plainV 6) = true) (p2 : v2.all (plainV 6) = true) (h1 : HRel m1 [roV v1] W) (h2 : HRel m2 [roV v2] W) : HRel (twoM m1 m2) [roV v1, roV v2] W := by
  refine ⟨fun i l hl => ?_, fun i l b hl hd hb => ?_, fun i hl => ?_, fun i j r b hl hb hw => ?_⟩
  · unfold twoM at hl
    split at hl
    · rename_i h; subst h; simp
    · split at hl
      · rename_i h; subst h; simp
      · cases hl
  · unfold twoM at hl
    split at hl
    · rename_i h; subst h
      simp at hb; subst hb
      exact brel_plain p1 (h1.blk 0 l _ hl hd rfl)
    · split at hl
      · rename_i h; subst h
        simp at hb; subst hb
        exact brel_plain p2 (h2.blk 0 l _ hl hd rfl)
      · cases hl
  · unfold twoM at hl
    split at hl
    · have := h1.dd 0 hl; simp at this
    · split at hl
      · have := h2.dd 0 hl; simp at this
      · cases hl
  · rcases i with _ | _ | i
    · simp at hb; subst hb; cases hw
    · simp at hb; subst hb; cases hw
    · simp at hb
end Go.Af
namespace Go.Af
open Go Go.ChangeShapes Go.WideShapes Go.ChangeAt Go.RowKit

theorem addr_one {a : Addr} {i : Nat} : (a.add i).add 1 = a.add (i + 1) := by
  by_cases h : i = 0
  · subst h; simp [Addr.add]
  · simp [Addr.add, h, Nat.add_assoc]
/-- A slice whose elements have z cells that can be read, as an abstract row. -/
theorem cellsz_arg {W : World} {v : Value} {F : Nat → Value} (z : Nat) (hz : 0 < z) (hF : ∀ i, plainV 6 (F i) = true) (h : v = .slice none 0 0 ∨ ∃ (a : Addr) (len cap : Nat), v = .slice (some a) len cap ∧ len ≤ cap ∧ ∀ i, i < cap * z → W.cell? (a.add i) = some (F i)) :
    ∃ (n : Nat) (m : LM), HRel m [.cells false z ((List.range (n * z)).map F)] W ∧ VRel m (.slice (some ⟨0, 0, none⟩) n n) v := by
  rcases h with rfl | ⟨a, len, cap, rfl, hlc, hc⟩
  · exact ⟨0, noLoc, hrel_no _ _, .sliceZero _ _ _⟩
  · cases hcap : cap with
    | zero =>
      have : len = 0 := by omega
      subst this
      exact ⟨0, noLoc, hrel_no _ _, .sliceZero _ _ _⟩
    | succ k =>
      rw [← hcap]
      have h0 := hc 0 (Nat.mul_pos (by omega) hz)
      have ea : a.add 0 = a := by simp [Addr.add]
      rw [ea] at h0
      unfold World.cell? at h0
      cases hb : W.heap[a.block]? with
      | none => rw [hb] at h0; cases h0
      | some o =>
        rw [hb] at h0
        cases o with
        | cells c e f =>
          simp only at h0
          have hs : a.spot = none := by
            cases hsp : a.spot with
            | none => rfl
            | some s => rw [hsp] at h0; cases h0
          obtain ⟨blk, off, spot⟩ := a
          simp only at hs hb
          subst hs
          have hcell : ∀ i, i < cap * z → c[off + i]? = some (F i) := fun i hi => by
            have := hc i hi
            rw [addr_add] at this
            simpa [World.cell?, hb] using this
          have hle : len * z ≤ cap * z := Nat.mul_le_mul_right z hlc
          refine ⟨len, fun i => if i = 0 then some (.cel blk off 0 0) else none, ?_, ?_⟩
          · refine ⟨fun i l hl => ?_, fun i l b hl hd hb' => ?_, fun i hl => ?_, fun i j r b hl hb' hw => ?_⟩
            · split at hl
              · rename_i h; subst h; simp
              · cases hl
            · split at hl
              · rename_i h; subst h; cases hl
                simp at hb'; subst hb'
                refine ⟨c, e, f, hb, fun i x hx => ?_, .inl rfl, fun h => by cases h⟩
                have hlt : i < len * z := by have := (List.getElem?_eq_some_iff.1 hx).1; simpa using this
                rw [List.getElem?_map, List.getElem?_range hlt] at hx
                cases hx
                exact ⟨_, hcell i (by omega), VRel.plain _ 6 _ (hF i)⟩
              · cases hl
            · split at hl <;> cases hl
            · cases i with
              | zero => simp at hb'; subst hb'; cases hw
              | succ i => simp at hb'
          · have := VRel.slice (m := fun i => if i = 0 then some (.cel blk off 0 0) else none) 0 0 blk off 0 0 len len cap rfl hlc (.inl rfl)
            simpa using this
        | _ => cases h0

theorem wf_u8 {n : Int} (h : (Lit.int .u8 n).wf = true) : 0 ≤ n ∧ n < 256 := by
  simp [Lit.wf, IntKind.min, IntKind.max, IntKind.signed, IntKind.bits] at h
  omega
/-- A row of bytes that is an argument. -/
theorem arg_bytes {H : Type} {enc : TypeId × Value → H} {P : Program} {W : World} {held : Bool} {r : Reach} {b0 base : Nat} {t e : TypeId} {v : Value} {d : DataW H} {ps : List MemPlace} (ht : P.underlying t = some (.slice e)) (he : P.underlying e = some (.int .u8)) (hc : P.cellsOf e = 1)
    (hval : Value.okWide P W r b0 t v) (hd : DataW.Trod enc P W base (fun _ => true) held t v d ps) :
    ∃ B : Nat → Int, (∀ i, 0 ≤ B i ∧ B i < 256) ∧ (v = .slice none 0 0 ∨ ∃ (a : Addr) (len cap : Nat), v = .slice (some a) len cap ∧ len ≤ cap ∧ ∀ i, i < cap → W.cell? (a.add i) = some (.int .u8 (B i))) := by
  obtain ⟨a, len, cap, rfl⟩ := okWide_slice ht hval
  obtain ⟨fuel, hf⟩ := hd
  rcases open_ints ht he hc hf with ⟨h, _⟩ | ⟨a', len', cap', zs, h, _, hl, _, hz, _, hB, hw⟩
  · exact ⟨fun _ => 0, fun _ => by simp, .inl (by simpa [Value.cells] using h)⟩
  · simp only [if_true] at hz
    refine ⟨fun i => zs.getD i 0, fun i => ?_, .inr ⟨a', len', cap', by simpa [Value.cells] using h, hl, fun i hi => hB i (by omega)⟩⟩
    by_cases hi : i < zs.length
    · have := wf_u8 (hw zs[i] (List.getElem_mem hi))
      simpa [List.getD, List.getElem?_eq_getElem hi] using this
    · simp [List.getD, List.getElem?_eq_none (Nat.le_of_not_lt hi)]
/-- A row of pairs of bytes that is an argument. -/
theorem arg_pairs {H : Type} {enc : TypeId × Value → H} {P : Program} {W : World} {held : Bool} {r : Reach} {b0 base : Nat} {t e q : TypeId} {v : Value} {d : DataW H} {ps : List MemPlace} (ht : P.underlying t = some (.slice e)) (he : P.underlying e = some (.array 2 q)) (hq : P.underlying q = some (.int .u8)) (hc : P.cellsOf e = 2) (hc1 : P.cellsOf q = 1)
    (hval : Value.okWide P W r b0 t v) (hd : DataW.Trod enc P W base (fun _ => true) held t v d ps) :
    ∃ B : Nat → Int × Int, (∀ i, (0 ≤ (B i).1 ∧ (B i).1 < 256) ∧ 0 ≤ (B i).2 ∧ (B i).2 < 256) ∧ (v = .slice none 0 0 ∨ ∃ (a : Addr) (len cap : Nat), v = .slice (some a) len cap ∧ len ≤ cap ∧ ∀ i, i < cap → W.cell? (a.add (i * 2)) = some (.int .u8 (B i).1) ∧ W.cell? (a.add (i * 2 + 1)) = some (.int .u8 (B i).2)) := by
  obtain ⟨a, len, cap, rfl⟩ := okWide_slice ht hval
  obtain ⟨fuel, hf⟩ := hd
  rcases Go.Deep.open_slice ht hf with ⟨h, _⟩ | ⟨a', len', cap', m, n, D, Pl, h, _, hl, _, hm, _, hx⟩
  · exact ⟨fun _ => (0, 0), fun _ => by simp, .inl (by simpa [Value.cells] using h)⟩
  · simp only [if_true] at hm
    subst hm
    have key : ∀ i, i < m → ∃ p : Int × Int, ((0 ≤ p.1 ∧ p.1 < 256) ∧ 0 ≤ p.2 ∧ p.2 < 256) ∧ W.cell? (a'.add (i * 2)) = some (.int .u8 p.1) ∧ W.cell? (a'.add (i * 2 + 1)) = some (.int .u8 p.2) := fun i hi => by
      obtain ⟨cs', h1, h2⟩ := hx i hi
      rw [hc] at h1
      obtain ⟨_, hlen, hcell⟩ := World.cells?_some h1
      obtain ⟨xs, k, _, _, _, hxl, hg⟩ := DataW.trod_array he h2
      match xs, hxl, cs', hlen with
      | [y0, y1], _, [v0, v1], _ =>
        have g0 := hg 0 (by omega)
        have g1 := hg 1 (by omega)
        simp [hc1] at g0 g1
        obtain ⟨n0, e0, _, w0⟩ := DataW.trod_int hq g0
        obtain ⟨n1, e1, _, w1⟩ := DataW.trod_int hq g1
        have c0 := hcell 0 (by omega)
        have c1 := hcell 1 (by omega)
        have e0 : v0 = .int .u8 n0 := by simpa using e0
        have e1 : v1 = .int .u8 n1 := by simpa using e1
        subst e0; subst e1
        refine ⟨(n0, n1), ⟨wf_u8 w0, wf_u8 w1⟩, ?_, ?_⟩
        · simpa [Addr.add] using c0
        · rw [addr_one] at c1; simpa using c1
    have hex : ∃ B : Nat → Int × Int, ∀ i, ((0 ≤ (B i).1 ∧ (B i).1 < 256) ∧ 0 ≤ (B i).2 ∧ (B i).2 < 256) ∧ (i < m → W.cell? (a'.add (i * 2)) = some (.int .u8 (B i).1) ∧ W.cell? (a'.add (i * 2 + 1)) = some (.int .u8 (B i).2)) := by
      refine Classical.axiomOfChoice (r := fun i (p : Int × Int) => ((0 ≤ p.1 ∧ p.1 < 256) ∧ 0 ≤ p.2 ∧ p.2 < 256) ∧ (i < m → W.cell? (a'.add (i * 2)) = some (.int .u8 p.1) ∧ W.cell? (a'.add (i * 2 + 1)) = some (.int .u8 p.2))) (fun i => ?_)
      by_cases hi : i < m
      · obtain ⟨p, h1, h2⟩ := key i hi
        exact ⟨p, h1, fun _ => h2⟩
      · exact ⟨(0, 0), by simp, fun h => absurd h hi⟩
    obtain ⟨B, hB⟩ := hex
    exact ⟨B, fun i => (hB i).1, .inr ⟨a', len', m, by simpa [Value.cells] using h, hl, fun i hi => (hB i).2 hi⟩⟩

/-- Three rows beside one another. -/
def threeM (m1 m2 m3 : LM) : LM := fun i => if i = 0 then m1 0 else if i = 1 then m2 0 else if i = 2 then m3 0 else none
theorem hrel_three {m1 m2 m3 : LM} {z1 z2 z3 : Nat} {v1 v2 v3 : List Value} {W : World} (p1 : v1.all (plainV 6) = true) (p2 : v2.all (plainV 6) = true) (p3 : v3.all (plainV 6) = true) (h1 : HRel m1 [.cells false z1 v1] W) (h2 : HRel m2 [.cells false z2 v2] W) (h3 : HRel m3 [.cells false z3 v3] W) :
    HRel (threeM m1 m2 m3) [.cells false z1 v1, .cells false z2 v2, .cells false z3 v3] W := by
  have cs : ∀ {i : Nat} {l : Loc}, threeM m1 m2 m3 i = some l → (i = 0 ∧ m1 0 = some l) ∨ (i = 1 ∧ m2 0 = some l) ∨ (i = 2 ∧ m3 0 = some l) := fun {i l} hl => by
    unfold threeM at hl
    split at hl
    · exact .inl ⟨by assumption, hl⟩
    split at hl
    · exact .inr (.inl ⟨by assumption, hl⟩)
    split at hl
    · exact .inr (.inr ⟨by assumption, hl⟩)
    · cases hl
  refine ⟨fun i l hl => ?_, fun i l b hl hd hb => ?_, fun i hl => ?_, fun i j r b hl hb hw => ?_⟩
  · rcases cs hl with ⟨rfl, _⟩ | ⟨rfl, _⟩ | ⟨rfl, _⟩ <;> simp
  · rcases cs hl with ⟨rfl, hl⟩ | ⟨rfl, hl⟩ | ⟨rfl, hl⟩
    · simp at hb; subst hb; exact brel_plain p1 (h1.blk 0 l _ hl hd rfl)
    · simp at hb; subst hb; exact brel_plain p2 (h2.blk 0 l _ hl hd rfl)
    · simp at hb; subst hb; exact brel_plain p3 (h3.blk 0 l _ hl hd rfl)
  · rcases cs hl with ⟨rfl, hl⟩ | ⟨rfl, hl⟩ | ⟨rfl, hl⟩
    · have := h1.dd 0 hl; simp at this
    · have := h2.dd 0 hl; simp at this
    · have := h3.dd 0 hl; simp at this
  · rcases i with _ | _ | _ | i
    · simp at hb; subst hb; cases hw
    · simp at hb; subst hb; cases hw
    · simp at hb; subst hb; cases hw
    · simp at hb
end Go.Af
namespace Go.Proofs.YtmblnbjfmiionaaGreat
open Go Go.Af Go.ChangeShapes Go.WideShapes Go.ChangeAt Go.RowKit Go.Joins

theorem Tryz.own : ownKnob Tryz.prog.godebug = none := by kernel_rfl
theorem Tryz.laidOut : laidOutB Tryz.prog = true := by kernel_rfl
theorem Tryz.cells3 : Tryz.prog.cellsOf 3 = 1 := by kernel_rfl
theorem Tryz.cells4 : Tryz.prog.cellsOf 4 = 1 := by kernel_rfl
theorem Tryz.cells31 : Tryz.prog.cellsOf 31 = 1 := by kernel_rfl
theorem Tryz.cells5 : Tryz.prog.cellsOf 5 = 1 := by kernel_rfl
theorem Tryz.cells28 : Tryz.prog.cellsOf 28 = 1 := by kernel_rfl
theorem Tryz.cells30 : Tryz.prog.cellsOf 30 = 3 := by kernel_rfl
theorem Tryz.cells33 : Tryz.prog.cellsOf 33 = 8 := by kernel_rfl
end Go.Proofs.YtmblnbjfmiionaaGreat
namespace Go.Proofs.YtmblnbjfmiionaaGreat
open Go Go.Af Go.ChangeShapes Go.WideShapes Go.ChangeAt Go.RowKit Go.Joins

theorem Tryz.cells24 : Tryz.prog.cellsOf 24 = 1 := by kernel_rfl
theorem Tryz.cells63 : Tryz.prog.cellsOf 63 = 3 := by kernel_rfl
set_option maxRecDepth 100000 in
theorem arg_bys {H : Type} {enc : TypeId × Value → H} {W : World} {held : Bool} {r : Reach} {b0 base : Nat} {v : Value} {d : DataW H} {ps : List MemPlace}
    (hval : Value.okWide Tryz.prog W r b0 22 v) (hd : DataW.Trod enc Tryz.prog W base (fun _ => true) held 22 v d ps) :
    ∃ (l : List Nat) (m : LM), Go.Af.Tryz.Bytes l ∧ HRel m [.cells false 1 (Go.Af.Tryz.bys l)] W ∧ VRel m (sv 0 l.length) v := by
  obtain ⟨B, hB1, hB⟩ := arg_bytes Tryz.underlying22 Tryz.underlying5 Tryz.cells5 hval hd
  obtain ⟨k, m, hm, hv⟩ := cellsz_arg (F := fun i => Value.int .u8 (B i)) 1 (by decide) (fun _ => rfl) (by simpa using hB)
  have eb : (List.range (k * 1)).map (fun i => Value.int .u8 (B i)) = Go.Af.Tryz.bys ((List.range k).map (fun i => (B i).toNat)) := by
    simp only [Go.Af.Tryz.bys, List.map_map, Nat.mul_one]
    refine List.map_congr_left fun i _ => ?_
    have := (hB1 i).1
    simp only [Function.comp]
    rw [Int.toNat_of_nonneg this]
  rw [eb] at hm
  have hk : k = ((List.range k).map (fun i => (B i).toNat)).length := by simp
  have hby : Go.Af.Tryz.Bytes ((List.range k).map (fun i => (B i).toNat)) := fun x hx => by
    obtain ⟨i, _, rfl⟩ := List.mem_map.1 hx
    have := hB1 i
    omega
  rw [hk] at hv
  exact ⟨_, m, hby, hm, hv⟩
set_option maxRecDepth 100000 in
theorem arg_u8 {H : Type} {enc : TypeId × Value → H} {W : World} {held : Bool} {r : Reach} {b0 base : Nat} {v : Value} {d : DataW H} {ps : List MemPlace}
    (hval : Value.okWide Tryz.prog W r b0 5 v) (hd : DataW.Trod enc Tryz.prog W base (fun _ => true) held 5 v d ps) : ∃ n : Nat, n < 256 ∧ v = .int .u8 (n : Int) := by
  obtain ⟨z, rfl⟩ := okWide_int Tryz.underlying5 hval
  obtain ⟨fuel, hf⟩ := hd
  obtain ⟨n, e, _, w⟩ := DataW.trod_int Tryz.underlying5 hf
  have e : z = n := by simpa [Value.cells] using e
  subst e
  have := wf_u8 w
  exact ⟨z.toNat, by omega, by rw [Int.toNat_of_nonneg this.1]⟩
theorem wf_u16 {n : Int} (h : (Lit.int .u16 n).wf = true) : 0 ≤ n ∧ n < 65536 := by
  simp [Lit.wf, IntKind.min, IntKind.max, IntKind.signed, IntKind.bits] at h
  omega
set_option maxRecDepth 100000 in
theorem arg_u163 {H : Type} {enc : TypeId × Value → H} {W : World} {held : Bool} {r : Reach} {b0 base : Nat} {v : Value} {d : DataW H} {ps : List MemPlace}
    (hval : Value.okWide Tryz.prog W r b0 63 v) (hd : DataW.Trod enc Tryz.prog W base (fun _ => true) held 63 v d ps) : ∃ x0 x1 x2 : Nat, x0 < 65536 ∧ x1 < 65536 ∧ x2 < 65536 ∧ v = .agg ⟨[.int .u16 (x0 : Int), .int .u16 (x1 : Int), .int .u16 (x2 : Int)]⟩ := by
  have hc : ∃ cs, v = .agg cs ∧ cs.size = 3 := by
    simp only [Value.okWide, Tryz.underlying63] at hval
    obtain ⟨cs, e1, e2, _⟩ := hval
    exact ⟨cs, e1, e2.trans Tryz.cells63⟩
  obtain ⟨cs, rfl, hsz⟩ := hc
  obtain ⟨cl⟩ := cs
  match cl, hsz with
  | [c0, c1, c2], _ =>
    obtain ⟨fuel, hf⟩ := hd
    obtain ⟨xs, k, _, _, _, hxl, hg⟩ := DataW.trod_array Tryz.underlying63 hf
    match xs, hxl with
    | [y0, y1, y2], _ =>
      have g0 := hg 0 (by omega)
      have g1 := hg 1 (by omega)
      have g2 := hg 2 (by omega)
      simp [Tryz.cells24, Value.cells] at g0 g1 g2
      obtain ⟨n0, e0, _, w0⟩ := DataW.trod_int Tryz.underlying24 g0
      obtain ⟨n1, e1, _, w1⟩ := DataW.trod_int Tryz.underlying24 g1
      obtain ⟨n2, e2, _, w2⟩ := DataW.trod_int Tryz.underlying24 g2
      have e0 : c0 = .int .u16 n0 := by simpa using e0
      have e1 : c1 = .int .u16 n1 := by simpa using e1
      have e2 : c2 = .int .u16 n2 := by simpa using e2
      subst e0; subst e1; subst e2
      have b0 := wf_u16 w0
      have b1 := wf_u16 w1
      have b2 := wf_u16 w2
      exact ⟨n0.toNat, n1.toNat, n2.toNat, by omega, by omega, by omega, by rw [Int.toNat_of_nonneg b0.1, Int.toNat_of_nonneg b1.1, Int.toNat_of_nonneg b2.1]⟩

set_option maxRecDepth 100000 in
theorem wireFlips_lifted (os : Os) (started : os.Started) (H : Type) (enc : TypeId × Value → H) :
    ReturnsInHanded {} Tryz.checked os 6 .any (Rows.wireFlipsSpec.pre6 enc Tryz.prog Tryz.f6 Rows.wireFlipsRow.domain false) (Rows.wireFlipsSpec.post enc Tryz.prog Tryz.f6 false true false false) := by
  refine returnsInHanded_of_change (C := Tryz.checked) Tryz.own started (by kernel_rfl) Tryz.func6
    (ChangeSpec.witness6 (enc := enc) (C := Tryz.checked) false ⟨#[], #[.slice none 0 0, .agg #[.int .u16 0, .int .u16 0, .int .u16 0], .int .u8 0], []⟩ 8 (by kernel_rfl) (by kernel_rfl) (by kernel_rfl) (by kernel_rfl)) ?_
  intro W base args ds gs before hval0 hW hcnd _
  have hval : ∀ (j : Nat) t v, Tryz.f6.params[j]? = some t → args[j]? = some v → Value.okWide Tryz.prog W .any base t v := hval0
  have hW' := hW
  obtain ⟨p, q, hA0, hV, rfl, hfz, hnd⟩ := hW
  have hA : DataW.TrodAll enc Tryz.prog W 0 (fun _ => true) true Tryz.f6.params.toList args.toList ds p := hA0
  rw [Tryz.params6] at hA hval
  obtain ⟨v0, v1, v2, d0, d1, d2, p0, p1, p2, rfl, rfl, rfl, h0, h1, h2⟩ := trodAll_three hA
  obtain ⟨rfl, rfl⟩ := trodVars_none hV
  have h0k := h0
  have h1k := h1
  have h2k := h2
  obtain ⟨l, m, hby, hm, hv⟩ := arg_bys (hval 0 22 v0 rfl rfl) h0
  obtain ⟨x0, x1, x2, hx0, hx1, hx2, rfl⟩ := arg_u163 (hval 1 63 v1 rfl rfl) h1
  obtain ⟨many, hmany, rfl⟩ := arg_u8 (hval 2 5 v2 rfl rfl) h2
  have hlt : ∀ x ∈ p0 ++ (p1 ++ p2), x.block < W.heap.size := fun x hx => hW'.lt x (by simpa using hx)
  refine (Go.Af.Tryz.wk6 l hby x0 x1 x2 many hx0 hx1 hx2 hmany (m := m) (.cons hv (.cons (.agg' (.cons (.int _ _) (.cons (.int _ _) (.cons (.int _ _) (.nil m))))) (.cons (.int _ _) (.nil m)))) hm).mono fun e W' ⟨vR, he, v, H', m', hv1, hv2, _, hf⟩ => ?_
  subst he; subst hv1
  cases hv2
  have hb : Below W.heap.size W W' := below_of rfl hf
  exact ⟨_, rfl, post_below (pa := p0 ++ (p1 ++ p2)) (pv := []) hW' (fun _ _ _ => trodAll_mk1 (shut_bool Tryz.underlying4 true))
    (fun sp hsp => trodAll_mk3 (below_trod Tryz.laidOut (by kernel_rfl) (of_decide_eq_true (by kernel_rfl)) h0k hb (fun x hx => hlt x (by simp [hx])) (fun x hx => hsp x (by simp [hx])))
      (below_trod Tryz.laidOut (by kernel_rfl) (of_decide_eq_true (by kernel_rfl)) h1k hb (fun x hx => hlt x (by simp [hx])) (fun x hx => hsp x (by simp [hx])))
      (below_trod Tryz.laidOut (by kernel_rfl) (of_decide_eq_true (by kernel_rfl)) h2k hb (fun x hx => hlt x (by simp [hx])) (fun x hx => hsp x (by simp [hx]))))
    (fun _ _ => rfl) (by simp) hb (ok_one (by kernel_rfl) rfl (okWide_bool_mk Tryz.underlying4 true))⟩

theorem wireFlips_holds : Rows.WireFlipsSaid :=
  OpenClaim.holds_of_wide 6 Tryz.f6 rfl rfl rfl rfl rfl rfl rfl ⟨rfl, rfl, rfl, rfl, rfl⟩ rfl rfl rfl rfl rfl (by kernel_rfl) Tryz.func6 (by kernel_rfl)
    (of_decide_eq_true (by kernel_rfl)) (by unfold Func.isWrapper; first | (rw [if_pos (by decide +kernel)]; kernel_rfl) | (rw [if_neg (by decide +kernel)]; exact ⟨rfl, rfl⟩))
    (fun os started H enc _ => wireFlips_lifted os started H enc)
end Go.Proofs.YtmblnbjfmiionaaGreat
