/-
  The law CollKnown returns true: its given statement, with no condition of its own.
  From arguments that are read as data to the abstract heap, and back. No program is in sight.
-/
import Derived.Test.YtmnjcogpchodhaaGreatMC
import Derived.ProofKit
import Derived.Lib.SmallJoins
import Derived.Test.YtmnjcogpchodhaaGreatRows
import Derived.Test.YtmnjcogpchodhaaGreatMK
set_option linter.all false
namespace Go.Af
open Go Go.ChangeShapes Go.WideShapes Go.ChangeAt Go.RowKit

section
variable {H : Type} {enc : TypeId × Value → H} {P : Program}
theorem post_below {f : Func} {s : ChangeSpec} {apart fresh handsOn again : Bool} {W W' : World} {args : Array Value} {v : Value} {ds gs : List (DataW H)} {before pa pv : List MemPlace}
    (hW : DataW.Whole enc P f.params.toList s.vars apart W args.toList ds gs before)
    (hres : ∀ (b : Nat) (sp : Nat → Bool) (hd : Bool), DataW.TrodAll enc P W' b sp hd f.resultTypes.toList (v.resultList f.resultTypes.size) (s.fn H (ds ++ gs)).results [])
    (hargs : ∀ sp : Nat → Bool, (∀ p ∈ before, sp p.block = true) → DataW.TrodAll enc P W' 0 sp true f.params.toList args.toList (s.fn H (ds ++ gs)).args pa)
    (hvars : ∀ sp : Nat → Bool, (∀ p ∈ before, sp p.block = true) → DataW.TrodVars enc P W' sp s.vars (s.fn H (ds ++ gs)).vars pv)
    (hps : before = pa ++ pv) (hb : Below W.heap.size W W')
    (hok : ∀ (j : Nat) (t : TypeId) (r : Value), f.resultTypes[j]? = some t → (v.resultList f.resultTypes.size)[j]? = some r → Value.okWide P W' .any 0 t r) :
    s.post enc P f apart fresh handsOn again W args v W' := by
  have hlt : ∀ p ∈ before, p.block < W.heap.size := fun p hp => hW.lt p hp
  have hold : ∀ p ∈ before, (fun b => decide (b < W.heap.size)) p.block = true := fun p hp => by simpa using hlt p hp
  refine ⟨ds, gs, before, [], pa, pv, hW, hres _ _ _, hargs _ hold, hvars _ hold, World.keptBut_mono (fun p hp => ⟨hp, ?_⟩) (hb.frame (· ∈ before)), fun _ => ?_⟩
  · rw [hps, List.mem_append] at hp
    exact Or.inr hp
  · obtain ⟨_, _, _, _, _, hz, hn⟩ := hW
    refine ⟨hok, _, _, ([] ++ pa) ++ pv, ⟨[] ++ pa, pv, trodAll_append (hargs _ (fun _ _ => rfl)) (hres _ _ _), hvars _ (fun _ _ => rfl), rfl, ?_, ?_⟩, ?_⟩
    · intro b off hp
      have hin : MemPlace.cell b off ∈ before := by rw [hps]; simpa using hp
      rw [hb.frozen (hlt _ hin)]
      exact hz b off hin
    · intro ha
      have := hn ha
      rw [hps] at this
      simpa using this
    · intro p hp _
      rw [hps]
      simpa using hp
/-- An argument that is only read reads behind the call as it did. -/
theorem below_trod {t : TypeId} (hl : laidOutB P = true) (hr : P.readableRec t = true) (hrow : t < P.types.size) {W W' : World} {v : Value} {d : DataW H} {ps : List MemPlace}
    (h : DataW.Trod enc P W 0 (fun _ => true) true t v d ps) (hb : Below W.heap.size W W') (hlt : ∀ x ∈ ps, x.block < W.heap.size) {sp : Nat → Bool} (hsp : ∀ x ∈ ps, sp x.block = true) :
    DataW.Trod enc P W' 0 sp true t v d ps :=
  WideElems.Trod_stays hl hr hrow h (fun x hx => hb.same (hlt x hx)) hsp
end

/-- Memory that is only read: all that was there is as it was. -/
theorem below_of {m m' : LM} {H H' : List Blk} {w w' : World} (hro : allRo H = true) (h : Fr H.length m H w m' H' w') : Below w.heap.size w w' :=
  ⟨h.out.os, h.out.tape, h.out.output, h.size, fun k hk => (h.keep k hk fun ⟨i, b, _, h2, h3⟩ => by rw [allRo_get hro h2] at h3; cases h3).1⟩

def noLoc : LM := fun _ => none
theorem hrel_no (H : List Blk) (w : World) : HRel noLoc H w := ⟨fun i l h => (by cases h), fun i l b h => (by cases h), fun i h => (by cases h), fun i j r b h => (by cases h)⟩

/-- A slice of numbers that can be read, as an abstract row. -/
theorem ints_arg {W : World} {v : Value} (h : v = .slice none 0 0 ∨ ∃ (a : Addr) (len cap : Nat) (zs : List Int), v = .slice (some a) len cap ∧ len ≤ cap ∧ zs.length = cap ∧ ∀ i, i < zs.length → W.cell? (a.add i) = some (.int .i64 (zs.getD i 0))) :
    ∃ (xs : List Int) (m : LM), HRel m [ro xs] W ∧ VRel m (sv 0 xs.length) v := by
  rcases h with rfl | ⟨a, len, cap, zs, rfl, hlc, hz, hc⟩
  · exact ⟨[], noLoc, hrel_no _ _, .sliceZero _ _ _⟩
  · cases hcap : cap with
    | zero =>
      have : len = 0 := by omega
      subst this
      exact ⟨[], noLoc, hrel_no _ _, .sliceZero _ _ _⟩
    | succ k =>
      rw [← hcap]
      have h0 := hc 0 (by omega)
      have ea : a.add 0 = a := by simp [Addr.add]
      rw [ea] at h0
      unfold World.cell? at h0
      cases hb : W.heap[a.block]? with
      | none => rw [hb] at h0; cases h0
      | some o =>
        rw [hb] at h0
        cases o with
        | cells c e f =>
          simp only at h0
          have hs : a.spot = none := by
            cases hsp : a.spot with
            | none => rfl
            | some s => rw [hsp] at h0; cases h0
          obtain ⟨blk, off, spot⟩ := a
          simp only at hs hb
          subst hs
          have hcell : ∀ i, i < zs.length → c[off + i]? = some (.int .i64 (zs.getD i 0)) := fun i hi => by
            have := hc i hi
            rw [addr_add] at this
            simpa [World.cell?, hb] using this
          refine ⟨zs.take len, fun i => if i = 0 then some (.cel blk off 0 0) else none, ?_, ?_⟩
          · refine ⟨fun i l hl => ?_, fun i l b hl hd hb' => ?_, fun i hl => ?_, fun i j r b hl hb' hw => ?_⟩
            · split at hl
              · rename_i h; subst h; simp
              · cases hl
            · split at hl
              · rename_i h; subst h; cases hl
                simp at hb'; subst hb'
                refine ⟨c, e, f, hb, fun i x hx => ?_, .inl rfl, fun h => by cases h⟩
                rw [ints_get] at hx
                cases hy : (zs.take len)[i]? with
                | none => rw [hy] at hx; cases hx
                | some y =>
                  rw [hy] at hx; cases hx
                  have hlt : i < (zs.take len).length := (List.getElem?_eq_some_iff.1 hy).1
                  simp only [List.length_take] at hlt
                  rw [List.getElem?_take_of_lt (by omega)] at hy
                  exact ⟨_, hcell i (by omega), by rw [show zs.getD i 0 = y by simp [List.getD, hy]]; exact .int _ _⟩
              · cases hl
            · split at hl <;> cases hl
            · cases i with
              | zero => simp at hb'; subst hb'; cases hw
              | succ i => simp at hb'
          · have e1 : (zs.take len).length = len := by simp; omega
            rw [e1]
            have := VRel.slice (m := fun i => if i = 0 then some (.cel blk off 0 0) else none) 0 0 blk off 0 0 len len cap rfl hlc (.inl rfl)
            simpa using this
        | _ => cases h0

theorem i64_wf {n : Int} (h : (Lit.int .i64 n).wf = true) : I64 n := by
  simp [Lit.wf, IntKind.min, IntKind.max, IntKind.signed, IntKind.bits] at h
  unfold I64; omega
end Go.Af
namespace Go.Proofs.YtmnjcogpchodhaaGreat
open Go Go.Af Go.ChangeShapes Go.WideShapes Go.ChangeAt Go.RowKit Go.Joins

theorem Tryz.own : ownKnob Tryz.prog.godebug = none := by kernel_rfl

theorem isT {v : Value} (h : (match v with | .bool b => b | _ => false) = true) : v = .bool true := by
  split at h
  · rw [h]
  · cases h
theorem known_calls {argsR : Array Value} {w : World} (ha : LRel noLoc [] argsR.toList) : Calls Tryz.prog 13 argsR w fun e w' => ∃ vR, e = .returned vR ∧ AppOut noLoc [] w (fun v _ => v = .bool true) vR w' := by
  refine (run_calls (d := 99) Go.Af.Tryz.K.fok Go.Af.Tryz.K.eok Go.Af.Tryz.K.mx (by kernel_rfl) Go.Af.Tryz.K.known_run ha (hrel_no [] w)).mono fun e w' ⟨vR, he, v, H', m', h1, h2, h3, h4⟩ => ⟨vR, he, v, H', m', ?_, h2, h3, h4⟩
  exact isT h1

set_option maxRecDepth 100000 in
theorem collKnown_lifted (os : Os) (started : os.Started) (H : Type) (enc : TypeId × Value → H) :
    ReturnsInHanded {} Tryz.checked os 13 .any (Rows.collKnownSpec.pre6 enc Tryz.prog Tryz.f13 Rows.collKnownRow.domain false) (Rows.collKnownSpec.post enc Tryz.prog Tryz.f13 false true false false) := by
  refine returnsInHanded_of_change (C := Tryz.checked) Tryz.own started (by kernel_rfl) Tryz.func13
    (ChangeSpec.witness6 (enc := enc) (C := Tryz.checked) false ⟨#[], #[], []⟩ 8 (by kernel_rfl) (by kernel_rfl) (by kernel_rfl) (by kernel_rfl)) ?_
  intro W base args ds gs before hval0 hW hcnd _
  have hW' := hW
  obtain ⟨p, q, hA0, hV, rfl, hfz, hnd⟩ := hW
  have hA : DataW.TrodAll enc Tryz.prog W 0 (fun _ => true) true Tryz.f13.params.toList args.toList ds p := hA0
  rw [Tryz.params13] at hA
  obtain ⟨rfl, rfl, rfl⟩ := trodAll_none hA
  obtain ⟨rfl, rfl⟩ := trodVars_none hV
  refine (known_calls (.nil _)).mono fun e W' ⟨vR, he, v, H', m', hv1, hv2, _, hf⟩ => ?_
  subst he; subst hv1
  cases hv2
  have hb : Below W.heap.size W W' := below_of rfl hf
  exact ⟨_, rfl, post_below (pa := []) (pv := []) hW' (fun _ _ _ => trodAll_mk1 (shut_bool Tryz.underlying4 true))
    (fun sp hsp => trodAll_mk0) (fun _ _ => rfl) (by simp) hb (ok_one (by kernel_rfl) rfl (okWide_bool_mk Tryz.underlying4 true))⟩

set_option maxRecDepth 100000 in
theorem jInPlace : (Rows.collKnownRow.inPlace == Tryz.prog.inPlace 13) = true := by kernel_rfl
set_option maxRecDepth 100000 in
theorem jUnf : (Rows.collKnownRow.unfollowed == Tryz.prog.unfollowed 13) = true := by kernel_rfl
set_option maxRecDepth 100000 in
theorem jRec : (Rows.collKnownRow.recurses == Tryz.prog.recurses 13) = true := by kernel_rfl
set_option maxRecDepth 100000 in
theorem jNam : (Rows.collKnownRow.named == Tryz.prog.varsNamed 13) = true := by kernel_rfl
set_option maxRecDepth 100000 in
theorem jWf : Rows.collKnownRow.wf (OpenSpec.ofChange Rows.collKnownSpec) = true := by kernel_rfl
set_option maxRecDepth 100000 in
theorem jLaid : laidOutB Tryz.prog = true := by kernel_rfl
set_option maxRecDepth 100000 in
theorem jMaps : mapsRowed Tryz.prog = true := by kernel_rfl
set_option maxRecDepth 100000 in
theorem joined : joinedFacts Tryz.prog 13 Tryz.f13 Rows.collKnownSpec Rows.collKnownRow = true := by
  unfold joinedFacts
  rw [jInPlace, jUnf, jRec, jNam, jWf, jLaid, jMaps]
  kernel_rfl
set_option maxRecDepth 100000 in
theorem named : Tryz.pinned.checked.prog.funcNamed Rows.collKnownRow.func = some 13 := by kernel_rfl
set_option maxRecDepth 100000 in
theorem inst : Tryz.f13.isInstance Tryz.pinned.checked.prog Rows.collKnownRow.origin Rows.collKnownRow.targs := of_decide_eq_true (by kernel_rfl)
theorem collKnown_holds : Rows.CollKnownSaid :=
  OpenClaim.holds_of_wide 13 Tryz.f13 rfl rfl rfl rfl rfl rfl rfl ⟨rfl, rfl, rfl, rfl, rfl⟩ rfl rfl rfl rfl rfl named Tryz.func13 joined
    inst (by unfold Func.isWrapper; first | (rw [if_pos (by decide +kernel)]; kernel_rfl) | (rw [if_neg (by decide +kernel)]; exact ⟨rfl, rfl⟩))
    (fun os started H enc _ => collKnown_lifted os started H enc)
end Go.Proofs.YtmnjcogpchodhaaGreat
