/-
  Nobody waits for himself.
  The law NetCycles, as a call.
-/
import Derived.Test.YtjncbbdiejkalaaGreatMZ
import Derived.Test.YtjncbbdiejkalaaGreatMX
set_option linter.all false
namespace Go.Af.Tryz
open Go Go.Proofs
attribute [local irreducible] awp ACall ACallX AYield AInvoke newSlice isCells rdCells wrCells aAppend

abbrev bs (gs : List Bool) : List Value := gs.map Value.bool
theorem bs_get {gs : List Bool} {i : Nat} (h : i < gs.length) : (bs gs)[0 + i * 1]? = some (.bool gs[i]!) := by
  rw [Nat.zero_add, Nat.mul_one, List.getElem?_map, List.getElem?_eq_getElem h, getElem!_pos gs i h]; rfl
theorem bs_set {gs : List Bool} {i : Nat} {v : Bool} : setSeg (bs gs) (0 + i * 1) (cellsL (.bool v)) = bs (gs.set i v) := by
  rw [Nat.zero_add, Nat.mul_one]
  show (bs gs).set i (.bool v) = _
  simp [bs, List.map_set]

/-- How many are left. -/
def left : List Bool → Nat
  | [] => 0
  | g :: r => (if g then 0 else 1) + left r
theorem left_set : ∀ (gs : List Bool) (i : Nat), i < gs.length → gs[i]! = false → left (gs.set i true) + 1 = left gs
  | [], _, h, _ => by simp at h
  | g :: r, 0, _, h => by simp at h; subst h; simp [left]; omega
  | g :: r, i + 1, hi, h => by
    have := left_set r i (by simpa using hi) (by simpa using h)
    simp only [left, List.set_cons_succ]
    omega
/-- Someone who is left waits for someone who is left. -/
def Wts (es : List (List Int)) (gs : List Bool) (j : Nat) : Prop := gs[j]! = true ∨ ∃ k : Nat, (k : Int) ∈ es[j]! ∧ gs[k]! = false

theorem bound_of (rk : Int → Int → Int → Nat) : ∀ ns : List Tri, ∃ B, ∀ i, i < ns.length → rk ns[i]!.1 ns[i]!.2.1 ns[i]!.2.2 < B
  | [] => ⟨0, fun i hi => by simp at hi⟩
  | t :: r => by
    obtain ⟨B, hB⟩ := bound_of rk r
    refine ⟨B + rk t.1 t.2.1 t.2.2 + 1, fun i hi => ?_⟩
    cases i with
    | zero => simp; omega
    | succ i => have := hB i (by simpa using hi); simp at this ⊢; omega
theorem all_gone {rk : Int → Int → Int → Nat} {ns : List Tri} {es : List (List Int)} {gs : List Bool} (hg : Good rk ns es) (hl : es.length = ns.length) (h : ∀ j, j < ns.length → Wts es gs j) : ∀ j, j < ns.length → gs[j]! = true := by
  obtain ⟨B, hB⟩ := bound_of rk ns
  have key : ∀ m j, j < ns.length → B - rk ns[j]!.1 ns[j]!.2.1 ns[j]!.2.2 ≤ m → gs[j]! = true := by
    intro m
    induction m with
    | zero => intro j hj hm; have := hB j hj; omega
    | succ m ih =>
      intro j hj hm
      rcases h j hj with h1 | ⟨k, k1, k2⟩
      · exact h1
      · obtain ⟨k', e, k3, k4⟩ := hg j (by omega) _ k1
        have : k = k' := by omega
        subst this
        have := ih k k3 (by omega)
        rw [k2] at this; cases this
  exact fun j hj => key _ j hj (Nat.le_refl _)

theorem WAt.keep {H H' : List Blk} {b nb tb : Nat} {kf : Nat → Nat} {ns : List Tri} {es : List (List Int)} (hw : WAt H b nb tb kf ns es) {g : Nat} (hll : H.length ≤ H'.length) (ho : ∀ i, i < H.length → i ≠ g → bget H' i = bget H i) (hg : Out b nb tb kf es g) : WAt H' b nb tb kf ns es := by
  refine ⟨?_, fun h => ?_, fun h => ?_, fun i hi h0 => ?_, hw.bn, hw.bt, hw.br, hw.rr, hw.ln, by have := hw.nl; omega, by have := hw.tl; omega⟩
  · rw [ho b (bget_lt hw.w) (Ne.symm hg.1)]; exact hw.w
  · rw [ho nb (bget_lt (hw.n h)) (Ne.symm hg.2.1)]; exact hw.n h
  · rw [ho tb (bget_lt (hw.t h)) (Ne.symm hg.2.2.1)]; exact hw.t h
  · have := hw.r i hi h0
    rw [ho _ (bget_lt this) (hg.2.2.2 i hi h0)]; exact this

structure CS where
  H : List Blk
  gs : List Bool
  m : Bool
  i : Nat


set_option maxHeartbeats 8000000 in
theorem g21 {rk : Int → Int → Int → Nat} {H : List Blk} {b nb tb : Nat} {kf : Nat → Nat} {ns : List Tri} {es : List (List Int)} (hw : WAt H b nb tb kf ns es) (hg : Good rk ns es) (hn : ns.length ≤ 1000000) (he : ∀ i, i < es.length → es[i]!.length ≤ 1000000) {R : Value → List Blk → Prop} (h : ∀ H', R (.bool false) H') :
    ACall Tryz.prog 25 [.pointer (some ⟨b, 0, none⟩)] H R := by
  have hwb := hw.w
  have hln := hw.ln
  refine acall_vcg tok Tryz.call25 Tryz.func25 rfl Tryz.ntmps25 rfl (by simp) ?_
  refine And.intro (by decide) (isCells_of hwb ?_)
  refine rdCells_of hwb ?_
  refine ⟨_, rfl, ?_⟩
  refine ⟨by decide, ns.length, ns.length, ⟨rfl, rfl⟩, ⟨Nat.le_refl _, by simp only; omega⟩, bs (List.replicate ns.length false), by simp [zeroRep, bs, cellsL], ?_⟩
  refine new_of fun H1 a1 a2 a3 => ?_
  have og : Out b nb tb kf es H.length := ⟨by have := bget_lt hwb; omega, by have := hw.nl; omega, by have := hw.tl; omega, fun j hj h0 => by have := bget_lt (hw.r j hj h0); omega⟩
  have hw1 : WAt H1 b nb tb kf ns es := hw.keep (by omega) (fun i hi _ => a3 i hi) og
  clear a1 a3 hwb hw
  generalize H.length = g at a2 og ⊢
  have rows : ∀ (H' : List Blk), WAt H' b nb tb kf ns es → ∀ i, i < ns.length → bget H' b = some (.cells true 1 [slV nb ns.length, .slice (some ⟨tb, 0, none⟩) es.length es.length]) ∧ bget H' tb = some (.cells true 1 (rowVs kf es)) ∧ i < es.length := fun H' w i hi => by
    have := w.w
    rw [slV_pos (k := tb) (n := es.length) (by omega)] at this
    exact ⟨this, w.t (by omega), by omega⟩
  -- the rounds
  refine vcg_loopR (α := CS) tok (fun x => WAt x.H b nb tb kf ns es ∧ bget x.H g = some (.cells true 1 (bs x.gs)) ∧ x.gs.length = ns.length ∧ (x.m = false → ∀ j, j < ns.length → Wts es x.gs j))
    (fun | ⟨_, _, m, _⟩ => [(0, .pointer (some ⟨b, 0, none⟩)), (2, .bool false), (3, .slice (some ⟨g, 0, none⟩) ns.length ns.length), (4, .bool m)]) (fun | ⟨H', _, _, _⟩ => H') (fun x => 2 * left x.gs + (if x.m then 1 else 0))
    ⟨H1, List.replicate ns.length false, true, 0⟩ ⟨hw1, a2, by simp, fun h => by cases h⟩ (Or.inl ⟨⟨rfl, rfl, rfl, rfl, trivial⟩, rfl⟩) ?_
  rintro ⟨H2, gs, m, _⟩ ⟨hw2, hb2, hgl, hm⟩
  simp only at hw2 hb2 hgl hm
  refine And.intro (fun hc => ?_) (fun hc => ?_)
  · have hc : m = true := hc
    subst hc
    refine vcg_loopR (α := CS) tok (fun x => WAt x.H b nb tb kf ns es ∧ bget x.H g = some (.cells true 1 (bs x.gs)) ∧ x.gs.length = ns.length ∧ x.i ≤ ns.length ∧ (x.m = true → left x.gs < left gs) ∧ (x.m = false → x.gs = gs ∧ ∀ j, j < x.i → Wts es gs j))
      (fun | ⟨_, _, m, i⟩ => [(0, .pointer (some ⟨b, 0, none⟩)), (2, .bool false), (3, .slice (some ⟨g, 0, none⟩) ns.length ns.length), (4, .bool m), (5, .int .i64 (i : Int))]) (fun | ⟨H', _, _, _⟩ => H') (fun x => ns.length - x.i)
      ⟨H2, gs, false, 0⟩ ⟨hw2, hb2, hgl, Nat.zero_le _, (fun h => by cases h), fun _ => ⟨rfl, fun j hj => by simp at hj⟩⟩ (Or.inl ⟨⟨rfl, rfl, rfl, rfl, rfl, trivial⟩, rfl⟩) ?_
    clear hw2 hb2
    rintro ⟨H3, gs3, m3, i⟩ ⟨hw3, hb3, hgl3, hi, hm3, hm3'⟩
    simp only at hw3 hb3 hgl3 hi hm3 hm3'
    have hwb3 := hw3.w
    refine And.intro (by decide) (isCells_of hwb3 ?_)
    refine rdCells_of hwb3 ?_
    refine ⟨_, rfl, ?_⟩
    refine And.intro (fun hc => ?_) (fun hc => ?_)
    · have hlt : i < ns.length := by simpa using hc
      obtain ⟨w3, t3, hie⟩ := rows H3 hw3 i hlt
      refine isCells_of hb3 ⟨i, rfl, hlt, ?_⟩
      refine rdCells_of hb3 ?_
      refine ⟨_, bs_get (by omega), ?_⟩
      have nxt : ∀ (H4 : List Blk) (gs4 : List Bool) (m4 : Bool), WAt H4 b nb tb kf ns es → bget H4 g = some (.cells true 1 (bs gs4)) → gs4.length = ns.length → (m4 = true → left gs4 < left gs) → (m4 = false → gs4 = gs ∧ ∀ j, j < i + 1 → Wts es gs j) →
          ∃ x' : CS, (WAt x'.H b nb tb kf ns es ∧ bget x'.H g = some (.cells true 1 (bs x'.gs)) ∧ x'.gs.length = ns.length ∧ x'.i ≤ ns.length ∧ (x'.m = true → left x'.gs < left gs) ∧ (x'.m = false → x'.gs = gs ∧ ∀ j, j < x'.i → Wts es gs j)) ∧ x' = ⟨H4, gs4, m4, i + 1⟩ := fun H4 gs4 m4 p1 p2 p3 p4 p5 => ⟨⟨H4, gs4, m4, i + 1⟩, ⟨p1, p2, p3, hlt, p4, p5⟩, rfl⟩
      cases hgi : gs3[i]! with
      | true =>
        refine And.intro (fun _ => ?_) (fun h => absurd h (by decide))
        refine Or.inl ⟨((i + 1 : Nat) : Int), by simp, by unfold I64; omega, ?_⟩
        obtain ⟨x', hx, rfl⟩ := nxt H3 gs3 m3 hw3 hb3 hgl3 hm3 (fun h => ⟨(hm3' h).1, fun j hj => by
          by_cases e : j = i
          · subst e; left; rw [← (hm3' h).1]; exact hgi
          · exact (hm3' h).2 j (by omega)⟩)
        exact ⟨_, hx, by simp only; omega, Or.inl ⟨⟨rfl, rfl, rfl, rfl, rfl, trivial⟩, rfl⟩⟩
      | false =>
        refine And.intro (fun h => absurd h (by decide)) (fun _ => ?_)
        have hei := he i hie
        refine vcg_loopR (α := Nat × Bool) tok (fun | (k, wt) => k ≤ es[i]!.length ∧ (wt = true ↔ ∃ z : Nat, (z : Int) ∈ es[i]!.take k ∧ gs3[z]! = false))
          (fun | (k, wt) => [(0, .pointer (some ⟨b, 0, none⟩)), (2, .bool false), (3, .slice (some ⟨g, 0, none⟩) ns.length ns.length), (4, .bool m3), (5, .int .i64 (i : Int)), (6, .bool wt), (7, .int .i64 (k : Int))]) (fun _ => H3) (fun p => es[i]!.length - p.1)
          (0, false) ⟨Nat.zero_le _, by simp⟩ (Or.inl ⟨⟨rfl, rfl, rfl, rfl, rfl, rfl, rfl, trivial⟩, rfl⟩) ?_
        rintro ⟨k, wt⟩ ⟨hk, hwt⟩
        refine vops_gen (fun K0 hK0 => ?_)
        refine And.intro (by decide) (isCells_of w3 ?_)
        refine rdCells_of w3 ?_
        refine ⟨_, rfl, ?_⟩
        refine isCells_of t3 ⟨i, rfl, hie, ?_⟩
        refine rdCells_of t3 ?_
        refine ⟨_, (by rw [Nat.zero_add, Nat.mul_one]; exact rowVs_get hie), ?_⟩
        refine hK0 _ _ ?_
        clear hK0 K0
        refine And.intro (fun hc => ?_) (fun hc => ?_)
        · have hkl : k < es[i]!.length := by simpa using hc
          have hz0 : es[i]![k]? = some es[i]![k]! := by rw [getElem!_pos es[i]! k hkl]; exact List.getElem?_eq_getElem _
          obtain ⟨z, hz1, hz2, _⟩ := hg i hie es[i]![k]! (by rw [getElem!_pos es[i]! k hkl]; exact List.getElem_mem _)
          rw [hz1] at hz0
          have htk : es[i]!.take (k + 1) = es[i]!.take k ++ [(z : Int)] := by
            rw [List.take_succ_eq_append_getElem hkl, ← getElem!_pos es[i]! k hkl, hz1]
          refine vops_gen (fun K0 hK0 => ?_)
          cases wt with
          | true =>
            repeat (refine And.intro (fun h => absurd h (by decide)) (fun _ => ?_))
            refine hK0 _ _ ?_
            clear hK0 K0
            refine Or.inl ⟨((k + 1 : Nat) : Int), by simp, by unfold I64; omega, ?_⟩
            refine ⟨(k + 1, true), ⟨hkl, ?_⟩, by simp only; omega, Or.inl ⟨⟨rfl, rfl, rfl, rfl, rfl, rfl, rfl, trivial⟩, rfl⟩⟩
            obtain ⟨y, hy1, hy2⟩ := hwt.1 rfl
            exact ⟨fun _ => ⟨y, by rw [htk, List.mem_append]; exact .inl hy1, hy2⟩, fun _ => rfl⟩
          | false =>
            have hrow := hw3.r i hie (by omega)
            have hhd : (rowVs kf es)[0 + i * 1]? = some (.slice (some ⟨kf i, 0, none⟩) es[i]!.length es[i]!.length) := by
              rw [Nat.zero_add, Nat.mul_one, rowVs_get hie, slV_pos (by omega)]
            refine And.intro (fun _ => ?_) (fun h => absurd h (by decide))
            refine And.intro (fun _ => ?_) (fun h => absurd h (by decide))
            refine And.intro (fun _ => ?_) (fun h => absurd h (by decide))
            refine And.intro (fun _ => ?_) (fun h => absurd h (by decide))
            refine And.intro (by decide) (isCells_of w3 ?_)
            refine And.intro (fun _ => ?_) (fun h => absurd h (by decide))
            refine rdCells_of w3 ?_
            refine ⟨_, rfl, ?_⟩
            refine And.intro (fun _ => ?_) (fun h => absurd h (by decide))
            refine And.intro (fun _ => ?_) (fun h => absurd h (by decide))
            refine isCells_of t3 ⟨i, rfl, hie, ?_⟩
            refine And.intro (fun _ => ?_) (fun h => absurd h (by decide))
            refine rdCells_of t3 ?_
            refine ⟨_, hhd, ?_⟩
            refine And.intro (fun _ => ?_) (fun h => absurd h (by decide))
            refine And.intro (fun _ => ?_) (fun h => absurd h (by decide))
            refine isCells_of hrow ⟨k, rfl, hkl, ?_⟩
            refine And.intro (fun _ => ?_) (fun h => absurd h (by decide))
            refine rdCells_of hrow (Ld_ints k (z : Int) (by simp) hz0 ?_)
            refine And.intro (fun _ => ?_) (fun h => absurd h (by decide))
            refine isCells_of hb3 ⟨z, rfl, hz2, ?_⟩
            refine And.intro (fun _ => ?_) (fun h => absurd h (by decide))
            refine rdCells_of hb3 ?_
            refine ⟨_, bs_get (by omega), ?_⟩
            refine And.intro (fun _ => ?_) (fun h => absurd h (by decide))
            refine hK0 _ _ ?_
            clear hK0 K0
            refine Or.inl ⟨((k + 1 : Nat) : Int), by simp, by unfold I64; omega, ?_⟩
            refine ⟨(k + 1, !gs3[z]!), ⟨hkl, ?_⟩, by simp only; omega, Or.inl ⟨⟨rfl, rfl, rfl, rfl, rfl, rfl, rfl, trivial⟩, rfl⟩⟩
            constructor
            · intro h
              exact ⟨z, by rw [htk]; simp, by simpa using h⟩
            · rintro ⟨y, hy1, hy2⟩
              rw [htk, List.mem_append, List.mem_singleton] at hy1
              rcases hy1 with hy1 | hy1
              · exact absurd (hwt.2 ⟨y, hy1, hy2⟩) (by decide)
              · have : y = z := by omega
                subst this; simp [hy2]
        · have hkl : k = es[i]!.length := by have := of_decide_eq_false hc; omega
          subst hkl
          rw [List.take_length] at hwt
          cases wt with
          | true =>
            refine And.intro (fun h => absurd h (by decide)) (fun _ => ?_)
            refine Or.inl ⟨((i + 1 : Nat) : Int), by simp, by unfold I64; omega, ?_⟩
            obtain ⟨x', hx, rfl⟩ := nxt H3 gs3 m3 hw3 hb3 hgl3 hm3 (fun h => ⟨(hm3' h).1, fun j hj => by
              by_cases e : j = i
              · subst e
                obtain ⟨y, hy1, hy2⟩ := hwt.1 rfl
                right; exact ⟨y, hy1, by rw [← (hm3' h).1]; exact hy2⟩
              · exact (hm3' h).2 j (by omega)⟩)
            exact ⟨_, hx, by simp only; omega, Or.inl ⟨⟨rfl, rfl, rfl, rfl, rfl, trivial⟩, rfl⟩⟩
          | false =>
            refine And.intro (fun _ => ?_) (fun h => absurd h (by decide))
            refine isCells_of hb3 ⟨i, rfl, hlt, ?_⟩
            simp only [putK, vops, guardK, cstep, Nat.blt]
            refine store_of hb3 (bs (gs3.set i true)) rfl rfl (by simp; omega) bs_set ?_
            intro H4 d1 d2 d3
            refine Or.inl ⟨((i + 1 : Nat) : Int), by simp, by unfold I64; omega, ?_⟩
            have hls := left_set gs3 i (by omega) hgi
            obtain ⟨x', hx, rfl⟩ := nxt H4 (gs3.set i true) true (hw3.keep (by omega) (fun z _ hz => d3 z hz) og) d2 (by simp [hgl3]) (fun _ => by
              cases m3 with
              | true => have := hm3 rfl; omega
              | false => have := (hm3' rfl).1; subst this; omega) (fun h => by cases h)
            exact ⟨_, hx, by simp only; omega, Or.inl ⟨⟨rfl, rfl, rfl, rfl, rfl, trivial⟩, rfl⟩⟩
    · have hge : i = ns.length := by simp at hc; omega
      subst hge
      refine ⟨⟨H3, gs3, m3, 0⟩, ⟨hw3, hb3, hgl3, fun h => ?_⟩, ?_, Or.inl ⟨⟨rfl, rfl, rfl, rfl, trivial⟩, rfl⟩⟩
      · obtain ⟨e, h2⟩ := hm3' h
        subst e; exact h2
      · simp only
        cases m3 with
        | true => have := hm3 rfl; simp; omega
        | false => have := (hm3' rfl).1; subst this; simp
  · have hc : m = false := hc
    subst hc
    have hall := all_gone hg hln (hm rfl)
    refine vcg_loopR (α := Nat) tok (fun i => i ≤ ns.length) (fun i => [(3, .slice (some ⟨g, 0, none⟩) ns.length ns.length), (8, .int .i64 (i : Int))]) (fun _ => H2) (fun i => ns.length - i) 0 (Nat.zero_le _) (Or.inl ⟨⟨rfl, rfl, trivial⟩, rfl⟩) ?_
    intro i hi
    refine And.intro (fun hc => ?_) (fun hc => ?_)
    · have hlt : i < ns.length := by simpa using hc
      refine isCells_of hb2 ⟨i, rfl, hlt, ?_⟩
      refine rdCells_of hb2 ?_
      refine ⟨_, bs_get (by omega), ?_⟩
      rw [hall i hlt]
      refine And.intro (fun h => absurd h (by simp)) (fun _ => ?_)
      refine Or.inl ⟨((i + 1 : Nat) : Int), by simp, by unfold I64; omega, ?_⟩
      exact ⟨i + 1, hlt, by omega, Or.inl ⟨⟨rfl, rfl, trivial⟩, rfl⟩⟩
    · exact h H2
end Go.Af.Tryz
namespace Go.Af.Tryz
open Go Go.Proofs
attribute [local irreducible] awp ACall ACallX AYield AInvoke

/-- How many switches a network has that is not too great, and how many homes. -/
def szF (o : Option Sh) (most : Int) : Int × Int :=
  match o with
  | none => (0, 0)
  | some s => if s.sw ≤ most then (s.sw, s.hm) else (0, 0)
theorem l19 (kind hosts most : Int) (sides : List Int) : ACall Tryz.prog 15 [spV kind (sv 0 sides.length) hosts, .int .i64 most] [ro sides] (fun v H => v = .tuple ⟨[.int .i64 (szF (shapeF kind sides hosts) most).1, .int .i64 (szF (shapeF kind sides hosts) most).2]⟩ ∧ H = [ro sides]) := by
  refine acall_drop (acall_vcg tok Tryz.call15 Tryz.func15 rfl Tryz.ntmps15 rfl (by simp) ?_)
  (repeat (first | refine And.intro (fun _ => ?_) (fun h => absurd h (by decide)) | refine And.intro (fun h => absurd h (by decide)) (fun _ => ?_) | refine Exists.intro _ (And.intro rfl ?_) | refine And.intro (by decide) ?_ | refine And.intro (by omega) ?_ | refine Or.inl (Exists.intro _ (And.intro rfl (And.intro (by unfold I64; omega) ?_)))))
  (first | refine c22 rfl (Nat.le_refl _) ?_ | refine (c22 rfl (Nat.le_refl _) ?_).call)
  cases hs : shapeF kind sides hosts with
  | none =>
    simp only [szF]
    (repeat (first | refine And.intro (fun _ => ?_) (fun h => absurd h (by decide)) | refine And.intro (fun h => absurd h (by decide)) (fun _ => ?_) | refine Exists.intro _ (And.intro rfl ?_) | refine And.intro (by decide) ?_ | refine And.intro (by omega) ?_ | refine Or.inl (Exists.intro _ (And.intro rfl (And.intro (by unfold I64; omega) ?_))) | refine And.intro (show (_ : Nat) < _ from by simp) ?_ | refine And.intro (fun h => absurd h (by rw [decide_eq_true rfl]; decide)) (fun _ => ?_) | refine And.intro (fun _ => ?_) (fun h => absurd h (by rw [decide_eq_true rfl]; decide))))
    refine ⟨[(0, 0)], _, [ro (sides)], by simp, anch_of rfl, ⟨⟨_, rfl, BRen.ints _ _ _⟩, trivial⟩, rfl, VRen.plain rfl, rfl, rfl⟩
  | some s =>
    have hok := shapeF_ok hs
    have hh := shapeF_hosts hs
    have hbd := sw_bd hok
    simp only [szF]
    refine ⟨_, rfl, _, rfl, _, rfl, ?_⟩
    refine vops_gen (fun K0 hK0 => hK0 _ _ ?_)
    refine vops_gen (fun K0 hK0 => ?_)
    refine And.intro (fun _ => ?_) (fun h => absurd h (by decide))
    refine And.intro (fun _ => ?_) (fun h => absurd h (by decide))
    refine And.intro (fun _ => ?_) (fun h => by simp at h; omega)
    refine And.intro (fun _ => ?_) (fun h => absurd h (by decide))
    refine And.intro (fun _ => ?_) (fun h => absurd h (by decide))
    refine And.intro (fun h1 => ?_) (fun h1 => ?_)
    · have h1 : s.sw ≤ most := by simpa using h1
      refine And.intro (by decide) ?_
      refine And.intro (fun _ => ?_) (fun h => absurd h (by decide))
      refine ⟨_, rfl, ?_⟩
      refine And.intro (fun _ => ?_) (fun h => absurd h (by decide))
      refine hK0 _ _ ?_
      clear hK0 K0
      rw [if_pos h1]
      refine And.intro (fun h => by simp at h; omega) (fun _ => ?_)
      refine vcg_draw tok mx [0, 0, 0, 4, 14, 1, 63] [false, false, false, false, false, true, false] [0, 1, 2, 3, 4, 5, 6] (by kernel_rfl) ?_
      refine vopsO_gen (fun K0 hK0 => ?_)
      refine And.intro (by decide) ?_
      refine ⟨_, rfl, ?_⟩
      refine And.intro (by omega) ?_
      have hm := mulb (a := s.hm) (b := hosts) (A := 65536) (B := 8) (by omega) (by omega) (by omega) (by omega)
      refine Or.inl ⟨s.hm, Int.mul_tdiv_cancel _ (by omega), by unfold I64; omega, ?_⟩
      refine hK0 _ _ ?_
      clear hK0 K0
      refine ⟨[(0, 0)], _, [ro (sides)], by simp, anch_of rfl, ⟨⟨_, rfl, BRen.ints _ _ _⟩, trivial⟩, rfl, VRen.plain rfl, rfl, rfl⟩
    · have h1 : ¬ s.sw ≤ most := by simpa using h1
      refine And.intro (fun h => absurd h (by decide)) (fun _ => ?_)
      refine And.intro (fun h => absurd h (by decide)) (fun _ => ?_)
      refine hK0 _ _ ?_
      clear hK0 K0
      rw [if_neg h1]
      refine And.intro (fun _ => ?_) (fun h => absurd h (by decide))
      refine ⟨[(0, 0)], _, [ro (sides)], by simp, anch_of rfl, ⟨⟨_, rfl, BRen.ints _ _ _⟩, trivial⟩, rfl, VRen.plain rfl, rfl, rfl⟩
theorem c19 {H : List Blk} {R : Value → List Blk → Prop} {b c : Nat} {wr : Bool} {kind hosts most : Int} {sides : List Int} (hb : bget H b = some (.cells wr 1 (ints sides))) (hl : sides.length ≤ c) (h : R (.tuple ⟨[.int .i64 (szF (shapeF kind sides hosts) most).1, .int .i64 (szF (shapeF kind sides hosts) most).2]⟩) H) :
    ACallX Tryz.prog 15 [spV kind (.slice (some ⟨b, 0, none⟩) sides.length c) hosts, .int .i64 most] H R := acallx_sp rfl (l19 kind hosts most sides) hb hl rfl h
end Go.Af.Tryz
