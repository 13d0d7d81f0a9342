/-
  The search in breadth over links that a function allows, as a call.
  A damaged network: its blocks; whether it was made, whether numbers of switches are known, whether a link is alive.
  The part of a switch in a damaged network, as a call.
  Switches are taken down, links are cut: the calls.
  Detours, with no program in sight: how many links are left (first up, then down), and the path that is taken.
  Copies of rows; which way a channel goes, as the program's closures ask it.
-/
import Derived.Test.YtjncbbdiejkalaaGreatMD
set_option linter.all false
namespace Go.Af.Tryz
open Go Go.Proofs
attribute [local irreducible] awp ACall ACallX AYield AInvoke newSlice isCells rdCells wrCells aAppend rangeEnd roundBegin roundEnd


/-- Some of the known blocks, in whatever order; those at the end stay. -/
theorem HS.pickE {H0 H : List Blk} {o : Nat → Prop} {A A' E : List (Bool × Nat × Blk)} (h : HS H0 o (A ++ E) H) (is : List Nat) (hn : is.Nodup) (hL : is.map (fun i => A[i]?) = A'.map some) : HS H0 o (A' ++ E) H := by
  have key : ∀ {j : Nat} {p : Bool × Nat × Blk}, (A' ++ E)[j]? = some p → ∃ i, (A ++ E)[i]? = some p ∧ ((j < A'.length ∧ is[j]? = some i ∧ i < A.length) ∨ (A'.length ≤ j ∧ i = A.length + (j - A'.length))) := fun {j p} hj => by
    by_cases hlt : j < A'.length
    · rw [List.getElem?_append_left hlt] at hj
      have e := congrArg (fun l => l[j]?) hL
      simp only [List.getElem?_map, hj] at e
      cases hij : is[j]? with
      | none => rw [hij] at e; simp at e
      | some i =>
        rw [hij] at e
        have e : A[i]? = some p := by simpa using e
        have hi := (List.getElem?_eq_some_iff.1 e).1
        exact ⟨i, by rw [List.getElem?_append_left hi]; exact e, .inl ⟨hlt, rfl, hi⟩⟩
    · rw [List.getElem?_append_right (by omega)] at hj
      exact ⟨A.length + (j - A'.length), by rw [List.getElem?_append_right (by omega)]; simpa using hj, .inr ⟨by omega, rfl⟩⟩
  refine ⟨fun {i c b B} hi => ?_, fun {i j p q} hi hj he => ?_, h.u⟩
  · obtain ⟨k, hk, _⟩ := key hi
    exact h.g hk
  · obtain ⟨k, hk, ck⟩ := key hi
    obtain ⟨l, hl, cl⟩ := key hj
    have := h.nd hk hl he
    subst this
    rcases ck with ⟨c1, c2, c3⟩ | ⟨c1, c2⟩ <;> rcases cl with ⟨d1, d2, d3⟩ | ⟨d1, d2⟩
    · have hi' := (List.getElem?_eq_some_iff.1 c2)
      have hj' := (List.getElem?_eq_some_iff.1 d2)
      exact (List.getElem_inj hn).1 (hi'.2.trans hj'.2.symm)
    · omega
    · omega
    · omega
theorem hs_lowE {H0 H : List Blk} {o : Nat → Prop} {A S E : List (Bool × Nat × Blk)} (h : HS H0 o (A ++ S ++ E) H) : HS H0 o (A ++ S.map (fun p => (false, p.2)) ++ E) H := by
  have key : ∀ {i : Nat} {p : Bool × Nat × Blk}, (A ++ S.map (fun p => (false, p.2)) ++ E)[i]? = some p → ∃ c, (A ++ S ++ E)[i]? = some (c, p.2) ∧ (p.1 = true → c = true) := fun {i p} hi => by
    by_cases h2 : i < A.length + S.length
    · rw [List.getElem?_append_left (by simpa using h2)] at hi ⊢
      by_cases hlt : i < A.length
      · rw [List.getElem?_append_left hlt] at hi ⊢
        exact ⟨p.1, hi, fun h => h⟩
      · rw [List.getElem?_append_right (by omega)] at hi ⊢
        rw [List.getElem?_map] at hi
        cases hx : S[i - A.length]? with
        | none => rw [hx] at hi; cases hi
        | some x =>
          rw [hx] at hi; cases hi
          exact ⟨x.1, rfl, fun h => by cases h⟩
    · rw [List.getElem?_append_right (by simp; omega)] at hi ⊢
      refine ⟨p.1, ?_, fun h => h⟩
      simpa using hi
  refine ⟨fun {i c b B} hi => ?_, fun {i j p q} hi hj he => ?_, h.u⟩
  · obtain ⟨c', h1, h2⟩ := key hi
    have := h.g h1
    exact ⟨this.1, fun hc => this.2 (h2 hc)⟩
  · obtain ⟨c', h1, _⟩ := key hi
    obtain ⟨c'', h2, _⟩ := key hj
    exact h.nd h1 h2 he
abbrev fnW (g : FuncId) (fs cs : List Value) : Value := .func (.func g) ⟨fs⟩ ⟨cs⟩
/-- The neighbours to which the link is allowed. -/
def nrF (s : Sh) (al : Nat → Nat → Bool) (x : Nat) : List Int := (s.near x).filter (fun y => al x y.toNat)
/-- The blocks that a search knows. -/
abbrev srW (k bq dr xc bf dc b : Nat) (wr : Bool) (sides : List Int) (fv : Value) (Q D : List Int) (hd N : Nat) (x : Int) : List (Bool × Nat × Blk) :=
  [(true, k, rw' Q), (true, bq, quB (sv k Q.length) hd), (true, dr, rw' D), (true, xc, .cells true 1 [.int .i64 x]), (false, bf, .cells true 1 [fv]), (false, dc, .cells true 1 [sv dr N]), (false, b, .cells wr 1 (ints sides))]

set_option maxHeartbeats 4000000 in
theorem srch {H : List Blk} {R : Value → List Blk → Prop} {b src n g : Nat} {fs cs : List Value} {al : Nat → Nat → Bool} {E : List (Nat × Blk)} {wr : Bool} {kind : Int} {sides : List Int} {s : Sh} (hal : ∀ {H' : List Blk} {R : Value → List Blk → Prop} {x y : Nat}, x < n → y < n → (∀ p ∈ E, bget H' p.1 = some p.2) → R (.bool (al x y)) H' → ACall Tryz.prog g (fs ++ ([.int .i64 (x : Int), .int .i64 (y : Int)] ++ cs)) H' R) (hok : s.ok) (hof : s.of kind sides) (hn : s.sw = n) (hsrc : src < n) (hE : HS H none' ((false, b, .cells wr 1 (ints sides)) :: statL E) H)
    (h : ∀ H' k D, Dst (nrF s al) n src D → HS H none' [(true, k, rw' D)] H' → R (sv k n) H') : ACall Tryz.prog 42 [shV (sv b sides.length) s, .int .i64 src, fnW g fs cs] H R := by
  have hbd := sw_bd hok
  refine acall_vcg tok Tryz.call42 Tryz.func42 rfl Tryz.ntmps42 rfl (by simp) ?_
  refine new_hs hE (fun H1 bf e1 l1 hs1 => ?_)
  refine And.intro (by decide) ?_
  refine newS_hs hs1 (fun H2 j2 e2 l2 hs2 => ?_)
  (first | refine x_sw hok (at_of hof (hs2.get 2 rfl)) ?_ | refine (x_sw hok (at_of hof (hs2.get 2 rfl)) ?_).call)
  rw [hn]
  refine g87 (N := n) ⟨by omega, by omega⟩ (hs2.get 0 rfl) (fun H3 dr hs3 => ?_)
  have hs3 := hs2.call hs3 rfl
  refine new_hs hs3 (fun H4 dc e4 l4 hs4 => ?_)
  simp only [putK, vops, guardK, cstep, Nat.blt]
  refine store_hs hs4 0 rfl [sv dr n] rfl rfl (Nat.le_refl _) rfl (fun H5 l5 hs5 => ?_)
  refine rdCells_of (hs5.get 0 rfl) ?_
  refine ⟨_, rfl, ?_⟩
  refine isCells_of (hs5.get 1 rfl) ⟨src, rfl, by omega, ?_⟩
  simp only [putK, vops, guardK, cstep, Nat.blt]
  refine store_hs hs5 1 rfl (ints ((List.replicate n (-1)).set src 0)) rfl rfl (by simp; omega) (set_int _ _ _) (fun H6 l6 hs6 => ?_)
  refine new_hs hs6 (fun H7 bq e7 l7 hs7 => ?_)
  refine g88n (h := 0) hs7 (fun H8 k hs8 => ?_)
  refine g89 (h := 0) (xs := [(src : Int)]) (by simp) (by simp) hs8 (fun H9 hs9 => ?_)
  refine ⟨_, rfl, _, rfl, ?_⟩
  refine new_hs hs9 (fun H10 xc e10 l10 hs10 => ?_)
  simp only [putK, vops, guardK, cstep, Nat.blt]
  refine store_hs hs10 0 rfl [.int .i64 (src : Int)] rfl rfl (Nat.le_refl _) rfl (fun H11 l11 hs11 => ?_)
  have hs12 : HS H none' (srW k bq dr xc bf dc b wr sides (fnW g fs cs) [(src : Int)] ((List.replicate n (-1)).set src 0) 1 n src ++ statL E) H11 :=
    hs_lowE (A := [(true, k, _), (true, bq, _), (true, dr, _), (true, xc, _)]) (S := [(true, bf, _), (true, dc, _), (false, b, _)]) (E := statL E) (HS.pickE (A := [_, _, _, _, _, _, _, _]) (E := statL E) hs11 [2, 1, 4, 0, 6, 3, 7] (by decide) rfl)
  clear hs11 hs10 hs9 hs8 hs7 hs6 hs5 hs4 hs3 hs2 hs1 l11 l10 l7 l6 l5 l4 l2 l1 e10 e7 e4 e2 e1
  refine vcg_loopR (α := SrS) tok (fun z => HS H none' (srW z.k bq dr z.xc bf dc b wr sides (fnW g fs cs) z.Q z.D (hdF z.Q z.h) n (curF z.Q z.h) ++ statL E) z.H ∧ Bfs (nrF s al) n src z.D z.Q z.h)
    (fun z => [(0, shV (sv b sides.length) s), (5, pV bf), (7, pV dc), (8, pV bq), (9, pV z.xc), (10, .bool (decide (z.h < z.Q.length)))]) (fun z => z.H) (fun z => n - z.h)
    ⟨H11, k, xc, [(src : Int)], (List.replicate n (-1)).set src 0, 0⟩ ⟨hs12, Bfs.start hsrc⟩ (Or.inl ⟨⟨rfl, rfl, rfl, rfl, rfl, rfl, trivial⟩, rfl⟩) ?_
  clear hs12
  rintro ⟨H1, k, xc, Q, D, i⟩ ⟨hs1, bf1⟩
  simp only at hs1 bf1
  refine And.intro (fun hc => ?_) (fun hc => ?_)
  rotate_left
  · have hc : ¬ i < Q.length := by simpa using hc
    have hge := bf1.hle
    refine rdCells_of (hs1.get 5 rfl) ?_
    refine ⟨_, rfl, ?_⟩
    exact h _ dr D (bf1.done (by omega)) (hs1.pick [2] (by decide) rfl)
  have hlt : i < Q.length := by simpa using hc
  obtain ⟨x, hx, hxn, hx0⟩ := bf1.qget hlt
  have hql := bf1.qle
  rw [show hdF Q i = i + 1 from if_pos hlt, show curF Q i = x by rw [show curF Q i = Q[i]! from if_pos hlt, hx]] at hs1
  refine rdCells_of (hs1.get 3 rfl) ?_
  refine ⟨_, rfl, ?_⟩
  refine x_near hok (at_of hof (hs1.get 6 rfl)) ⟨by omega, by omega⟩ (fun fv H2 hf l2 he2 => ?_)
  have l2 : H2.length = H1.length + 2 := l2
  have hs2 := hs1.ext (by omega) he2
  obtain ⟨gn, first, cap, rfl, hnear⟩ := hf
  refine new_hs (HS.start H2 none') (fun H3 lr e3 l3 hs3' => ?_)
  generalize hL : Blk.loop LoopState.ready none _ _ _ _ _ = L at hs3'
  have hs3 := hs2.call hs3' rfl
  have he3 : ∀ i, i < H2.length → bget H3 i = bget H2 i := fun i hi => hs3'.u.2 i hi (fun x => x)
  have hnin := near_in hok (x := (x : Int)) ⟨by omega, by omega⟩
  have hs3L : HS H none' ([(true, lr, L), (true, k, rw' Q), (true, bq, quB (sv k Q.length) (i + 1)), (true, dr, rw' D)] ++ statL ([(xc, .cells true 1 [.int .i64 (x : Int)]), (bf, .cells true 1 [fnW g fs cs]), (dc, .cells true 1 [sv dr n]), (b, .cells wr 1 (ints sides))] ++ E)) H3 :=
    hs_lowE (A := [(true, lr, L), (true, k, rw' Q), (true, bq, quB (sv k Q.length) (i + 1)), (true, dr, rw' D)]) (S := [(true, xc, _), (false, bf, _), (false, dc, _), (false, b, _)]) (E := statL E) hs3
  have hR := roundsI_of (P := Tryz.prog) (l := lr) (Hs := H3) (o0 := fun j => j = lr ∨ j = k ∨ j = bq ∨ j = dr) (xs := s.near x) (Z := fun _ => False)
    ([(xc, .cells true 1 [.int .i64 (x : Int)]), (bf, .cells true 1 [fnW g fs cs]), (dc, .cells true 1 [sv dr n]), (b, .cells wr 1 (ints sides))] ++ E)
    (fun b' ⟨i', B, hi'⟩ => hs3L.lt (i' + 4) (c := false) (B := B) (by
      show (statL ([(xc, .cells true 1 [.int .i64 (x : Int)]), (bf, .cells true 1 [fnW g fs cs]), (dc, .cells true 1 [sv dr n]), (b, .cells wr 1 (ints sides))] ++ E))[i']? = _
      rw [List.getElem?_map, hi']; rfl))
    (fun p M => ∃ k' Q' D', M = [(lr, L), (k', rw' Q'), (bq, quB (sv k' Q'.length) (i + 1)), (dr, rw' D')] ∧ Bfs (nrF s al) n src D' Q' i ∧ i < Q'.length ∧ Q'[i]! = x ∧ ∀ y ∈ p, al x y.toNat = true → 0 ≤ D'[y.toNat]! ∧ D'[y.toNat]! ≤ D'[x]! + 1)
    (fun {p y H4 M o} hp hN hq ho hs4 => by
      obtain ⟨k', Q', D', rfl, bfs, hi', hqx, hpv⟩ := hq
      have hym : y ∈ s.near x := hp.subset (by simp)
      have hyr := hnin.1 y hym
      have hyr : 0 ≤ y ∧ y < n := by omega
      have hsee := fun (hal1 : al x y.toNat = true) => bfs.see hi' (y := y) (by rw [hqx, Int.toNat_natCast]; exact List.mem_filter.2 ⟨hym, hal1⟩) hyr
      have hb1 := bfs.bd i hi'
      have hb2 := bfs.qle
      have hbl := bfs.len
      obtain ⟨x', hx1, hx2, hx3⟩ := bfs.qget hi'
      have : x' = x := by omega
      subst this
      rw [hqx, Int.toNat_natCast] at hb1
      rw [hqx] at hsee
      obtain ⟨yn, rfl⟩ : ∃ yn : Nat, y = yn := ⟨y.toNat, by omega⟩
      rw [Int.toNat_natCast] at hsee
      have hyl : yn < D'.length := by omega
      have hxl : x' < D'.length := by omega
      subst hL
      have q0 := hs4.get 0 rfl
      refine round_of tok q0 ?_
      refine roundBegin_of q0 (fun H5 d1 d2 d3 => ?_)
      have hs5 := hs4.set 0 rfl d1 d2 d3
      refine vops_gen (fun K0 hK0 => ?_)
      refine rdCells_of (hs5.get 6 rfl) ?_
      refine ⟨_, rfl, ?_⟩
      refine isCells_of (hs5.get 3 rfl) ⟨yn, rfl, by omega, ?_⟩
      refine rdCells_of (hs5.get 3 rfl) (Ld_ints yn D'[yn]! (by simp) (by simp [hyl]) ?_)
      by_cases hd : D'[yn]! < 0
      · have hdt : decide (D'[yn]! < 0) = true := decide_eq_true hd
        have hse : seeF (x' : Int) (D', Q') (yn : Int) = (D'.set yn (D'[x']! + 1), Q' ++ [(yn : Int)]) := by unfold seeF; simp only [Int.toNat_natCast]; rw [if_pos hd]
        repeat refine And.intro (fun _ => ?_) (fun h => absurd h (by first | decide | (rw [hdt]; decide)))
        refine rdCells_of (hs5.get 5 rfl) ?_
        refine ⟨_, rfl, ?_⟩
        repeat refine And.intro (fun _ => ?_) (fun h => absurd h (by first | decide | (rw [hdt]; decide)))
        refine rdCells_of (hs5.get 4 rfl) ?_
        refine ⟨_, rfl, ?_⟩
        repeat refine And.intro (fun _ => ?_) (fun h => absurd h (by first | decide | (rw [hdt]; decide)))
        refine hal (x := x') (y := yn) hx2 (show yn < n by omega) (fun p hp => (HS.right (M := [_, _, _, _, _, _, _, _]) (L := statL E) hs5).mem (List.mem_map.2 ⟨p, hp, rfl⟩)) ?_
        repeat refine And.intro (fun _ => ?_) (fun h => absurd h (by first | decide | (rw [hdt]; decide)))
        refine hK0 _ _ ?_
        clear hK0 K0
        refine And.intro (fun hal1 => ?_) (fun hal1 => ?_)
        rotate_left
        · have hal1 : al x' yn = false := hal1
          refine roundEnd_go (hs5.get 0 rfl) (fun H8 t1 t2 t3 => ?_)
          have hs8 := hs5.set 0 rfl t1 t2 t3
          refine Or.inl ⟨rfl, _, ⟨k', _, _, rfl, bfs, hi', hqx, fun z hz => ?_⟩, ?_⟩
          rotate_left
          · exact hs8
          rcases List.mem_append.1 hz with hz | hz
          · exact hpv z hz
          · have hz : z = yn := by simpa using hz
            subst hz
            rw [Int.toNat_natCast, hal1]
            intro h; cases h
        have hal1 : al x' yn = true := hal1
        have hsee := hsee hal1
        rw [hse] at hsee
        obtain ⟨u1, u2, u3, u4, u5⟩ := hsee
        refine vcg_draw tok mx [0, 0, 0, 0, 12, 28, 60, 127, 255] [false, true, true, true, true, true, true, false, false] [0, 1, 2, 3, 4, 5, 6, 7, 8] (by kernel_rfl) ?_
        refine vopsO_gen (fun K0 hK0 => ?_)
        refine rdCells_of (hs5.get 6 rfl) ?_
        refine ⟨_, rfl, ?_⟩
        refine rdCells_of (hs5.get 6 rfl) ?_
        refine ⟨_, rfl, ?_⟩
        refine rdCells_of (hs5.get 4 rfl) ?_
        refine ⟨_, rfl, ?_⟩
        refine isCells_of (hs5.get 3 rfl) ⟨x', rfl, by omega, ?_⟩
        refine rdCells_of (hs5.get 3 rfl) (Ld_ints x' D'[x']! (by simp) (by simp [hxl]) ?_)
        refine Or.inl ⟨D'[x']! + 1, rfl, by unfold I64; omega, ?_⟩
        refine isCells_of (hs5.get 3 rfl) ⟨yn, rfl, by omega, ?_⟩
        simp only [putK, vopsO, opGet, stepQ, bAt, guardK, cstep, Nat.blt]
        refine store_hs hs5 3 rfl (ints (D'.set yn (D'[x']! + 1))) rfl rfl (by simp [hbl]; omega) (set_int _ _ _) (fun H6 l6 hs6 => ?_)
        refine hK0 _ _ ?_
        clear hK0 K0
        have hs6' := HS.pickE (A := [_, _, _, _, _, _, _, _]) (E := statL E) hs6 [2, 1, 0, 3, 4, 5, 6, 7] (by decide) (A' := [(true, bq, quB (sv k' Q'.length) (i + 1)), (true, k', rw' Q'), (true, lr, _), (true, dr, _), (false, xc, _), (false, bf, _), (false, dc, _), (false, b, _)]) rfl
        refine g88 (xs := Q') (by omega) hs6' (fun H7 k'' hs7 => ?_)
        refine roundEnd_go (hs7.get 2 rfl) (fun H8 t1 t2 t3 => ?_)
        have hs8 := hs7.set 2 rfl t1 t2 t3
        refine Or.inl ⟨rfl, _, ⟨k'', _, _, rfl, u1, Nat.lt_of_lt_of_le hi' u3, u2, fun z hz => ?_⟩, ?_⟩
        rotate_left
        · exact HS.pickE (A := [_, _, _, _, _, _, _, _]) (E := statL E) hs8 [2, 1, 0, 3, 4, 5, 6, 7] (by decide) (A' := [_, _, _, _, _, _, _, _]) rfl
        rcases List.mem_append.1 hz with hz | hz
        · intro ha1
          have h1 := hpv z hz ha1
          rw [u5 _ h1.1, u5 _ hx3]; exact h1
        · have hz : z = yn := by simpa using hz
          subst hz
          rw [Int.toNat_natCast] at u4
          rw [Int.toNat_natCast]; exact fun _ => u4
      · have hdt : decide (D'[yn]! < 0) = false := decide_eq_false hd
        rw [show seeF (x' : Int) (D', Q') (yn : Int) = (D', Q') by unfold seeF; simp only [Int.toNat_natCast]; rw [if_neg hd]] at hsee
        repeat refine And.intro (fun h => absurd h (by first | decide | (rw [hdt]; decide))) (fun _ => ?_)
        refine hK0 _ _ ?_
        clear hK0 K0
        refine And.intro (fun h => absurd h (by decide)) (fun _ => ?_)
        refine roundEnd_go (hs5.get 0 rfl) (fun H8 t1 t2 t3 => ?_)
        have hs8 := hs5.set 0 rfl t1 t2 t3
        refine Or.inl ⟨rfl, _, ⟨k', _, _, rfl, bfs, hi', hqx, fun z hz => ?_⟩, ?_⟩
        rotate_left
        · exact hs8
        rcases List.mem_append.1 hz with hz | hz
        · exact hpv z hz
        · have hz : z = yn := by simpa using hz
          subst hz
          intro ha1
          rw [Int.toNat_natCast] at ha1
          obtain ⟨u1, u2, u3, u4, u5⟩ := hsee ha1
          rw [Int.toNat_natCast] at u4
          rw [Int.toNat_natCast]; exact u4)
  have k1 := hs1.lt 0 rfl
  have k2 := hs1.lt 1 rfl
  have k3 := hs1.lt 2 rfl
  have k6 := hs1.lt 6 rfl
  have n0 := hs1.ne 6 0 rfl rfl (by decide)
  have n1 := hs1.ne 6 1 rfl rfl (by decide)
  have n2 := hs1.ne 6 2 rfl rfl (by decide)
  have hoo : ∀ j, (j = lr ∨ j = k ∨ j = bq ∨ j = dr) ↔ keyIn [(lr, L), (k, rw' Q), (bq, quB (sv k Q.length) (i + 1)), (dr, rw' D)] j := by
    intro j
    constructor
    · rintro (rfl | rfl | rfl | rfl)
      · exact ⟨0, _, rfl⟩
      · exact ⟨1, _, rfl⟩
      · exact ⟨2, _, rfl⟩
      · exact ⟨3, _, rfl⟩
    · rintro ⟨i', B, hi'⟩
      match i', hi' with
      | 0, hi' => simp at hi'; exact .inl hi'.1.symm
      | 1, hi' => simp at hi'; exact .inr (.inl hi'.1.symm)
      | 2, hi' => simp at hi'; exact .inr (.inr (.inl hi'.1.symm))
      | 3, hi' => simp at hi'; exact .inr (.inr (.inr hi'.1.symm))
      | i' + 4, hi' => simp at hi'
  refine hnear (o := fun j => j = lr ∨ j = k ∨ j = bq ∨ j = dr) ?_ hR.rounds ⟨[], rfl, [(lr, L), (k, rw' Q), (bq, quB (sv k Q.length) (i + 1)), (dr, rw' D)], ⟨k, Q, D, rfl, bf1, hlt, hx, fun y hy => by simp at hy⟩, ?_, ?_⟩ ?_ ?_
  · intro j hj
    have hj' : j < H2.length := by rcases hj with rfl | hj <;> omega
    refine ⟨?_, he3 j hj'⟩
    show ¬ (j = lr ∨ j = k ∨ j = bq ∨ j = dr)
    rcases hj with rfl | hj <;> omega
  · exact hoo
  · exact hs_refl (M := [(lr, L), (k, rw' Q), (bq, quB (sv k Q.length) (i + 1)), (dr, rw' D)]) (S := [(xc, .cells true 1 [.int .i64 (x : Int)]), (bf, .cells true 1 [fnW g fs cs]), (dc, .cells true 1 [sv dr n]), (b, .cells wr 1 (ints sides))] ++ E)
      hs3L hoo
  · rintro o' H5 ⟨ps, e, M, ⟨k', Q', D', rfl, bfs, hi', hqx, hpv⟩, ho, hs5⟩
    have e := ints_inj' e
    subst e
    have hs5 := hs3.comp hs5 (fun j hj => by
      rcases hj with rfl | rfl | rfl | rfl
      · exact (hs3.g (i := 0) rfl).2 rfl
      · exact (hs3.g (i := 1) rfl).2 rfl
      · exact (hs3.g (i := 2) rfl).2 rfl
      · exact (hs3.g (i := 3) rfl).2 rfl)
    subst hL
    refine rangeEnd_of (hs5.get 0 rfl) (by decide) (fun H7 r1 r2 => ?_)
    have hs7 := hs5.forget r1 r2
    clear hR hnear
    refine rdCells_of (hs7.get 3 rfl) ?_
    refine ⟨_, rfl, ?_⟩
    refine new_hs hs7 (fun H8 xc2 e8 l8 hs8 => ?_)
    simp only [putK, vops, guardK, cstep, Nat.blt]
    refine store_hs hs8 0 rfl [.int .i64 (x : Int)] rfl rfl (Nat.le_refl _) rfl (fun H9 l9 hs9 => ?_)
    have hs9' := HS.pickE (A := [_, _, _, _, _, _, _, _]) (E := statL E) hs9 [2, 1, 3, 0, 5, 6, 7] (by decide) (A' := [(true, bq, quB (sv k' Q'.length) (i + 1)), (true, k', rw' Q'), (true, dr, _), (true, xc2, _), (false, bf, _), (false, dc, _), (false, b, _)]) rfl
    have hql' := bfs.qle
    have bf2 := bfs.next hi' (fun y hy => by rw [hqx, Int.toNat_natCast] at hy ⊢; exact hpv y (List.mem_filter.1 hy).1 (List.mem_filter.1 hy).2)
    by_cases hnx : i + 1 < Q'.length
    · refine g89 hnx (by omega) hs9' (fun H10 hs10 => ?_)
      refine ⟨_, rfl, _, rfl, ?_⟩
      simp only [putK, vops, guardK, cstep, Nat.blt]
      refine store_hs hs10 3 rfl [.int .i64 Q'[i + 1]!] rfl rfl (Nat.le_refl _) rfl (fun H11 l11 hs11 => ?_)
      refine ⟨⟨H11, k', xc2, Q', D', i + 1⟩, ⟨?_, bf2⟩, by simp only; omega, Or.inl ⟨⟨rfl, rfl, rfl, rfl, rfl, ?_, trivial⟩, rfl⟩⟩
      · rw [show hdF Q' (i + 1) = i + 1 + 1 from if_pos hnx, show curF Q' (i + 1) = Q'[i + 1]! from if_pos hnx]
        exact HS.pickE (A := [_, _, _, _, _, _, _]) (E := statL E) hs11 [1, 0, 2, 3, 4, 5, 6] (by decide) (A' := [_, _, _, _, _, _, _]) rfl
      · show some (Value.bool true) = some (Value.bool (decide (i + 1 < Q'.length)))
        rw [decide_eq_true hnx]
    · refine g89n (by omega) hs9' ?_
      refine ⟨_, rfl, _, rfl, ?_⟩
      simp only [putK, vops, guardK, cstep, Nat.blt]
      refine store_hs hs9' 3 rfl [.int .i64 0] rfl rfl (Nat.le_refl _) rfl (fun H11 l11 hs11 => ?_)
      refine ⟨⟨H11, k', xc2, Q', D', i + 1⟩, ⟨?_, bf2⟩, by simp only; omega, Or.inl ⟨⟨rfl, rfl, rfl, rfl, rfl, ?_, trivial⟩, rfl⟩⟩
      · rw [show hdF Q' (i + 1) = i + 1 from if_neg hnx, show curF Q' (i + 1) = 0 from if_neg hnx]
        exact HS.pickE (A := [_, _, _, _, _, _, _]) (E := statL E) hs11 [1, 0, 2, 3, 4, 5, 6] (by decide) (A' := [_, _, _, _, _, _, _]) rfl
      · show some (Value.bool false) = some (Value.bool (decide (i + 1 < Q'.length)))
        rw [decide_eq_false hnx]
  · intro H' h; exact h.elim
end Go.Af.Tryz
namespace Go.Af.Tryz
open Go Go.Proofs
attribute [local irreducible] awp ACall ACallX AYield AInvoke newSlice isCells rdCells wrCells aAppend rangeEnd roundBegin roundEnd

theorem ht74 : Tryz.prog.underlying 74 = some (.struct (Tryz.prog.fieldsOf 74)) := by kernel_rfl
theorem hp74 : Tryz.prog.stoodInHeld 74 = false := by kernel_rfl
theorem ag74 : Tryz.prog.eqGuardType Tryz.prog.depth 74 = false := by kernel_rfl
theorem fl74 : (Tryz.prog.fieldsOf 74).toList.map (fun f => (f.name == "_", f.type, f.offset)) = [(false, 3, 0), (false, 3, 1)] := by kernel_rfl
theorem aggEq74 : AggEq Tryz.prog 74 [.i64, .i64] := by
  intro xs ys ha hb w
  obtain ⟨a0, a1, rfl⟩ : ∃ a0 a1, xs = [a0, a1] := by
    match xs, ha with
    | [a, b], _ => exact ⟨a, b, rfl⟩
  obtain ⟨b0, b1, rfl⟩ : ∃ a0 a1, ys = [a0, a1] := by
    match ys, hb with
    | [a, b], _ => exact ⟨a, b, rfl⟩
  refine ⟨?_, fun op x y => run_eqGuard_agg (P := Tryz.prog) w op 74 x y _ _ ag74⟩
  unfold Op.equal Op.maxDepth
  rw [run_equalIn_struct (P := Tryz.prog) w 9999 74 _ _ ht74 hp74]
  exact eqF2 (d := 9998) rfl rfl rfl rfl w _ fl74
theorem two_fields {fs : Array Field} (hfs : fs.toList.map (fun f => (f.name == "_", f.type, f.offset)) = [(false, 3, 0), (false, 3, 1)]) : ∃ f g, fs = #[f, g] ∧ (f.name ≠ "_" ∧ f.type = 3 ∧ f.offset = 0) ∧ (g.name ≠ "_" ∧ g.type = 3 ∧ g.offset = 1) := by
  obtain ⟨l⟩ := fs
  have hl := congrArg List.length hfs
  simp only [List.length_map, List.length_cons, List.length_nil] at hl
  obtain ⟨f, g, rfl⟩ : ∃ f g, l = [f, g] := by
    rcases l with _ | ⟨f, _ | ⟨g, _ | ⟨e, r⟩⟩⟩
    · simp at hl
    · simp at hl
    · exact ⟨f, g, rfl⟩
    · simp at hl
  simp only [List.map_cons, List.map_nil, List.cons.injEq, Prod.mk.injEq, and_true, beq_eq_false_iff_ne] at hfs
  exact ⟨f, g, rfl, hfs.1, hfs.2⟩
theorem ck3 (e : Bool) (d : Nat) (a : Int) (w : World) : (Instr.checkKey e (d + 1) 3 (.int .i64 a)).run Tryz.prog w = .ok () w := by
  rw [Instr.checkKey]; simp [run_und und3]
theorem mkey74 : MKey Tryz.prog 74 [.i64, .i64] := by
  refine ⟨aggEq74, fun xs hx e w => ?_⟩
  obtain ⟨a0, a1, rfl⟩ : ∃ a0 a1, xs = [a0, a1] := by
    match xs, hx with
    | [a, b], _ => exact ⟨a, b, rfl⟩
  obtain ⟨f, g, hfg, ⟨n0, t0, o0⟩, ⟨n1, t1, o1⟩⟩ := two_fields fl74
  rw [show (10000 : Nat) = 9998 + 1 + 1 from rfl, Instr.checkKey]
  have h0 : ∀ w, (part 3 #[Value.int .i64 a0, .int .i64 a1] 0).run Tryz.prog w = .ok (.int .i64 a0) w := fun w => part3 _ 0 _ rfl w
  have h1 : ∀ w, (part 3 #[Value.int .i64 a0, .int .i64 a1] 1).run Tryz.prog w = .ok (.int .i64 a1) w := fun w => part3 _ 1 _ rfl w
  simp [run_und ht74, hfg, n0, n1, t0, t1, o0, o1, h0, h1, ck3]

/-! ### Cut links -/
abbrev CutL := List ((Int × Int) × Nat)
def entF (e : (Int × Int) × Nat) : MapEntry := ⟨.agg ⟨[.int .i64 e.1.1, .int .i64 e.1.2]⟩, .bool true, e.2⟩
/-- The place of a link among those that are cut. -/
def cutI (cs : CutL) (a b : Int) : Option Nat := cs.findIdx? (fun e => decide (e.1 = (a, b)))
def cutF (cs : CutL) (a b : Int) : Bool := (cutI cs a b).isSome
theorem mfind_cut {T' : TT} {i : TI} {fs : List (Nat × TypeId)} (hT : tget T' 74 = some i) (hk : i.kind = .struct fs) (a b : Int) : ∀ (cs : CutL) (n : Nat) (K : Option Nat → Prop), K ((cutI cs a b).map (· + n)) → mfind Tryz.prog T' 74 (.agg ⟨[.int .i64 a, .int .i64 b]⟩) (cs.map entF) n K
  | [], n, K, h => h
  | ((x, y), t) :: cs, n, K, h => by
    simp only [List.map_cons, mfind, keq, hT, hk, entF]
    refine ⟨[.i64, .i64], mkey74, ?_⟩
    by_cases e : (x, y) = (a, b)
    · cases e
      have : cutI (((a, b), t) :: cs) a b = some 0 := by simp [cutI, List.findIdx?_cons]
      rw [this] at h
      simpa [intsOf, sameK] using h
    · have h1 : cutI (((x, y), t) :: cs) a b = (cutI cs a b).map (· + 1) := by
        simp only [cutI, List.findIdx?_cons, decide_eq_false e]
        rfl
      have h2 : decide ([a, b] = [x, y]) = false := by
        refine decide_eq_false (fun he => e ?_)
        simp at he
        rw [he.1, he.2]
      have := mfind_cut hT hk a b cs (n + 1) K (by
        rw [h1, Option.map_map] at h
        have e : (fun j : Nat => j + n) ∘ (fun j => j + 1) = fun j => j + (n + 1) := by funext j; simp only [Function.comp]; omega
        rw [e] at h
        exact h)
      simp only [intsOf, sameK, h2]
      exact this
theorem key_cut {T' : TT} {i : TI} {fs : List (Nat × TypeId)} (hT : tget T' 74 = some i) (hk : i.kind = .struct fs) (a b : Int) {K : Prop} (h : K) : keyK Tryz.prog T' 74 (.agg ⟨[.int .i64 a, .int .i64 b]⟩) K := by
  simp only [keyK, hT, hk]
  exact ⟨[.i64, .i64], mkey74, h⟩
theorem cutI_get {cs : CutL} {a b : Int} {p : Nat} (h : cutI cs a b = some p) : ∃ t, cs[p]? = some ((a, b), t) := by
  obtain ⟨h1, h2, _⟩ := List.findIdx?_eq_some_iff_getElem.1 h
  have h2 := of_decide_eq_true h2
  exact ⟨cs[p].2, by rw [List.getElem?_eq_getElem h1, ← h2]⟩
/-- A link is looked up. -/
theorem look_cut {H : List Blk} {mb ck : Nat} {wr : Bool} {cs : CutL} (hm : bget H mb = some (.map wr (cs.map entF) ck)) {a b : Int} {K : Value → Prop} (h : K (.bool (cutF cs a b))) :
    rdMap H mb (fun es => keyK Tryz.prog T 74 (.agg ⟨[.int .i64 a, .int .i64 b]⟩) (mfind Tryz.prog T 74 (.agg ⟨[.int .i64 a, .int .i64 b]⟩) es 0 (fun r => lkK false (.bool false) es r K))) := by
  refine rdMap_of hm (key_cut (i := ⟨.struct [(0, 3), (1, 3)], 2, 16, .agg #[.int .i64 0, .int .i64 0]⟩) rfl rfl a b (mfind_cut (i := ⟨.struct [(0, 3), (1, 3)], 2, 16, .agg #[.int .i64 0, .int .i64 0]⟩) rfl rfl a b cs 0 _ ?_))
  unfold cutF at h
  cases hc : cutI cs a b with
  | none => rw [hc] at h; exact h
  | some p =>
    rw [hc] at h
    obtain ⟨t, ht⟩ := cutI_get hc
    exact ⟨entF ((a, b), t), by simp [ht], h⟩

/-! ### Networks -/
structure Nt where
  kind : Int
  hosts : Int
  sides : List Int
  s : Sh
  ds : List Bool
  cs : CutL
  ck : Nat
  nb : Nat
  dn : Nat
  mb : Nat
  b : Nat
abbrev Nt.nB (t : Nt) : Blk := .cells true 1 [.int .i64 t.kind, sv t.b t.sides.length, .int .i64 t.hosts, shV (sv t.b t.sides.length) t.s, sv t.dn t.ds.length, .map (some t.mb)]
abbrev Nt.dB (t : Nt) : Blk := .cells true 1 (bls t.ds)
abbrev Nt.mB (t : Nt) : Blk := .map true (t.cs.map entF) t.ck
abbrev Nt.bB (t : Nt) : Blk := .cells true 1 (ints t.sides)
/-- What a network's links ask. -/
structure Nt.E (t : Nt) (H : List Blk) : Prop where
  n : bget H t.nb = some t.nB
  d : bget H t.dn = some t.dB
  m : bget H t.mb = some t.mB
structure Nt.Ok (t : Nt) : Prop where
  ok : t.s.ok
  of' : t.s.of t.kind t.sides
  sw : t.s.sw = t.ds.length
abbrev Nt.e (t : Nt) : List (Nat × Blk) := [(t.nb, t.nB), (t.dn, t.dB), (t.mb, t.mB)]
theorem Nt.E.of {t : Nt} {H : List Blk} (h : ∀ p ∈ t.e, bget H p.1 = some p.2) : t.E H := ⟨h (t.nb, t.nB) (by simp), h (t.dn, t.dB) (by simp), h (t.mb, t.mB) (by simp)⟩
/-- A link is alive. -/
def Nt.al (t : Nt) (x y : Nat) : Bool := !t.ds[x]! && !t.ds[y]! && !cutF t.cs (min (x : Int) y) (max (x : Int) y)


theorem n73 {H : List Blk} {R : Value → List Blk → Prop} {t : Nt} (hn : bget H t.nb = some t.nB) (h : R (.bool true) H) : ACall Tryz.prog 73 [pV t.nb] H R := by
  refine acall_vcg tok Tryz.call73 Tryz.func73 rfl Tryz.ntmps73 rfl (by simp) ?_
  refine vops_gen (fun K0 hK0 => hK0 _ _ ?_)
  refine vops_gen (fun K0 hK0 => ?_)
  repeat refine And.intro (fun _ => ?_) (fun h => absurd h (by first | decide | (rw [hdt]; decide)))
  refine And.intro (by decide) (isCells_of (hn) ?_)
  repeat refine And.intro (fun _ => ?_) (fun h => absurd h (by first | decide | (rw [hdt]; decide)))
  refine rdCells_of (hn) ?_
  refine ⟨_, rfl, ?_⟩
  repeat refine And.intro (fun _ => ?_) (fun h => absurd h (by first | decide | (rw [hdt]; decide)))
  refine hK0 _ _ ?_
  exact h

/-- What 'known' answers. -/
def knF (n : Nat) (l : List Int) : Int := if l.all (fun x => decide (0 ≤ x ∧ x < n)) then 0 else 3
theorem knF_ok {n : Nat} {l : List Int} (h : ∀ k, k < l.length → 0 ≤ l[k]! ∧ l[k]! < n) : knF n l = 0 := by
  unfold knF
  rw [if_pos]
  rw [List.all_eq_true]
  intro x hx
  obtain ⟨k, hk, rfl⟩ := List.getElem_of_mem hx
  have := h k hk
  rw [getElem!_pos l k hk] at this
  simpa using this
theorem knF_bad {n : Nat} {l : List Int} {k : Nat} (hk : k < l.length) (h : ¬ (0 ≤ l[k]! ∧ l[k]! < n)) : knF n l = 3 := by
  unfold knF
  rw [if_neg]
  intro ha
  have := List.all_eq_true.1 ha _ (mem_get! hk)
  exact h (of_decide_eq_true this)
theorem knF_one (n : Nat) (x : Int) : knF n [x] = if 0 ≤ x ∧ x < n then 0 else 3 := by simp [knF]
theorem knF_two (n : Nat) (x y : Int) : knF n [x, y] = if (0 ≤ x ∧ x < n) ∧ (0 ≤ y ∧ y < n) then 0 else 3 := by simp [knF]

theorem n54 {H : List Blk} {R : Value → List Blk → Prop} {t : Nt} {j : Nat} {wr : Bool} {l : List Int} (hn : bget H t.nb = some t.nB) (hj : bget H j = some (.cells wr 1 (ints l))) (hl : l.length ≤ 1000) (h : R (.int .i64 (knF t.ds.length l)) H) : ACall Tryz.prog 54 [pV t.nb, sv j l.length] H R := by
  refine acall_vcg tok Tryz.call54 Tryz.func54 rfl Tryz.ntmps54 rfl (by simp) ?_
  refine n73 hn ?_
  refine And.intro (fun h => absurd h (by decide)) (fun _ => ?_)
  refine vcg_loopR (α := Nat) tok (fun i => i ≤ l.length ∧ ∀ k, k < i → 0 ≤ l[k]! ∧ l[k]! < t.ds.length) (fun i => [(0, pV t.nb), (10, sv j l.length), (11, .int .i64 (l.length : Int)), (12, .int .i64 (i : Int))]) (fun _ => H) (fun i => l.length - i) 0 ⟨Nat.zero_le _, fun k hk => absurd hk (Nat.not_lt_zero k)⟩ (Or.inl ⟨⟨rfl, rfl, rfl, rfl, trivial⟩, rfl⟩) ?_
  rintro i ⟨hi, hk⟩
  refine And.intro (fun hc => ?_) (fun hc => ?_)
  · have hlt : i < l.length := by simpa using hc
    refine isCells_of hj ⟨i, rfl, hlt, ?_⟩
    refine rdCells_of hj (Ld_ints i l[i]! (by simp) (by simp [hlt]) ?_)
    by_cases h0 : l[i]! < 0
    · have hdt : decide (l[i]! < 0) = true := decide_eq_true h0
      refine vops_gen (fun K0 hK0 => hK0 _ _ ?_)
      refine vops_gen (fun K0 hK0 => ?_)
      repeat refine And.intro (fun h => absurd h (by first | decide | (rw [hdt]; decide))) (fun _ => ?_)
      refine hK0 _ _ ?_
      refine And.intro (fun _ => ?_) (fun h => absurd h (by first | decide | (rw [hdt]; decide)))
      rw [knF_bad hlt (by omega)] at h
      exact h
    · have hdt : decide (l[i]! < 0) = false := decide_eq_false h0
      refine vops_gen (fun K0 hK0 => hK0 _ _ ?_)
      refine vops_gen (fun K0 hK0 => ?_)
      repeat refine And.intro (fun _ => ?_) (fun h => absurd h (by first | decide | (rw [hdt]; decide)))
      refine And.intro (by decide) (isCells_of (hn) ?_)
      repeat refine And.intro (fun _ => ?_) (fun h => absurd h (by first | decide | (rw [hdt]; decide)))
      refine rdCells_of (hn) ?_
      refine ⟨_, rfl, ?_⟩
      repeat refine And.intro (fun _ => ?_) (fun h => absurd h (by first | decide | (rw [hdt]; decide)))
      refine hK0 _ _ ?_
      clear hK0 K0
      refine And.intro (fun hd => ?_) (fun hd => ?_)
      · have hd : (t.ds.length : Int) ≤ l[i]! := by simpa using hd
        rw [knF_bad hlt (by omega)] at h
        exact h
      · have hd : ¬ (t.ds.length : Int) ≤ l[i]! := by simpa using hd
        refine Or.inl ⟨((i + 1 : Nat) : Int), by simp, by unfold I64; omega, ?_⟩
        refine ⟨i + 1, ⟨hlt, fun k hk' => ?_⟩, by omega, Or.inl ⟨⟨rfl, rfl, rfl, rfl, trivial⟩, rfl⟩⟩
        by_cases e : k = i
        · subst e; omega
        · exact hk k (by omega)
  · have : i = l.length := by simp at hc; omega
    subst this
    rw [knF_ok hk] at h
    exact h

theorem n56 {H : List Blk} {R : Value → List Blk → Prop} {t : Nt} {x y : Nat} (hE : t.E H) (hx : x < t.ds.length) (hy : y < t.ds.length) (h : R (.bool (t.al x y)) H) : ACall Tryz.prog 56 [pV t.nb, .int .i64 (x : Int), .int .i64 (y : Int)] H R := by
  refine acall_vcg tok Tryz.call56 Tryz.func56 rfl Tryz.ntmps56 rfl (by simp) ?_
  refine vops_gen (fun K0 hK0 => hK0 _ _ ?_)
  refine vops_gen (fun K0 hK0 => ?_)
  refine And.intro (by decide) (isCells_of (hE.n) ?_)
  refine rdCells_of (hE.n) ?_
  refine ⟨_, rfl, ?_⟩
  refine isCells_of hE.d ⟨x, rfl, hx, ?_⟩
  refine rdCells_of (hE.d) ?_
  refine ⟨_, bls_get hx, ?_⟩
  unfold Nt.al at h
  cases hdx : t.ds[x]! with
  | true =>
    rw [hdx] at h
    repeat refine And.intro (fun h => absurd h (by decide)) (fun _ => ?_)
    refine hK0 _ _ ?_
    exact h
  | false =>
    rw [hdx] at h
    repeat refine And.intro (fun _ => ?_) (fun h => absurd h (by first | decide | (rw [hdt]; decide)))
    refine And.intro (by decide) (isCells_of (hE.n) ?_)
    repeat refine And.intro (fun _ => ?_) (fun h => absurd h (by first | decide | (rw [hdt]; decide)))
    refine rdCells_of (hE.n) ?_
    refine ⟨_, rfl, ?_⟩
    repeat refine And.intro (fun _ => ?_) (fun h => absurd h (by first | decide | (rw [hdt]; decide)))
    refine isCells_of hE.d ⟨y, rfl, hy, ?_⟩
    repeat refine And.intro (fun _ => ?_) (fun h => absurd h (by decide))
    refine rdCells_of (hE.d) ?_
    refine ⟨_, bls_get hy, ?_⟩
    cases hdy : t.ds[y]! with
    | true =>
      rw [hdy] at h
      refine And.intro (fun _ => ?_) (fun h => absurd h (by decide))
      repeat refine And.intro (fun h => absurd h (by decide)) (fun _ => ?_)
      refine hK0 _ _ ?_
      exact h
    | false =>
      rw [hdy] at h
      repeat refine And.intro (fun _ => ?_) (fun h => absurd h (by first | decide | (rw [hdt]; decide)))
      refine And.intro (by decide) (isCells_of (hE.n) ?_)
      repeat refine And.intro (fun _ => ?_) (fun h => absurd h (by first | decide | (rw [hdt]; decide)))
      refine rdCells_of (hE.n) ?_
      refine ⟨_, rfl, ?_⟩
      repeat refine And.intro (fun _ => ?_) (fun h => absurd h (by first | decide | (rw [hdt]; decide)))
      refine look_cut hE.m ?_
      repeat refine And.intro (fun _ => ?_) (fun h => absurd h (by decide))
      refine hK0 _ _ ?_
      exact h
end Go.Af.Tryz
namespace Go.Af.Tryz
open Go Go.Proofs
attribute [local irreducible] awp ACall ACallX AYield AInvoke newSlice isCells rdCells wrCells aAppend rangeEnd roundBegin roundEnd


/-- The places that were found. -/
def partL (D : List Int) (m : Nat) : List Int := ((List.range m).filter (fun y : Nat => decide (0 ≤ D[y]!))).map (fun y : Nat => (y : Int))
theorem partL_succ (D : List Int) (m : Nat) : partL D (m + 1) = partL D m ++ (if 0 ≤ D[m]! then [(m : Int)] else []) := by
  simp only [partL, List.range_succ, List.filter_append, List.map_append, List.filter_cons, List.filter_nil]
  by_cases h : 0 ≤ D[m]!
  · rw [if_pos h, decide_eq_true h]; rfl
  · rw [if_neg h, decide_eq_false h]; rfl
theorem partL_len (D : List Int) (m : Nat) : (partL D m).length ≤ m := by
  have := List.length_filter_le (fun y : Nat => decide (0 ≤ D[y]!)) (List.range m)
  simpa [partL] using this
theorem partL_mem {D : List Int} {m : Nat} {y : Int} : y ∈ partL D m ↔ (0 ≤ y ∧ y < m) ∧ 0 ≤ D[y.toNat]! := by
  simp only [partL, List.mem_map, List.mem_filter, List.mem_range]
  constructor
  · rintro ⟨k, ⟨h1, h2⟩, rfl⟩
    rw [Int.toNat_natCast]
    exact ⟨⟨by omega, by omega⟩, of_decide_eq_true h2⟩
  · rintro ⟨⟨h0, h1⟩, h2⟩
    exact ⟨y.toNat, ⟨by omega, decide_eq_true h2⟩, by omega⟩

/-- The neighbours over links that are alive. -/
abbrev Nt.nr (t : Nt) : Nat → List Int := nrF t.s t.al

structure PtS where
  H : List Blk
  k : Nat
  i : Nat
set_option maxHeartbeats 2000000 in
theorem g55 {H : List Blk} {R : Value → List Blk → Prop} {t : Nt} {x n : Nat} (ok : t.Ok) (hn : t.ds.length = n) (hx : x < n) (hE : HS H none' ((false, t.b, t.bB) :: statL t.e) H)
    (h : ∀ H' k D, Dst t.nr n x D → HS H none' [(true, k, rw' (partL D n))] H' → R (sv k (partL D n).length) H') : ACall Tryz.prog 55 [pV t.nb, .int .i64 (x : Int)] H R := by
  have hbd := sw_bd ok.ok
  have hsw := ok.sw
  refine acall_vcg tok Tryz.call55 Tryz.func55 rfl Tryz.ntmps55 rfl (by simp) ?_
  refine And.intro (by decide) (isCells_of (hE.get 1 rfl) ?_)
  refine rdCells_of (hE.get 1 rfl) ?_
  refine ⟨_, rfl, ?_⟩
  refine srch (g := 56) (fs := [pV t.nb]) (cs := []) (al := t.al) (E := t.e) (n := n) (fun {H' R x y} hx hy hp hr => n56 (Nt.E.of hp) (by omega) (by omega) hr) ok.ok ok.of' (by omega) hx hE (fun H2 dr D hd hs2 => ?_)
  have hlen := hd.len
  refine vcg_loopV (α := PtS) tok (fun z => HS H none' [(true, z.k, rw' (partL D z.i)), (true, dr, rw' D)] z.H ∧ z.i ≤ n)
    (fun | ⟨_, k, i⟩ => [(5, sv k (partL D i).length), (15, sv dr n), (16, .int .i64 (n : Int)), (17, .int .i64 (i : Int))]) (fun | ⟨H', _, _⟩ => H') (fun z => n - z.i)
    ⟨H2 ++ [rw' []], H2.length, 0⟩ ⟨hs2.virt _, Nat.zero_le _⟩ ⟨⟨_, rfl, WkV.nil _⟩, ⟨_, rfl, .rfl⟩, ⟨_, rfl, .rfl⟩, ⟨_, rfl, .rfl⟩, trivial⟩ (WkH.rfl.app _) ?_
  clear hs2
  rintro ⟨H1, k, i⟩ ⟨hs1, hi⟩
  simp only at hs1 hi
  have hpl := partL_len D i
  refine And.intro (fun hc => ?_) (fun hc => ?_)
  rotate_left
  · have : i = n := by simp at hc; omega
    subst this
    exact h _ _ D hd (hs1.pick [0] (by decide) rfl)
  have hlt : i < n := by simpa using hc
  refine isCells_of (hs1.get 1 rfl) ⟨i, rfl, hlt, ?_⟩
  refine rdCells_of (hs1.get 1 rfl) (Ld_ints i D[i]! (by simp) (by simp [show i < D.length by omega]) ?_)
  have hps := partL_succ D i
  refine And.intro (fun hg => ?_) (fun hg => ?_)
  · have hg : 0 ≤ D[i]! := by simpa using hg
    rw [if_pos hg] at hps
    refine And.intro (by decide) ?_
    refine newS_hs hs1 (fun H7 j7 e7 l7 hs7 => ?_)
    refine And.intro rfl ?_
    refine app_hs hs7 1 rfl (by decide) (hs7.get 0 rfl) rfl rfl (by simp) (by simp only; omega) (fun H8 k' e8 l8 hs8 => ?_)
    refine Or.inl ⟨((i + 1 : Nat) : Int), by simp, by unfold I64; omega, ?_⟩
    refine ⟨⟨H8, k', i + 1⟩, ⟨?_, hlt⟩, by simp only; omega, Or.inl ⟨⟨?_, rfl, rfl, rfl, trivial⟩, rfl⟩⟩
    · simp only [hps, rw', ints_append]
      exact hs8.tail
    · rw [hps]; simp [look]
  · have hg : ¬ 0 ≤ D[i]! := by simpa using hg
    rw [if_neg hg, List.append_nil] at hps
    refine Or.inl ⟨((i + 1 : Nat) : Int), by simp, by unfold I64; omega, ?_⟩
    exact ⟨⟨H1, k, i + 1⟩, ⟨by simp only [hps]; exact hs1, hlt⟩, by simp only; omega, Or.inl ⟨⟨by rw [hps]; rfl, rfl, rfl, rfl, trivial⟩, rfl⟩⟩

/-- Part: the switch is up. -/
theorem g19 {H : List Blk} {R : Value → List Blk → Prop} {t : Nt} {x n : Nat} (ok : t.Ok) (hn : t.ds.length = n) (hx : x < n) (hu : t.ds[x]! = false) (hE : HS H none' ((false, t.b, t.bB) :: statL t.e) H)
    (h : ∀ H' k D, Dst t.nr n x D → HS H none' [(true, k, rw' (partL D n))] H' → R (.tuple ⟨[sv k (partL D n).length, .int .i64 0]⟩) H') : ACall Tryz.prog 19 [pV t.nb, .int .i64 (x : Int)] H R := by
  refine acall_vcg tok Tryz.call19 Tryz.func19 rfl Tryz.ntmps19 rfl (by simp) ?_
  refine And.intro (by decide) ?_
  refine newS_hs hE (fun H2 j e2 l2 hs2 => ?_)
  refine n54 (l := [(x : Int)]) (hs2.get 2 rfl) (hs2.get 0 rfl) (by simp) ?_
  rw [hn, knF_one, if_pos ⟨by omega, by omega⟩]
  refine And.intro (fun h => absurd h (by decide)) (fun _ => ?_)
  refine And.intro (by decide) (isCells_of (hs2.get 2 rfl) ?_)
  refine rdCells_of (hs2.get 2 rfl) ?_
  refine ⟨_, rfl, ?_⟩
  refine isCells_of (hs2.get 3 rfl) ⟨x, rfl, by omega, ?_⟩
  refine rdCells_of (hs2.get 3 rfl) ?_
  refine ⟨_, bls_get (by omega), ?_⟩
  rw [hu]
  refine And.intro (fun h => absurd h (by decide)) (fun _ => ?_)
  refine g55 ok hn hx (HS.re (hs2.pick [1, 2, 3, 4] (by decide) (L' := (false, t.b, t.bB) :: statL t.e) rfl) none') (fun H3 k D hd hs3 => ?_)
  exact h _ k D hd ((hs2.call hs3 rfl).pick [0] (by decide) rfl)
/-- Part: the switch is down. -/
theorem g19d {H : List Blk} {R : Value → List Blk → Prop} {t : Nt} {x n : Nat} (hn : t.ds.length = n) (hx : x < n) (hu : t.ds[x]! = true) (hE : HS H none' ((false, t.b, t.bB) :: statL t.e) H)
    (h : ∀ H', HS H none' [] H' → R (.tuple ⟨[.slice none 0 0, .int .i64 6]⟩) H') : ACall Tryz.prog 19 [pV t.nb, .int .i64 (x : Int)] H R := by
  refine acall_vcg tok Tryz.call19 Tryz.func19 rfl Tryz.ntmps19 rfl (by simp) ?_
  refine And.intro (by decide) ?_
  refine newS_hs hE (fun H2 j e2 l2 hs2 => ?_)
  refine n54 (l := [(x : Int)]) (hs2.get 2 rfl) (hs2.get 0 rfl) (by simp) ?_
  rw [hn, knF_one, if_pos ⟨by omega, by omega⟩]
  refine And.intro (fun h => absurd h (by decide)) (fun _ => ?_)
  refine And.intro (by decide) (isCells_of (hs2.get 2 rfl) ?_)
  refine rdCells_of (hs2.get 2 rfl) ?_
  refine ⟨_, rfl, ?_⟩
  refine isCells_of (hs2.get 3 rfl) ⟨x, rfl, by omega, ?_⟩
  refine rdCells_of (hs2.get 3 rfl) ?_
  refine ⟨_, bls_get (by omega), ?_⟩
  rw [hu]
  refine And.intro (fun _ => ?_) (fun h => absurd h (by decide))
  exact h _ (hs2.pick [] (by decide) rfl)
end Go.Af.Tryz
namespace Go.Af.Tryz
open Go Go.Proofs
attribute [local irreducible] awp ACall ACallX AYield AInvoke newSlice isCells rdCells wrCells aAppend rangeEnd roundBegin roundEnd


theorem resK_agg {T' : TT} {sl : List (Nat × Value)} {H : List Blk} {a t b o z : Nat} {w : Bool} {vs : List Value} {r : List ResultVar} {K : List Value → Prop} {i : TI} (ht : tget T' t = some i) (ha : look sl a = some (.pointer (some ⟨b, o, none⟩))) (hb : bget H b = some (.cells w z vs)) (hk : i.kind.agg = true)
    (h : segK vs o i.size (fun seg => resK T' sl H r (fun us => K (.agg ⟨seg⟩ :: us)))) : resK T' sl H (.cell a t :: r) K := by
  simp only [resK, ht, ha, hb, hk]; exact h
theorem resK_one {T' : TT} {sl : List (Nat × Value)} {H : List Blk} {a t b o z : Nat} {w : Bool} {vs : List Value} {r : List ResultVar} {K : List Value → Prop} {i : TI} (ht : tget T' t = some i) (ha : look sl a = some (.pointer (some ⟨b, o, none⟩))) (hb : bget H b = some (.cells w z vs)) (hk : i.kind.agg = false)
    (h : Ld vs o (fun v => resK T' sl H r (fun us => K (v :: us)))) : resK T' sl H (.cell a t :: r) K := by
  simp only [resK, ht, ha, hb, hk]; exact h
theorem set_same {ds : List Bool} {x : Nat} {d : Bool} (hx : x < ds.length) (h : ds[x]! = d) : ds.set x d = ds := by
  rw [← h, getElem!_pos ds x hx]; exact List.set_getElem_self hx
theorem g52 {H0 H : List Blk} {o : Nat → Prop} {L : List (Bool × Nat × Blk)} {R : Value → List Blk → Prop} {t : Nt} {x : Nat} {d c : Bool} (hx : x < t.ds.length) (hs : HS H0 o ((true, t.dn, t.dB) :: (c, t.nb, t.nB) :: L) H)
    (h : ∀ H', HS H0 o ((true, t.dn, .cells true 1 (bls (t.ds.set x d))) :: (c, t.nb, t.nB) :: L) H' → R (.int .i64 (if t.ds[x]! = d then 6 else 0)) H') : ACall Tryz.prog 52 [pV t.nb, .int .i64 (x : Int), .bool d] H R := by
  refine acall_vcg tok Tryz.call52 Tryz.func52 rfl Tryz.ntmps52 rfl (by simp) ?_
  refine And.intro (by decide) ?_
  refine newS_hs hs (fun H2 j e2 l2 hs2 => ?_)
  refine n54 (l := [(x : Int)]) (hs2.get 2 rfl) (hs2.get 0 rfl) (by simp) ?_
  rw [knF_one, if_pos ⟨by omega, by omega⟩]
  refine And.intro (fun h => absurd h (by decide)) (fun _ => ?_)
  refine And.intro (by decide) (isCells_of (hs2.get 2 rfl) ?_)
  refine rdCells_of (hs2.get 2 rfl) ?_
  refine ⟨_, rfl, ?_⟩
  refine isCells_of (hs2.get 1 rfl) ⟨x, rfl, hx, ?_⟩
  refine rdCells_of (hs2.get 1 rfl) ?_
  refine ⟨_, bls_get hx, ?_⟩
  refine And.intro (fun hc => ?_) (fun hc => ?_)
  · have hc : t.ds[x]! = d := by simpa using hc
    have := h H2 (by rw [set_same hx hc]; exact hs2.tail)
    rw [if_pos hc] at this; exact this
  · have hc : ¬ t.ds[x]! = d := by simpa using hc
    refine vops_gen (fun K0 hK0 => ?_)
    refine And.intro (by decide) (isCells_of (hs2.get 2 rfl) ?_)
    refine rdCells_of (hs2.get 2 rfl) ?_
    refine ⟨_, rfl, ?_⟩
    refine isCells_of (hs2.get 1 rfl) ⟨x, rfl, hx, ?_⟩
    simp only [putK, vops, guardK, cstep, Nat.blt]
    refine store_hs hs2 1 rfl (bls (t.ds.set x d)) rfl rfl (by simp [bls]; omega) bls_set (fun H3 l3 hs3 => ?_)
    refine hK0 _ _ ?_
    have := h H3 hs3.tail
    rw [if_neg hc] at this; exact this
theorem g17 {H0 H : List Blk} {o : Nat → Prop} {L : List (Bool × Nat × Blk)} {R : Value → List Blk → Prop} {t : Nt} {x : Nat} {c : Bool} (hx : x < t.ds.length) (hs : HS H0 o ((true, t.dn, t.dB) :: (c, t.nb, t.nB) :: L) H)
    (h : ∀ H', HS H0 o ((true, t.dn, .cells true 1 (bls (t.ds.set x true))) :: (c, t.nb, t.nB) :: L) H' → R (.int .i64 (if t.ds[x]! = true then 6 else 0)) H') : ACall Tryz.prog 17 [pV t.nb, .int .i64 (x : Int)] H R := by
  refine acall_vcg tok Tryz.call17 Tryz.func17 rfl Tryz.ntmps17 rfl (by simp) ?_
  exact g52 hx hs h

/-- As roundsI_of; a round that ends all of them also knows what was before. -/
theorem roundsZ_of {P : Program} {l : Nat} {xs : List Int} {Z : List Blk → Prop} {Hs : List Blk} {o0 : Nat → Prop} (S : List (Nat × Blk)) (hS : ∀ b, keyIn S b → b < Hs.length) (Q : List Int → List (Nat × Blk) → Prop)
    (step : ∀ {p : List Int} {y : Int} {H : List Blk} {M : List (Nat × Blk)} {o : Nat → Prop}, p ++ [y] <+: xs → Hs.length ≤ H.length → Q p M → (∀ b, o b ↔ keyIn M b) → HS Hs o0 (ownL M ++ statL S) H → HS H o (ownL M ++ statL S) H →
      AYield P l [.int .i64 y] H (fun v H' => (v = .bool true ∧ ∃ M', Q (p ++ [y]) M' ∧ HS H o (ownL M' ++ statL S) H') ∨ (v = .bool false ∧ Z H'))) : RoundsI P l Hs.length xs (RI Q S Hs o0) Z where
  own := fun ⟨M, _, ho, h⟩ b hb => (hs_own h ((ho b).1 hb)).1
  keep := fun ⟨M, hq, ho, h⟩ hle hs => ⟨M, hq, ho, hs_keep hS h ho hle hs⟩
  step := fun hp hN ⟨M, hq, ho, h⟩ => (step hp hN hq ho h (hs_refl h ho)).mono fun v H' hv => by
    rcases hv with ⟨rfl, M', hq', h'⟩ | hz
    · exact .inl ⟨rfl, h'.u, fun b => keyIn M' b, ⟨M', hq', fun b => Iff.rfl, h.comp h' (fun b hb => (hs_own h ((ho b).1 hb)).2)⟩, fun b hb => (hs_own h' hb).2⟩
    · exact .inr hz

/-- What 'link' answers. -/
def lkV (s : Sh) (x y : Nat) : Value := if (y : Int) ∈ s.near x then .tuple ⟨[.agg ⟨[.int .i64 (min (x : Int) y), .int .i64 (max (x : Int) y)]⟩, .int .i64 0]⟩ else .tuple ⟨[.agg ⟨[.int .i64 0, .int .i64 0]⟩, .int .i64 4]⟩

set_option maxHeartbeats 4000000 in
theorem g53 {H : List Blk} {R : Value → List Blk → Prop} {t : Nt} {x y n : Nat} (ok : t.Ok) (hn : t.ds.length = n) (hx : x < n) (hy : y < n) (hE : HS H none' [(false, t.nb, t.nB), (false, t.b, t.bB)] H)
    (h : ∀ H', HS H none' [] H' → R (lkV t.s x y) H') : ACall Tryz.prog 53 [pV t.nb, .int .i64 (x : Int), .int .i64 (y : Int)] H R := by
  have hok := ok.ok
  have hof := ok.of'
  have hsw := ok.sw
  have hbd := sw_bd hok
  refine acall_vcg tok Tryz.call53 Tryz.func53 rfl Tryz.ntmps53 rfl (by simp) ?_
  refine new_hs hE (fun H1 xb e1 l1 hs1 => ?_)
  refine new_hs hs1 (fun H2 yb e2 l2 hs2 => ?_)
  refine new_hs hs2 (fun H3 lb e3 l3 hs3 => ?_)
  refine new_hs hs3 (fun H4 eb e4 l4 hs4 => ?_)
  refine rdCells_of (hs4.get 3 rfl) ?_
  refine ⟨_, rfl, ?_⟩
  refine rdCells_of (hs4.get 2 rfl) ?_
  refine ⟨_, rfl, ?_⟩
  refine And.intro (by decide) ?_
  refine newS_hs hs4 (fun H5 j e5 l5 hs5 => ?_)
  refine n54 (l := [(x : Int), (y : Int)]) (hs5.get 5 rfl) (hs5.get 0 rfl) (by simp) ?_
  rw [hn, knF_two, if_pos ⟨⟨by omega, by omega⟩, ⟨by omega, by omega⟩⟩]
  refine And.intro (fun h => absurd h (by decide)) (fun _ => ?_)
  refine vcg_draw tok mx [0, 1, 3, 7, 0, 31] [false, false, false, false, true, false] [0, 1, 2, 3, 4, 5] (by kernel_rfl) ?_
  refine vopsO_gen (fun K0 hK0 => ?_)
  refine And.intro (by decide) (isCells_of (hs5.get 5 rfl) ?_)
  refine rdCells_of (hs5.get 5 rfl) ?_
  refine ⟨_, rfl, ?_⟩
  refine rdCells_of (hs5.get 4 rfl) ?_
  refine ⟨_, rfl, ?_⟩
  refine x_near hok (at_of hof (hs5.get 6 rfl)) ⟨by omega, by omega⟩ (fun fv H6 hf l6 he6 => ?_)
  refine hK0 _ _ ?_
  clear hK0 K0
  have l6 : H6.length = H5.length + 2 := l6
  have hs6 := hs5.ext (by omega) he6
  obtain ⟨g, first, cap, rfl, hnear⟩ := hf
  refine new_hs (HS.start H6 none') (fun H7 lr e7 l7 hs7' => ?_)
  generalize hL : Blk.loop LoopState.ready none _ _ _ _ _ = L at hs7'
  have hs7 := hs6.call hs7' rfl
  have he7 : ∀ i, i < H6.length → bget H7 i = bget H6 i := fun i hi => hs7'.u.2 i hi (fun x => x)
  have hnin := near_in hok (x := (x : Int)) ⟨by omega, by omega⟩
  have hs8 := hs7.pick [0, 3, 2, 5, 4] (by decide) (L' := [(true, lr, L), (true, lb, .cells true 1 [.int .i64 0, .int .i64 0]), (true, eb, .cells true 1 [.int .i64 0]), (true, xb, .cells true 1 [.int .i64 (x : Int)]), (true, yb, .cells true 1 [.int .i64 (y : Int)])]) rfl
  have hs8 := hs_low (A := [(true, lr, L), (true, lb, .cells true 1 [.int .i64 0, .int .i64 0]), (true, eb, .cells true 1 [.int .i64 0])]) (S := [(true, xb, .cells true 1 [.int .i64 (x : Int)]), (true, yb, .cells true 1 [.int .i64 (y : Int)])]) hs8
  have hup := hs7.u
  have hR := roundsZ_of (P := Tryz.prog) (l := lr) (Hs := H7) (o0 := fun j => j = lr ∨ j = lb ∨ j = eb) (xs := t.s.near x) (Z := fun H' => (y : Int) ∈ t.s.near x ∧ ∃ nn sl ps asg body, HS H7 (fun j => j = lr ∨ j = lb ∨ j = eb) [(true, lr, .loop .done (some .ret) nn sl ps asg body), (true, lb, .cells true 1 [.int .i64 (min (x : Int) y), .int .i64 (max (x : Int) y)]), (true, eb, .cells true 1 [.int .i64 0])] H')
    [(xb, .cells true 1 [.int .i64 (x : Int)]), (yb, .cells true 1 [.int .i64 (y : Int)])]
    (fun b' ⟨i', B, hi'⟩ => by
      match i', hi' with
      | 0, hi' => simp at hi'; rw [← hi'.1]; exact hs8.lt 3 rfl
      | 1, hi' => simp at hi'; rw [← hi'.1]; exact hs8.lt 4 rfl
      | i' + 2, hi' => simp at hi')
    (fun p M => M = [(lr, L), (lb, .cells true 1 [.int .i64 0, .int .i64 0]), (eb, .cells true 1 [.int .i64 0])] ∧ (y : Int) ∉ p)
    (fun {p z H4 M o} hp hN hq ho hg4 hs4 => by
      obtain ⟨rfl, hnp⟩ := hq
      have hzm : z ∈ t.s.near x := hp.subset (by simp)
      subst hL
      have q0 := hs4.get 0 rfl
      refine round_of tok q0 ?_
      refine roundBegin_of q0 (fun H5 d1 d2 d3 => ?_)
      have hs5 := hs4.set 0 rfl d1 d2 d3
      refine rdCells_of (hs5.get 4 rfl) ?_
      refine ⟨_, rfl, ?_⟩
      refine And.intro (fun hc => ?_) (fun hc => ?_)
      · have hc : z = y := by simpa using hc
        subst hc
        refine vops_gen (fun K0 hK0 => ?_)
        refine rdCells_of (hs5.get 3 rfl) ?_
        refine ⟨_, rfl, ?_⟩
        refine rdCells_of (hs5.get 4 rfl) ?_
        refine ⟨_, rfl, ?_⟩
        refine rdCells_of (hs5.get 3 rfl) ?_
        refine ⟨_, rfl, ?_⟩
        refine rdCells_of (hs5.get 4 rfl) ?_
        refine ⟨_, rfl, ?_⟩
        simp only [putK, vops, guardK, cstep, Nat.blt]
        refine store_hs hs5 1 rfl [.int .i64 (min (x : Int) y), .int .i64 (max (x : Int) y)] rfl rfl (Nat.le_refl _) rfl (fun H6 l6 hs6 => ?_)
        simp only [putK, vops, guardK, cstep, Nat.blt]
        refine store_hs hs6 2 rfl [.int .i64 0] rfl rfl (Nat.le_refl _) rfl (fun H7 l7 hs7 => ?_)
        refine hK0 _ _ ?_
        clear hK0 K0
        refine roundEnd_ret (hs7.get 0 rfl) (fun H8 t1 t2 t3 => ?_)
        have hs8' := hs7.set 0 rfl t1 t2 t3
        exact Or.inr ⟨rfl, hzm, _, _, _, _, _, (hg4.comp hs8' (fun b hb => (hs_own hg4 ((ho b).1 hb)).2)).pick [0, 1, 2] (by decide) rfl⟩
      · have hc : ¬ z = y := by simpa using hc
        refine roundEnd_go (hs5.get 0 rfl) (fun H8 t1 t2 t3 => ?_)
        have hs8' := hs5.set 0 rfl t1 t2 t3
        refine Or.inl ⟨rfl, _, ⟨rfl, ?_⟩, hs8'⟩
        intro hm
        rcases List.mem_append.1 hm with hm | hm
        · exact hnp hm
        · simp at hm; omega)
  have k1 := hs5.lt 1 rfl
  have k2 := hs5.lt 2 rfl
  have k6 := hs5.lt 6 rfl
  have n1 := hs5.ne 6 1 rfl rfl (by decide)
  have n2 := hs5.ne 6 2 rfl rfl (by decide)
  have hoo : ∀ j, (j = lr ∨ j = lb ∨ j = eb) ↔ keyIn [(lr, L), (lb, .cells true 1 [.int .i64 0, .int .i64 0]), (eb, .cells true 1 [.int .i64 0])] j := by
    intro j
    constructor
    · rintro (rfl | rfl | rfl)
      · exact ⟨0, _, rfl⟩
      · exact ⟨1, _, rfl⟩
      · exact ⟨2, _, rfl⟩
    · rintro ⟨i', B, hi'⟩
      match i', hi' with
      | 0, hi' => simp at hi'; exact .inl hi'.1.symm
      | 1, hi' => simp at hi'; exact .inr (.inl hi'.1.symm)
      | 2, hi' => simp at hi'; exact .inr (.inr hi'.1.symm)
      | i' + 3, hi' => simp at hi'
  have hoc : ∀ j, (j = lr ∨ j = lb ∨ j = eb) → none' j ∨ H.length ≤ j := fun j hj => by
    rcases hj with rfl | rfl | rfl
    · exact (hs8.g (i := 0) rfl).2 rfl
    · exact (hs8.g (i := 1) rfl).2 rfl
    · exact (hs8.g (i := 2) rfl).2 rfl
  refine hnear (o := fun j => j = lr ∨ j = lb ∨ j = eb) ?_ hR.rounds ⟨[], rfl, [(lr, L), (lb, .cells true 1 [.int .i64 0, .int .i64 0]), (eb, .cells true 1 [.int .i64 0])], ⟨rfl, by simp⟩, hoo, hs_refl (M := [(lr, L), (lb, .cells true 1 [.int .i64 0, .int .i64 0]), (eb, .cells true 1 [.int .i64 0])]) (S := [(xb, .cells true 1 [.int .i64 (x : Int)]), (yb, .cells true 1 [.int .i64 (y : Int)])]) hs8 hoo⟩ ?_ ?_
  · intro j hj
    have hj' : j < H6.length := by rcases hj with rfl | hj <;> omega
    refine ⟨?_, he7 j hj'⟩
    show ¬ (j = lr ∨ j = lb ∨ j = eb)
    rcases hj with rfl | hj <;> omega
  · rintro o' H8 ⟨ps, e, M, ⟨rfl, hnp⟩, ho, hs9⟩
    have e := ints_inj' e
    subst e
    have hs9 := hs8.comp hs9 hoc
    subst hL
    refine rangeEnd_of (hs9.get 0 rfl) (by decide) (fun H9 r1 r2 => ?_)
    have hs10 := hs9.forget r1 r2
    clear hR hnear
    refine vops_gen (fun K0 hK0 => ?_)
    simp only [putK, vops, guardK, cstep, Nat.blt]
    refine store_hs hs10 0 rfl [.int .i64 0, .int .i64 0] rfl rfl (Nat.le_refl _) rfl (fun H11 l11 hs11 => ?_)
    simp only [putK, vops, guardK, cstep, Nat.blt]
    refine store_hs hs11 1 rfl [.int .i64 4] rfl rfl (Nat.le_refl _) rfl (fun H12 l12 hs12 => ?_)
    refine hK0 _ _ ?_
    have := h H12 (hs12.pick [] (by decide) rfl)
    rw [lkV, if_neg hnp] at this
    change resK T _ _ _ _
    refine resK_agg (by rfl) (by rfl) (hs12.get 0 rfl) (by rfl) ?_
    refine ⟨_, rfl, _, rfl, ?_⟩
    change resK T _ _ _ _
    refine resK_one (by rfl) (by rfl) (hs12.get 1 rfl) (by rfl) ?_
    refine ⟨_, rfl, ?_⟩
    exact this
  · rintro H8 ⟨hm, nn, sl, ps, asg, body, hs9⟩
    have hs9 := hs8.comp hs9 hoc
    subst hL
    refine rangeEnd_of (hs9.get 0 rfl) (by decide) (fun H9 r1 r2 => ?_)
    have hs10 := hs9.forget r1 r2
    clear hR hnear
    have := h H9 (hs10.pick [] (by decide) rfl)
    rw [lkV, if_pos hm] at this
    change resK T _ _ _ _
    refine resK_agg (by rfl) (by rfl) (hs10.get 0 rfl) (by rfl) ?_
    refine ⟨_, rfl, _, rfl, ?_⟩
    change resK T _ _ _ _
    refine resK_one (by rfl) (by rfl) (hs10.get 1 rfl) (by rfl) ?_
    refine ⟨_, rfl, ?_⟩
    exact this
end Go.Af.Tryz
namespace Go.Af.Tryz
open Go

/-- A channel from a to b goes up. -/
def upB (K : List Int) (a b : Nat) : Bool := decide (K[b]! < K[a]!) || (decide (K[b]! = K[a]!) && decide (b < a))
theorem upB_iff {K : List Int} {a b : Nat} : upB K a b = true ↔ K[b]! < K[a]! ∨ (K[b]! = K[a]! ∧ b < a) := by
  simp [upB]
/-- What a row weighs; -1 is as much as B. -/
def muF (B : Nat) : List Int → Nat
  | [] => 0
  | x :: r => (if x < 0 then B else x.toNat) + muF B r
theorem muF_set {B : Nat} : ∀ {l : List Int} {i : Nat} {v : Int}, i < l.length → 0 ≤ v → v < B → (l[i]! < 0 ∨ v < l[i]!) → muF B (l.set i v) < muF B l
  | x :: r, 0, v, _, h0, h1, h => by
    simp only [List.getElem!_cons_zero] at h
    simp only [List.set_cons_zero, muF]
    rw [if_neg (by omega)]
    split <;> omega
  | x :: r, i + 1, v, hi, h0, h1, h => by
    simp only [List.getElem!_cons_succ] at h
    have := muF_set (B := B) (l := r) (i := i) (v := v) (by simpa using hi) h0 h1 h
    simp only [List.set_cons_succ, muF]
    omega

section
variable {nr : Nat → List Int} {up : Nat → Nat → Bool} {n : Nat} {Kf : Nat → Int} {down out : List Int}
structure LfI (nr : Nat → List Int) (up : Nat → Nat → Bool) (n : Nat) (Kf : Nat → Int) (down out : List Int) : Prop where
  len : out.length = n
  back : ∀ a : Nat, a < n → 0 ≤ out[a]! → out[a]! = down[a]! ∨ ∃ b : Nat, b < n ∧ (b : Int) ∈ nr a ∧ up a b = true ∧ 0 ≤ out[b]! ∧ out[b]! + 1 ≤ out[a]!
  le : ∀ a : Nat, a < n → 0 ≤ down[a]! → 0 ≤ out[a]! ∧ out[a]! ≤ down[a]!
  hi : ∀ a : Nat, a < n → out[a]! ≤ Kf a + n
  lo : ∀ a : Nat, a < n → -1 ≤ out[a]!
theorem LfI.start (hl : down.length = n) (h0 : ∀ a : Nat, a < n → 0 ≤ Kf a) (h1 : ∀ a : Nat, a < n → down[a]! ≤ n) (h2 : ∀ a : Nat, a < n → -1 ≤ down[a]!) : LfI nr up n Kf down down :=
  ⟨hl, fun _ _ _ => .inl rfl, fun _ _ h => ⟨h, Int.le_refl _⟩, fun a ha => by have := h0 a ha; have := h1 a ha; omega, h2⟩
/-- One link is seen to be of use. -/
theorem LfI.step (l : LfI nr up n Kf down out) (hK : ∀ a b : Nat, a < n → b < n → up a b = true → Kf b < Kf a) {a b : Nat} (ha : a < n) (hb : b < n) (hm : (b : Int) ∈ nr a) (hu : up a b = true) (h0 : 0 ≤ out[b]!) (h : out[a]! < 0 ∨ out[b]! + 1 < out[a]!) :
    LfI nr up n Kf down (out.set a (out[b]! + 1)) := by
  have hl := l.len
  have hab : b ≠ a := fun e => by subst e; have := hK b b ha ha hu; omega
  have ga : (out.set a (out[b]! + 1))[a]! = out[b]! + 1 := set_at! (by omega)
  have gn : ∀ c : Nat, c ≠ a → (out.set a (out[b]! + 1))[c]! = out[c]! := fun c hc => set_ne! hc
  refine ⟨by simp [hl], fun c hc hc0 => ?_, fun c hc hd => ?_, fun c hc => ?_, fun c hc => ?_⟩
  · by_cases e : c = a
    · subst e
      rw [ga]
      exact .inr ⟨b, hb, hm, hu, by rw [gn b hab]; exact h0, by rw [gn b hab]; omega⟩
    · rw [gn c e] at hc0 ⊢
      rcases l.back c hc hc0 with h1 | ⟨d, h1, h2, h3, h4, h5⟩
      · exact .inl h1
      · refine .inr ⟨d, h1, h2, h3, ?_⟩
        by_cases e' : d = a
        · subst e'; rw [ga]; omega
        · rw [gn d e']; exact ⟨h4, h5⟩
  · have := l.le c hc hd
    by_cases e : c = a
    · subst e; rw [ga]; omega
    · rw [gn c e]; exact this
  · have := l.hi c hc
    by_cases e : c = a
    · subst e
      rw [ga]
      have := hK c b hc hb hu
      have := l.hi b hb
      omega
    · rw [gn c e]; exact this
  · have := l.lo c hc
    by_cases e : c = a
    · subst e; rw [ga]; omega
    · rw [gn c e]; exact this
/-- What 'left' has found. -/
structure Lft (nr : Nat → List Int) (up : Nat → Nat → Bool) (n : Nat) (down out : List Int) : Prop where
  len : out.length = n
  back : ∀ a : Nat, a < n → 0 ≤ out[a]! → out[a]! = down[a]! ∨ ∃ b : Nat, b < n ∧ (b : Int) ∈ nr a ∧ up a b = true ∧ 0 ≤ out[b]! ∧ out[a]! = out[b]! + 1
  fwd : ∀ a b : Nat, a < n → b < n → (b : Int) ∈ nr a → up a b = true → 0 ≤ out[b]! → 0 ≤ out[a]! ∧ out[a]! ≤ out[b]! + 1
  le : ∀ a : Nat, a < n → 0 ≤ down[a]! → 0 ≤ out[a]! ∧ out[a]! ≤ down[a]!
  lo : ∀ a : Nat, a < n → -1 ≤ out[a]!
theorem LfI.done (l : LfI nr up n Kf down out) (h : ∀ a b : Nat, a < n → b < n → (b : Int) ∈ nr a → up a b = true → 0 ≤ out[b]! → 0 ≤ out[a]! ∧ out[a]! ≤ out[b]! + 1) : Lft nr up n down out := by
  refine ⟨l.len, fun a ha h0 => ?_, h, l.le, l.lo⟩
  rcases l.back a ha h0 with h1 | ⟨b, h1, h2, h3, h4, h5⟩
  · exact .inl h1
  · exact .inr ⟨b, h1, h2, h3, h4, by have := h a b ha h1 h2 h3 h4; omega⟩

/-! ### The path -/
/-- A neighbour is the next place. -/
def nxB (nr : Nat → List Int) (up : Nat → Nat → Bool) (down both : List Int) (at' : Nat) (r : Bool) (left : Int) (b : Int) : Bool :=
  decide (b ∈ nr at') && ((up at' b.toNat && r && decide (both[b.toNat]! = left - 1)) || (!up at' b.toNat && decide (0 ≤ down[b.toNat]!) && decide (down[b.toNat]! = left - 1)))
/-- The rest of a path with m links. -/
def detF (near nr : Nat → List Int) (up : Nat → Nat → Bool) (down both : List Int) : Nat → Nat → Bool → List Int
  | 0, _, _ => []
  | m + 1, at', r => match (near at').find? (nxB nr up down both at' r (m + 1 : Nat)) with
    | none => []
    | some b => b :: detF near nr up down both m b.toNat (up at' b.toNat)
/-- Where a path may be with m links left. -/
def DetI (down both : List Int) (n : Nat) (at' : Nat) (r : Bool) (m : Nat) : Prop := at' < n ∧ (if r then both[at']! else down[at']!) = m
variable {near nrd : Nat → List Int} {both : List Int} {y : Nat}
theorem det_zero (d : Dst nrd n y down) (l : Lft nr up n down both) {at' m : Nat} {r : Bool} (h : DetI down both n at' r m) : at' = y ↔ m = 0 := by
  obtain ⟨h1, h2⟩ := h
  constructor
  · rintro rfl
    have h3 := d.s0
    have h4 := l.le at' h1 (by omega)
    cases r with
    | false =>
      have h2 : down[at']! = (m : Int) := h2
      omega
    | true =>
      have h2 : both[at']! = (m : Int) := h2
      omega
  · rintro rfl
    have key : down[at']! = 0 := by
      cases r with
      | false => exact h2
      | true =>
        have h2 : both[at']! = 0 := h2
        rcases l.back at' h1 (by omega) with h3 | ⟨b, _, _, _, h4, h5⟩
        · omega
        · omega
    rcases d.back at' h1 (by omega) with h3 | ⟨w, _, _, _, _⟩
    · exact h3
    · omega
/-- There is a next place. -/
theorem det_step (d : Dst nrd n y down) (l : Lft nr up n down both) (hnr : ∀ a b : Nat, a < n → (b : Int) ∈ nr a → (b : Int) ∈ near a) (hin : ∀ a : Nat, a < n → ∀ b ∈ near a, 0 ≤ b ∧ b < n)
    (hrd : ∀ a b : Nat, a < n → b < n → (a : Int) ∈ nrd b → (b : Int) ∈ nr a ∧ up a b = false) {at' m : Nat} {r : Bool} (h : DetI down both n at' r (m + 1)) :
    ∃ b : Nat, (near at').find? (nxB nr up down both at' r (m + 1 : Nat)) = some (b : Int) ∧ b < n ∧ (b : Int) ∈ nr at' ∧ (up at' b = true → r = true) ∧ DetI down both n b (up at' b) m := by
  obtain ⟨h1, h2⟩ := h
  have ex : ∃ b : Nat, b < n ∧ (b : Int) ∈ near at' ∧ nxB nr up down both at' r (m + 1 : Nat) (b : Int) = true := by
    have dn : down[at']! = (m + 1 : Nat) → ∃ b : Nat, b < n ∧ (b : Int) ∈ near at' ∧ nxB nr up down both at' r (m + 1 : Nat) (b : Int) = true := fun hd => by
      rcases d.back at' h1 (by omega) with h3 | ⟨w, hw1, hw2, hw3, hw4⟩
      · have := d.s0; rw [← h3] at this; omega
      · obtain ⟨k1, k2⟩ := hrd at' w h1 hw1 hw2
        refine ⟨w, hw1, hnr at' w h1 k1, ?_⟩
        simp only [nxB, Int.toNat_natCast, k1, k2, decide_true, Bool.false_and, Bool.false_or, Bool.not_false, Bool.true_and, Bool.and_eq_true, decide_eq_true_eq]
        omega
    cases r with
    | false => exact dn h2
    | true =>
      have h2 : both[at']! = (m + 1 : Nat) := h2
      rcases l.back at' h1 (by omega) with h3 | ⟨b, hb1, hb2, hb3, hb4, hb5⟩
      · exact dn (by omega)
      · refine ⟨b, hb1, hnr at' b h1 hb2, ?_⟩
        simp only [nxB, Int.toNat_natCast, hb2, hb3, decide_true, Bool.true_and, Bool.not_true, Bool.false_and, Bool.or_false, decide_eq_true_eq]
        omega
  obtain ⟨b0, hb0, hb1, hb2⟩ := ex
  cases hf : (near at').find? (nxB nr up down both at' r (m + 1 : Nat)) with
  | none =>
    rw [List.find?_eq_none] at hf
    exact absurd hb2 (by simpa using hf _ hb1)
  | some b =>
    have hp := List.find?_some hf
    have hm := List.mem_of_find?_eq_some hf
    have hr := hin at' h1 b hm
    obtain ⟨b, rfl⟩ : ∃ k : Nat, b = k := ⟨b.toNat, by omega⟩
    simp only [nxB, Int.toNat_natCast, Bool.and_eq_true, decide_eq_true_eq, Bool.or_eq_true, Bool.not_eq_true'] at hp
    obtain ⟨p1, p2⟩ := hp
    refine ⟨b, rfl, by omega, p1, ?_, by omega, ?_⟩
    · intro hu
      rcases p2 with ⟨⟨_, q⟩, _⟩ | ⟨⟨q, _⟩, _⟩
      · exact q
      · rw [hu] at q; cases q
    · rcases p2 with ⟨⟨q1, q2⟩, q3⟩ | ⟨⟨q1, q2⟩, q3⟩
      · rw [q1]; show both[b]! = (m : Int); omega
      · rw [q1]; show down[b]! = (m : Int); omega
/-- First up, then down. -/
def Lawf (up : Nat → Nat → Bool) : Bool → List Int → Prop
  | r, a :: b :: l => if up a.toNat b.toNat then r = true ∧ Lawf up true (b :: l) else Lawf up false (b :: l)
  | _, _ => True
/-- Each place is linked with the next one. -/
def Chain (nr : Nat → List Int) : List Int → Prop
  | a :: b :: l => b ∈ nr a.toNat ∧ Chain nr (b :: l)
  | _ => True
theorem det_ok (d : Dst nrd n y down) (l : Lft nr up n down both) (hnr : ∀ a b : Nat, a < n → (b : Int) ∈ nr a → (b : Int) ∈ near a) (hin : ∀ a : Nat, a < n → ∀ b ∈ near a, 0 ≤ b ∧ b < n)
    (hrd : ∀ a b : Nat, a < n → b < n → (a : Int) ∈ nrd b → (b : Int) ∈ nr a ∧ up a b = false) : ∀ {m at' : Nat} {r : Bool} (_ : DetI down both n at' r m),
    (detF near nr up down both m at' r).length = m ∧ (∀ z ∈ detF near nr up down both m at' r, 0 ≤ z ∧ z < n) ∧ Chain nr ((at' : Int) :: detF near nr up down both m at' r) ∧ Lawf up r ((at' : Int) :: detF near nr up down both m at' r) ∧ ((at' : Int) :: detF near nr up down both m at' r)[m]! = y
  | 0, at', r, h => by
    have := (det_zero d l h).2 rfl
    subst this
    exact ⟨rfl, fun z hz => by simp [detF] at hz, trivial, trivial, rfl⟩
  | m + 1, at', r, h => by
    obtain ⟨b, h1, h2, h3, h4, h5⟩ := det_step d l hnr hin hrd h
    obtain ⟨k1, k2, k3, k4, k5⟩ := det_ok d l hnr hin hrd h5
    have e : detF near nr up down both (m + 1) at' r = (b : Int) :: detF near nr up down both m b (up at' b) := by
      simp only [detF, h1, Int.toNat_natCast]
    rw [e]
    refine ⟨by simp [k1], fun z hz => ?_, ⟨by rw [Int.toNat_natCast]; exact h3, k3⟩, ?_, by simpa using k5⟩
    · rcases List.mem_cons.1 hz with rfl | hz
      · omega
      · exact k2 z hz
    · simp only [Lawf, Int.toNat_natCast]
      by_cases hu : up at' b = true
      · rw [if_pos hu]; rw [hu] at k4 ⊢; exact ⟨h4 hu, k4⟩
      · rw [if_neg hu]; rw [Bool.not_eq_true] at hu; rw [hu] at k4 ⊢; exact k4
end
end Go.Af.Tryz
namespace Go.Af.Tryz
open Go Go.Proofs
attribute [local irreducible] awp ACall ACallX AYield AInvoke newSlice isCells rdCells wrCells aAppend rangeEnd roundBegin roundEnd


section
attribute [local semireducible] aAppend
/-- A row is appended to an empty one. -/
theorem clone_hs {H0 H : List Blk} {o : Nat → Prop} {L : List (Bool × Nat × Blk)} {j b n c2 z size bytes : Nat} {wr : Bool} {us : List Value} {K : Value → List Blk → Prop} (h : HS H0 o ((true, j, .cells true size []) :: L) H) (hsz : 0 < size) (hj : bget H b = some (.cells wr z us)) (hul : us.length = n * size) (hn : 0 < n) (hone : us.all oneCellV = true)
    (hby : n * (bytes + 1) ≤ 70368744177664) (k : ∀ (H' : List Blk) (b' : Nat), b' = H.length → HS H0 o ((true, b', .cells true size us) :: L) H' → K (.slice (some ⟨b', 0, none⟩) n n) H') :
    aAppend H size bytes (.slice (some ⟨j, 0, none⟩) 0 0) (.slice (some ⟨b, 0, none⟩) n c2) K := by
  refine ⟨hsz, ?_⟩
  simp only [appSrc, hj]
  refine ⟨.inr (by omega), us, by rw [List.drop_zero, List.take_of_length_le (by omega)], hone, ?_⟩
  refine .inr ⟨hn, ?_⟩
  have hb := h.get 0 rfl
  have hbl := bget_lt hb
  simp only [hb]
  refine ⟨trivial, .inr ⟨by omega, by rw [Nat.zero_add]; exact hby, .inl trivial, _, rfl, ?_⟩⟩
  have e : List.take (0 * size) (List.drop 0 []) ++ us = us := by simp
  rw [e, Nat.zero_add]
  refine set_of hbl fun H1 h1 h2 h3 => newS_of fun H' k1 k2 k3 => ?_
  have hd := (h.set (B' := .dead) 0 rfl h1 h2 h3).tail
  exact k H' H1.length h1 (hd.new k1 k2 k3)
end
theorem ints_one (xs : List Int) : (ints xs).all oneCellV = true := by
  rw [List.all_eq_true]
  intro v hv
  obtain ⟨x, _, rfl⟩ := List.mem_map.1 hv
  rfl
theorem aeq_nil {P : Program} {T' : TT} {H : List Blk} {t : TypeId} {xo yo : Operand} {i : TI} {e : TypeId} {b o l c z : Nat} {wr : Bool} {vs : List Value} {K : Bool → Prop} (ht : tget T' t = some i) (hk : i.kind = .slice e) (hb : bget H b = some (.cells wr z vs)) (hl : 0 < l) (k : K false) :
    aeq P T' H t xo yo (.slice (some ⟨b, o, none⟩) l c) (.slice none 0 0) K := by
  obtain ⟨l, rfl⟩ : ∃ k, l = k + 1 := ⟨l - 1, by omega⟩
  unfold aeq
  simp only [ht, hk, hb]
  exact k
section
attribute [local irreducible] aeq
theorem g50 {H : List Blk} {R : Value → List Blk → Prop} {j n c : Nat} {wr : Bool} {xs : List Int} (hj : bget H j = some (.cells wr 1 (ints xs))) (hn : xs.length = n) (h0 : 0 < n) (hl : n ≤ 1000000)
    (h : ∀ H' k, HS H none' [(true, k, rw' xs)] H' → R (sv k n) H') : ACall Tryz.prog 50 [.slice (some ⟨j, 0, none⟩) n c] H R := by
  refine acall_vcg tok Tryz.call50 Tryz.func50 rfl Tryz.ntmps50 rfl (by simp) ?_
  refine aeq_nil (P := Tryz.prog) (T' := T) (t := 22) (by rfl) (by rfl) hj h0 ?_
  refine And.intro (fun h => absurd h (by decide)) (fun _ => ?_)
  refine And.intro (by decide) ?_
  refine newS_hs (HS.start H none') (fun H2 e e2 l2 hs2 => ?_)
  refine And.intro rfl ?_
  have hj2 : bget H2 j = some (.cells wr 1 (ints xs)) := (hs2.u.2 j (bget_lt hj) (fun x => x)).trans hj
  exact clone_hs hs2 (by decide) hj2 (by simp [hn]) h0 (ints_one xs) (by show n * (8 + 1) ≤ _; omega) (fun H3 k _ hs3 => h H3 k hs3)
end

theorem n57 {H : List Blk} {R : Value → List Blk → Prop} {kb kr n a b : Nat} {w1 w2 : Bool} {K : List Int} (h1 : bget H kb = some (.cells w1 1 [sv kr n])) (h2 : bget H kr = some (.cells w2 1 (ints K))) (hl : K.length = n) (ha : a < n) (hb : b < n)
    (h : R (.bool (upB K a b)) H) : ACall Tryz.prog 57 [.int .i64 (a : Int), .int .i64 (b : Int), pV kb] H R := by
  have hal : a < K.length := by omega
  have hbl : b < K.length := by omega
  refine acall_vcg tok Tryz.call57 Tryz.func57 rfl Tryz.ntmps57 rfl (by simp) ?_
  refine vops_gen (fun K0 hK0 => hK0 _ _ ?_)
  refine vcg_draw tok mx [0, 0, 3, 7, 0, 0, 48, 112, 255, 511, 1023, 1023, 4095, 8191, 1023, 1023, 50175, 115711, 262143, 524287, 1048575, 1048575, 4194303, 8388607, 16777215, 33554431] [false, true, false, false, true, true, true, true, false, false, false, true, false, false, true, true, true, true, false, false, false, false, false, false, false, false] [0, 1, 2, 3, 4, 5, 6, 7, 8, 9, 10, 11, 12, 13, 14, 15, 16, 17, 18, 19, 20, 21, 22, 23, 24, 25] (by kernel_rfl) ?_
  refine vopsO_gen (fun K0 hK0 => ?_)
  refine rdCells_of (h1) ?_
  refine ⟨_, rfl, ?_⟩
  refine isCells_of h2 ⟨b, rfl, by omega, ?_⟩
  refine rdCells_of h2 (Ld_ints b K[b]! (by simp) (by simp [hbl]) ?_)
  refine rdCells_of (h1) ?_
  refine ⟨_, rfl, ?_⟩
  refine isCells_of h2 ⟨a, rfl, by omega, ?_⟩
  refine rdCells_of h2 (Ld_ints a K[a]! (by simp) (by simp [hal]) ?_)
  by_cases hlt : K[b]! < K[a]!
  · have hdt : decide (K[b]! < K[a]!) = true := decide_eq_true hlt
    have e : upB K a b = true := upB_iff.2 (.inl hlt)
    rw [e] at h
    repeat refine And.intro (fun h => absurd h (by first | decide | (rw [hdt]; decide))) (fun _ => ?_)
    repeat refine And.intro (fun _ => ?_) (fun h => absurd h (by first | decide | (rw [hdt]; decide)))
    refine hK0 _ _ ?_
    rw [hdt]
    exact h
  · have hdt : decide (K[b]! < K[a]!) = false := decide_eq_false hlt
    repeat refine And.intro (fun _ => ?_) (fun h => absurd h (by first | decide | (rw [hdt]; decide)))
    refine rdCells_of (h1) ?_
    refine ⟨_, rfl, ?_⟩
    repeat refine And.intro (fun _ => ?_) (fun h => absurd h (by first | decide | (rw [hdt]; decide)))
    refine isCells_of h2 ⟨b, rfl, by omega, ?_⟩
    repeat refine And.intro (fun _ => ?_) (fun h => absurd h (by first | decide | (rw [hdt]; decide)))
    refine rdCells_of h2 (Ld_ints b K[b]! (by simp) (by simp [hbl]) ?_)
    repeat refine And.intro (fun _ => ?_) (fun h => absurd h (by first | decide | (rw [hdt]; decide)))
    refine rdCells_of (h1) ?_
    refine ⟨_, rfl, ?_⟩
    repeat refine And.intro (fun _ => ?_) (fun h => absurd h (by first | decide | (rw [hdt]; decide)))
    refine isCells_of h2 ⟨a, rfl, by omega, ?_⟩
    repeat refine And.intro (fun _ => ?_) (fun h => absurd h (by first | decide | (rw [hdt]; decide)))
    refine rdCells_of h2 (Ld_ints a K[a]! (by simp) (by simp [hal]) ?_)
    by_cases heq : K[b]! = K[a]!
    · have hde : decide (K[b]! = K[a]!) = true := decide_eq_true heq
      have e : upB K a b = decide ((b : Int) < (a : Int)) := by
        unfold upB
        rw [hdt, hde]
        simp
      rw [e] at h
      repeat (first | refine And.intro (fun _ => ?_) (fun h => absurd h (by first | decide | (rw [hdt]; decide) | (rw [hde]; decide))))
      refine hK0 _ _ ?_
      rw [hdt, hde]
      exact h
    · have hde : decide (K[b]! = K[a]!) = false := decide_eq_false heq
      have e : upB K a b = false := by
        unfold upB
        rw [hdt, hde]
        simp
      rw [e] at h
      repeat (first | refine And.intro (fun _ => ?_) (fun h => absurd h (by first | decide | (rw [hdt]; decide) | (rw [hde]; decide))) | refine And.intro (fun h => absurd h (by first | decide | (rw [hdt]; decide) | (rw [hde]; decide))) (fun _ => ?_))
      refine hK0 _ _ ?_
      rw [hdt, hde]
      exact h

theorem n58 {H : List Blk} {R : Value → List Blk → Prop} {t : Nt} {nx ub kb kr n a b : Nat} {w1 w2 w3 w4 : Bool} {K : List Int} (hE : t.E H) (hn : t.ds.length = n) (h3 : bget H nx = some (.cells w3 1 [pV t.nb])) (h4 : bget H ub = some (.cells w4 1 [fnW 57 [] [pV kb]])) (h1 : bget H kb = some (.cells w1 1 [sv kr n])) (h2 : bget H kr = some (.cells w2 1 (ints K))) (hl : K.length = n) (ha : a < n) (hb : b < n)
    (h : R (.bool (t.al a b && !upB K a b)) H) : ACall Tryz.prog 58 [.int .i64 (b : Int), .int .i64 (a : Int), pV nx, pV ub] H R := by
  refine acall_vcg tok Tryz.call58 Tryz.func58 rfl Tryz.ntmps58 rfl (by simp) ?_
  refine vops_gen (fun K0 hK0 => hK0 _ _ ?_)
  refine vops_gen (fun K0 hK0 => ?_)
  refine rdCells_of (h3) ?_
  refine ⟨_, rfl, ?_⟩
  refine n56 hE (by omega) (by omega) ?_
  cases hal : t.al a b with
  | false =>
    rw [hal] at h
    repeat refine And.intro (fun h => absurd h (by decide)) (fun _ => ?_)
    refine hK0 _ _ ?_
    exact h
  | true =>
    rw [hal] at h
    repeat refine And.intro (fun _ => ?_) (fun h => absurd h (by decide))
    refine rdCells_of (h4) ?_
    refine ⟨_, rfl, ?_⟩
    repeat refine And.intro (fun _ => ?_) (fun h => absurd h (by decide))
    refine n57 h1 h2 hl ha hb ?_
    repeat refine And.intro (fun _ => ?_) (fun h => absurd h (by decide))
    refine hK0 _ _ ?_
    exact h
end Go.Af.Tryz
