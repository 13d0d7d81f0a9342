/-
  The reference's distances from a switch: a search in breadth, as a call.
  Distance and Hops of the reference, as calls; and what they have to do with those of the program.
  The law NetDistances, as a call.
-/
import Derived.Test.YtjncbbdiejkalaaGreatMK
set_option linter.all false
namespace Go.Af.Tryz
open Go Go.Proofs
attribute [local irreducible] awp ACall ACallX AYield AInvoke newSlice isCells rdCells wrCells aAppend rangeEnd roundBegin roundEnd

structure DrS where
  H : List Blk
  k : Nat
  Q : List Int
  D : List Int
  i : Nat
abbrev spB' (kind hosts : Int) (b : Nat) (sides : List Int) : Blk := .cells true 1 [.int .i64 kind, sv b sides.length, .int .i64 hosts]
/-- A row whose first elements are -1. -/
theorem fill_neg {xs : List Int} {n : Nat} (h : xs.length = n) (hx : ∀ y : Nat, y < n → xs[y]! = -1) : xs = List.replicate n (-1) := by
  refine List.ext_getElem (by simp [h]) (fun i h1 h2 => ?_)
  have := hx i (by omega)
  rw [getElem!_pos xs i h1] at this
  rw [this]; simp

set_option maxHeartbeats 4000000 in
theorem rdist {H : List Blk} {R : Value → List Blk → Prop} {b n y : Nat} {wr : Bool} {kind hosts : Int} {sides : List Int} {s : Sh} (hok : s.ok) (hof : s.of kind sides) (hn : s.sw = n) (hy : y < n) (hb : bget H b = some (.cells wr 1 (ints sides)))
    (h : ∀ H' k D, Dst (fun x : Nat => lnkL s x n) n y D → HS H none' [(true, k, rw' D)] H' → R (sv k n) H') : ACall Tryz.prog 45 [spV kind (sv b sides.length) hosts, .int .i64 (y : Int)] H R := by
  have hbd := sw_bd hok
  refine acall_vcg tok Tryz.call45 Tryz.func45 rfl Tryz.ntmps45 rfl (by simp) ?_
  refine new_hs (((HS.start H none').add (c := false) hb (fun i p hi => by simp at hi) (fun h => by cases h))) (fun H1 b1 e1 l1 hs1 => ?_)
  refine rdCells_of (hs1.get 0 rfl) ?_
  refine ⟨_, rfl, _, rfl, _, rfl, ?_⟩
  (first | refine c58 hok hof (hs1.get 1 rfl) (Nat.le_refl _) ?_ | refine (c58 hok hof (hs1.get 1 rfl) (Nat.le_refl _) ?_).call)
  rw [hn]
  refine ⟨by decide, n, n, ⟨rfl, rfl⟩, ⟨Nat.le_refl _, by simp only; omega⟩, ints (List.replicate n 0), by simp [zeroRep, ints, cellsL], ?_⟩
  refine new_hs hs1 (fun H2 dr e2 l2 hs2 => ?_)
  refine vcg_loopR (α := XS66) tok (fun z => HS H none' [(true, dr, rw' z.xs), (true, b1, spB' kind hosts b sides), (false, b, .cells wr 1 (ints sides))] z.H ∧ z.xs.length = n ∧ (∀ y : Nat, y < z.i → z.xs[y]! = -1) ∧ z.i ≤ n)
    (fun | ⟨_, _, i⟩ => [(1, .int .i64 (y : Int)), (2, pV b1), (5, sv dr n), (6, .int .i64 (i : Int))]) (fun | ⟨H', _, _⟩ => H') (fun z => n - z.i)
    ⟨H2, List.replicate n 0, 0⟩ ⟨hs2, by simp, fun y hy => absurd hy (Nat.not_lt_zero y), Nat.zero_le _⟩ (Or.inl ⟨⟨rfl, rfl, rfl, rfl, trivial⟩, rfl⟩) ?_
  clear hs1 hs2
  rintro ⟨H2, xs, i⟩ ⟨hs2, hx, hxs, hi⟩
  simp only at hs2 hx hxs hi
  refine And.intro (fun hc => ?_) (fun hc => ?_)
  · have hlt : i < n := by simpa using hc
    refine vops_gen (fun K0 hK0 => ?_)
    refine isCells_of (hs2.get 0 rfl) ⟨i, rfl, hlt, ?_⟩
    simp only [putK, vops, guardK, cstep, Nat.blt]
    refine store_hs hs2 0 rfl (ints (xs.set i (-1))) rfl rfl (by simp; omega) (set_int _ _ _) (fun H3 l3 hs3 => ?_)
    refine hK0 _ _ ?_
    clear hK0 K0
    refine Or.inl ⟨((i + 1 : Nat) : Int), by simp, by unfold I64; omega, ?_⟩
    exact ⟨⟨H3, xs.set i (-1), i + 1⟩, ⟨hs3, by simp [hx], xs_set (f := fun _ => -1) hx hlt hxs, hlt⟩, by simp only; omega, Or.inl ⟨⟨rfl, rfl, rfl, rfl, trivial⟩, rfl⟩⟩
  have hie : i = n := by simp at hc; omega
  subst hie
  have := fill_neg hx hxs
  subst this
  clear hx hxs hi hc
  refine vops_gen (fun K0 hK0 => ?_)
  refine isCells_of (hs2.get 0 rfl) ⟨y, rfl, by omega, ?_⟩
  simp only [putK, vops, guardK, cstep, Nat.blt]
  refine store_hs hs2 0 rfl (ints ((List.replicate i (-1)).set y 0)) rfl rfl (by simp; omega) (set_int _ _ _) (fun H3 l3 hs3 => ?_)
  refine hK0 _ _ ?_
  clear hK0 K0
  refine And.intro (by decide) ?_
  refine newS_hs hs3 (fun H4 k e4 l4 hs4 => ?_)
  refine vcg_loopR (α := DrS) tok (fun z => HS H none' [(true, z.k, rw' z.Q), (true, dr, rw' z.D), (true, b1, spB' kind hosts b sides), (false, b, .cells wr 1 (ints sides))] z.H ∧ Bfs (fun x : Nat => lnkL s x i) i y z.D z.Q z.i)
    (fun z => [(2, pV b1), (5, sv dr i), (7, sv z.k z.Q.length), (8, .int .i64 (z.i : Int))]) (fun z => z.H) (fun z => i - z.i)
    ⟨H4, k, [(y : Int)], (List.replicate i (-1)).set y 0, 0⟩ ⟨hs4, Bfs.start hy⟩ (Or.inl ⟨⟨rfl, rfl, rfl, rfl, trivial⟩, rfl⟩) ?_
  clear hs4 hs3 hs2 e4 l4 l3 e2 l2 e1 l1
  rintro ⟨H1, k, Q, D, t⟩ ⟨hs1, bf⟩
  simp only at hs1 bf
  refine And.intro (fun hc => ?_) (fun hc => ?_)
  rotate_left
  · have hc : ¬ t < Q.length := by simpa using hc
    have hge := bf.hle
    exact h _ dr D (bf.done (by omega)) (hs1.pick [1] (by decide) rfl)
  have hlt : t < Q.length := by simpa using hc
  obtain ⟨x, hx, hxn, hx0⟩ := bf.qget hlt
  have hql := bf.qle
  refine vcg_draw tok mx [0, 0, 0, 6, 14, 31, 63] [false, true, true, true, true, false, false] [0, 1, 2, 3, 4, 5, 6] (by kernel_rfl) ?_
  refine vopsO_gen (fun K0 hK0 => ?_)
  refine rdCells_of (hs1.get 2 rfl) ?_
  refine ⟨_, rfl, _, rfl, _, rfl, ?_⟩
  refine isCells_of (hs1.get 0 rfl) ⟨t, rfl, hlt, ?_⟩
  refine rdCells_of (hs1.get 0 rfl) (Ld_ints t Q[t]! (by simp) (by simp [hlt]) ?_)
  rw [hx]
  refine g72 hok hof hn ⟨by omega, by omega⟩ (hs1.get 3 rfl) (fun H2 j hs2 => ?_)
  have hs2 := hs1.call hs2 rfl
  refine hK0 _ _ ?_
  clear hK0 K0
  have hll := lnkL_len s x i
  have hlm : ∀ z, z ∈ lnkL s x i → 0 ≤ z ∧ z < i := fun z hz => (lnkL_mem.1 hz).1
  refine vcg_loopR (α := DrS) tok (fun z => HS H none' [(true, j, rw' (lnkL s x i)), (true, z.k, rw' z.Q), (true, dr, rw' z.D), (true, b1, spB' kind hosts b sides), (false, b, .cells wr 1 (ints sides))] z.H ∧ Bfs (fun x : Nat => lnkL s x i) i y z.D z.Q t ∧ t < z.Q.length ∧ z.Q[t]! = x ∧ z.i ≤ (lnkL s x i).length ∧ ∀ u ∈ (lnkL s x i).take z.i, 0 ≤ z.D[u.toNat]! ∧ z.D[u.toNat]! ≤ z.D[x]! + 1)
    (fun z => [(2, pV b1), (5, sv dr i), (7, sv z.k z.Q.length), (8, .int .i64 (t : Int)), (9, sv j (lnkL s x i).length), (10, .int .i64 (z.i : Int))]) (fun z => z.H) (fun z => (lnkL s x i).length - z.i)
    ⟨H2, k, Q, D, 0⟩ ⟨hs2, bf, hlt, hx, Nat.zero_le _, fun u hu => by simp at hu⟩ (Or.inl ⟨⟨rfl, rfl, rfl, rfl, rfl, rfl, trivial⟩, rfl⟩) ?_
  clear hs2 hs1 bf hlt hx hx0 hql hc
  rintro ⟨H1, k, Q, D, e⟩ ⟨hs1, bf, hlt, hx, he, hpv⟩
  simp only at hs1 bf hlt hx he hpv
  refine And.intro (fun hc => ?_) (fun hc => ?_)
  rotate_left
  · have hc : ¬ e < (lnkL s x i).length := by simpa using hc
    have : e = (lnkL s x i).length := by omega
    subst this
    rw [List.take_length] at hpv
    have hge := bf.hle
    have hql := bf.qle
    refine Or.inl ⟨((t + 1 : Nat) : Int), by simp, by unfold I64; omega, ?_⟩
    exact ⟨⟨H1, k, Q, D, t + 1⟩, ⟨hs1.tail, bf.next hlt (by rw [hx, Int.toNat_natCast]; exact hpv)⟩, by simp only; omega, Or.inl ⟨⟨rfl, rfl, rfl, rfl, trivial⟩, rfl⟩⟩
  have hel : e < (lnkL s x i).length := by simpa using hc
  have hum := mem_get! hel
  have hur := hlm _ hum
  obtain ⟨yn, hyn⟩ : ∃ yn : Nat, (lnkL s x i)[e]! = yn := ⟨((lnkL s x i)[e]!).toNat, by omega⟩
  rw [hyn] at hum hur
  have htk : (lnkL s x i).take (e + 1) = (lnkL s x i).take e ++ [(yn : Int)] := by rw [List.take_succ_eq_append_getElem hel, ← hyn, getElem!_pos _ e hel]
  have hsee := bf.see hlt (y := yn) (by rw [hx, Int.toNat_natCast]; exact hum) hur
  have hb1 := bf.bd t hlt
  have hb2 := bf.qle
  have hbl := bf.len
  obtain ⟨x', hx1, hx2, hx3⟩ := bf.qget hlt
  have : x' = x := by omega
  subst this
  rw [hx, Int.toNat_natCast] at hb1
  rw [hx] at hsee
  have hyl : yn < D.length := by omega
  have hxl : x' < D.length := by omega
  refine vops_gen (fun K0 hK0 => ?_)
  refine isCells_of (hs1.get 0 rfl) ⟨e, rfl, hel, ?_⟩
  refine rdCells_of (hs1.get 0 rfl) (Ld_ints e (lnkL s x' i)[e]! (by simp) (by simp [hel]) ?_)
  rw [hyn]
  refine isCells_of (hs1.get 2 rfl) ⟨yn, rfl, by omega, ?_⟩
  refine rdCells_of (hs1.get 2 rfl) (Ld_ints yn D[yn]! (by simp) (by simp [hyl]) ?_)
  refine hK0 _ _ ?_
  clear hK0 K0
  refine And.intro (fun hd => ?_) (fun hd => ?_)
  · have hd : D[yn]! < 0 := of_decide_eq_true hd
    rw [show seeF (x' : Int) (D, Q) (yn : Int) = (D.set yn (D[x']! + 1), Q ++ [(yn : Int)]) by unfold seeF; simp only [Int.toNat_natCast]; rw [if_pos hd]] at hsee
    obtain ⟨u1, u2, u3, u4, u5⟩ := hsee
    have hql := u1.qle
    have hqe : (Q ++ [(yn : Int)]).length = Q.length + 1 := by simp
    refine vcg_draw tok mx [0, 0, 0, 6, 14, 0, 0, 0, 192, 448, 992, 2016, 4064, 8191, 16383] [false, false, false, false, false, true, true, true, true, true, true, true, true, false, false] [0, 1, 2, 3, 4, 5, 6, 7, 8, 9, 10, 11, 12, 13, 14] (by kernel_rfl) ?_
    refine vopsO_gen (fun K0 hK0 => ?_)
    refine isCells_of (hs1.get 0 rfl) ⟨e, rfl, hel, ?_⟩
    refine rdCells_of (hs1.get 0 rfl) (Ld_ints e (lnkL s x' i)[e]! (by simp) (by simp [hel]) ?_)
    rw [hyn]
    refine isCells_of (hs1.get 1 rfl) ⟨t, rfl, hlt, ?_⟩
    refine rdCells_of (hs1.get 1 rfl) (Ld_ints t Q[t]! (by simp) (by simp [hlt]) ?_)
    rw [hx]
    refine isCells_of (hs1.get 2 rfl) ⟨x', rfl, by omega, ?_⟩
    refine rdCells_of (hs1.get 2 rfl) (Ld_ints x' D[x']! (by simp) (by simp [hxl]) ?_)
    refine Or.inl ⟨D[x']! + 1, rfl, by unfold I64; omega, ?_⟩
    refine isCells_of (hs1.get 2 rfl) ⟨yn, rfl, by omega, ?_⟩
    simp only [putK, vopsO, opGet, stepQ, bAt, guardK, cstep, Nat.blt]
    refine store_hs hs1 2 rfl (ints (D.set yn (D[x']! + 1))) rfl rfl (by simp [hbl]; omega) (set_int _ _ _) (fun H6 l6 hs6 => ?_)
    refine hK0 _ _ ?_
    clear hK0 K0
    refine vops_gen (fun K0 hK0 => ?_)
    refine isCells_of (hs6.get 0 rfl) ⟨e, rfl, hel, ?_⟩
    refine rdCells_of (hs6.get 0 rfl) (Ld_ints e (lnkL s x' i)[e]! (by simp) (by simp [hel]) ?_)
    rw [hyn]
    refine And.intro (by decide) ?_
    refine newS_hs hs6 (fun H7 j7 e7 l7 hs7 => ?_)
    refine And.intro rfl ?_
    refine app_hs hs7 2 rfl (by decide) (hs7.get 0 rfl) rfl rfl (by simp) (by simp only; omega) (fun H8 k' e8 l8 hs8 => ?_)
    refine hK0 _ _ ?_
    clear hK0 K0
    refine Or.inl ⟨((e + 1 : Nat) : Int), by simp, by unfold I64; omega, ?_⟩
    refine ⟨⟨H8, k', Q ++ [(yn : Int)], D.set yn (D[x']! + 1), e + 1⟩, ⟨?_, u1, show t < (Q ++ [(yn : Int)]).length from by simp; omega, u2, hel, fun z hz => ?_⟩, by simp only; omega, Or.inl ⟨⟨rfl, rfl, by rw [hqe]; rfl, rfl, rfl, rfl, trivial⟩, rfl⟩⟩
    · simp only [rw', ints_append]
      exact hs8.tail
    · simp only [htk] at hz
      rcases List.mem_append.1 hz with hz | hz
      · have h1 := hpv z hz
        rw [u5 _ h1.1, u5 _ hx3]; exact h1
      · have hz : z = yn := by simpa using hz
        subst hz
        rw [Int.toNat_natCast, Int.toNat_natCast] at u4
        rw [Int.toNat_natCast]; exact u4
  · have hd : ¬ D[yn]! < 0 := of_decide_eq_false hd
    rw [show seeF (x' : Int) (D, Q) (yn : Int) = (D, Q) by unfold seeF; simp only [Int.toNat_natCast]; rw [if_neg hd]] at hsee
    obtain ⟨u1, u2, u3, u4, u5⟩ := hsee
    refine Or.inl ⟨((e + 1 : Nat) : Int), by simp, by unfold I64; omega, ?_⟩
    refine ⟨⟨H1, k, Q, D, e + 1⟩, ⟨hs1, bf, hlt, hx, hel, fun z hz => ?_⟩, by simp only; omega, Or.inl ⟨⟨rfl, rfl, rfl, rfl, rfl, rfl, trivial⟩, rfl⟩⟩
    simp only [htk] at hz
    rcases List.mem_append.1 hz with hz | hz
    · exact hpv z hz
    · have hz : z = yn := by simpa using hz
      subst hz
      rw [Int.toNat_natCast, Int.toNat_natCast] at u4
      rw [Int.toNat_natCast]; exact u4
end Go.Af.Tryz
namespace Go.Af.Tryz
open Go Go.Proofs
attribute [local irreducible] awp ACall ACallX AYield AInvoke newSlice isCells rdCells wrCells aAppend rangeEnd roundBegin roundEnd


theorem rDerr {H : List Blk} {R : Value → List Blk → Prop} {b : Nat} {wr : Bool} {kind hosts x y : Int} {sides : List Int} (he : twF (shapeF kind sides hosts) x y ≠ 0) (hb : bget H b = some (.cells wr 1 (ints sides)))
    (h : ∀ H', HS H none' [] H' → R (.tuple ⟨[.int .i64 0, .int .i64 (twF (shapeF kind sides hosts) x y)]⟩) H') : ACall Tryz.prog 10 [spV kind (sv b sides.length) hosts, .int .i64 x, .int .i64 y] H R := by
  refine acall_vcg tok Tryz.call10 Tryz.func10 rfl Tryz.ntmps10 rfl (by simp) ?_
  refine new_hs (((HS.start H none').add (c := false) hb (fun i p hi => by simp at hi) (fun h => by cases h))) (fun H1 b1 e1 l1 hs1 => ?_)
  refine rdCells_of (hs1.get 0 rfl) ?_
  refine ⟨_, rfl, _, rfl, _, rfl, ?_⟩
  (first | refine c77 (hs1.get 1 rfl) (Nat.le_refl _) ?_ | refine (c77 (hs1.get 1 rfl) (Nat.le_refl _) ?_).call)
  refine And.intro (fun _ => ?_) (fun h => absurd h (by simpa using he))
  exact h H1 (hs1.pick [] (by decide) rfl)
theorem rHerr {H : List Blk} {R : Value → List Blk → Prop} {b : Nat} {wr : Bool} {kind hosts x y : Int} {sides : List Int} (he : twF (shapeF kind sides hosts) x y ≠ 0) (hb : bget H b = some (.cells wr 1 (ints sides)))
    (h : ∀ H', HS H none' [] H' → R (.tuple ⟨[.slice none 0 0, .int .i64 (twF (shapeF kind sides hosts) x y)]⟩) H') : ACall Tryz.prog 13 [spV kind (sv b sides.length) hosts, .int .i64 x, .int .i64 y] H R := by
  refine acall_vcg tok Tryz.call13 Tryz.func13 rfl Tryz.ntmps13 rfl (by simp) ?_
  refine new_hs (((HS.start H none').add (c := false) hb (fun i p hi => by simp at hi) (fun h => by cases h))) (fun H1 b1 e1 l1 hs1 => ?_)
  refine rdCells_of (hs1.get 0 rfl) ?_
  refine ⟨_, rfl, _, rfl, _, rfl, ?_⟩
  (first | refine c77 (hs1.get 1 rfl) (Nat.le_refl _) ?_ | refine (c77 (hs1.get 1 rfl) (Nat.le_refl _) ?_).call)
  refine And.intro (fun _ => ?_) (fun h => absurd h (by simpa using he))
  exact h H1 (hs1.pick [] (by decide) rfl)
theorem tw_ok {kind hosts : Int} {sides : List Int} {s : Sh} {n x y : Nat} (hs : shapeF kind sides hosts = some s) (hn : s.sw = n) (hx : x < n) (hy : y < n) : twF (shapeF kind sides hosts) x y = 0 := by
  rw [hs, twF_some, if_pos ⟨by omega, by omega⟩, if_pos ⟨by omega, by omega⟩]
theorem rDok {H : List Blk} {R : Value → List Blk → Prop} {b n x y : Nat} {wr : Bool} {kind hosts : Int} {sides : List Int} {s : Sh} (hs : shapeF kind sides hosts = some s) (hn : s.sw = n) (hx : x < n) (hy : y < n) (hb : bget H b = some (.cells wr 1 (ints sides)))
    (h : ∀ H' D, Dst (fun x : Nat => lnkL s x n) n y D → HS H none' [] H' → R (.tuple ⟨[.int .i64 D[x]!, .int .i64 0]⟩) H') : ACall Tryz.prog 10 [spV kind (sv b sides.length) hosts, .int .i64 (x : Int), .int .i64 (y : Int)] H R := by
  have hok := shapeF_ok hs
  have hof := shapeF_of hs
  refine acall_vcg tok Tryz.call10 Tryz.func10 rfl Tryz.ntmps10 rfl (by simp) ?_
  refine new_hs (((HS.start H none').add (c := false) hb (fun i p hi => by simp at hi) (fun h => by cases h))) (fun H1 b1 e1 l1 hs1 => ?_)
  refine rdCells_of (hs1.get 0 rfl) ?_
  refine ⟨_, rfl, _, rfl, _, rfl, ?_⟩
  (first | refine c77 (hs1.get 1 rfl) (Nat.le_refl _) ?_ | refine (c77 (hs1.get 1 rfl) (Nat.le_refl _) ?_).call)
  rw [tw_ok hs hn hx hy]
  refine And.intro (fun h => absurd h (by decide)) (fun _ => ?_)
  refine vops_gen (fun K0 hK0 => ?_)
  refine rdCells_of (hs1.get 0 rfl) ?_
  refine ⟨_, rfl, _, rfl, _, rfl, ?_⟩
  refine rdist hok hof hn hy (hs1.get 1 rfl) (fun H2 k D hd hs2 => ?_)
  have hs2 := hs1.call hs2 rfl
  have hlen := hd.len
  refine isCells_of (hs2.get 0 rfl) ⟨x, rfl, hx, ?_⟩
  refine rdCells_of (hs2.get 0 rfl) (Ld_ints x D[x]! (by simp) (by simp [show x < D.length by omega]) ?_)
  refine hK0 _ _ ?_
  exact h _ D hd (hs2.pick [] (by decide) rfl)

/-- What the reference's Hops answers. -/
def hopR (s : Sh) (n : Nat) (D : List Int) (x : Nat) (m : Nat) : List Int := ((lnkL s x n).take m).filter (fun z => decide (D[z.toNat]! = D[x]! - 1))
theorem hopR_len (s : Sh) (n : Nat) (D : List Int) (x m : Nat) : (hopR s n D x m).length ≤ n := by
  have h1 := List.length_filter_le (fun z : Int => decide (D[z.toNat]! = D[x]! - 1)) ((lnkL s x n).take m)
  have h2 := lnkL_len s x n
  have h3 : ((lnkL s x n).take m).length ≤ (lnkL s x n).length := by simp; omega
  unfold hopR; omega
theorem hop_eq {s : Sh} (hok : s.ok) {n : Nat} (hn : s.sw = n) {x y : Nat} {D : List Int} (d : Dst (fun x : Nat => s.near x) n y D) (hx : x < n) : hopR s n D x (lnkL s x n).length = hopF s n D x := by
  unfold hopR hopF keptF
  rw [List.take_length]
  refine List.filter_congr (fun z hz => ?_)
  obtain ⟨z, rfl⟩ : ∃ k : Nat, z = k := ⟨z.toNat, by have := (lnkL_mem.1 hz).1; omega⟩
  have := dst_near hok hn d hx hz
  show decide (D[(z : Int).toNat]! = D[x]! - 1) = !decide (D[x]! ≤ D[(z : Int).toNat]!)
  rw [Int.toNat_natCast]
  by_cases h : D[z]! = D[x]! - 1
  · rw [decide_eq_true h, decide_eq_false (by omega)]; rfl
  · rw [decide_eq_false h, decide_eq_true (by omega)]; rfl
theorem dst_both {s : Sh} (hok : s.ok) {n : Nat} (hn : s.sw = n) {y : Nat} {D D' : List Int} (d : Dst (fun x : Nat => s.near x) n y D) (d' : Dst (fun x : Nat => lnkL s x n) n y D') : D = D' :=
  d.eq d' (fun w z hw _ => (near_mem hok hn hw).trans lnkL_mem.symm)

structure HpS where
  H : List Blk
  k : Nat
  i : Nat
set_option maxHeartbeats 4000000 in
theorem rHok {H : List Blk} {R : Value → List Blk → Prop} {b n x y : Nat} {wr : Bool} {kind hosts : Int} {sides : List Int} {s : Sh} (hs : shapeF kind sides hosts = some s) (hn : s.sw = n) (hx : x < n) (hy : y < n) (hb : bget H b = some (.cells wr 1 (ints sides)))
    (h : ∀ H' k D, Dst (fun x : Nat => lnkL s x n) n y D → HS H none' [(true, k, rw' (hopR s n D x (lnkL s x n).length))] H' → R (.tuple ⟨[sv k (hopR s n D x (lnkL s x n).length).length, .int .i64 0]⟩) H') : ACall Tryz.prog 13 [spV kind (sv b sides.length) hosts, .int .i64 (x : Int), .int .i64 (y : Int)] H R := by
  have hok := shapeF_ok hs
  have hof := shapeF_of hs
  have hbd := sw_bd hok
  refine acall_vcg tok Tryz.call13 Tryz.func13 rfl Tryz.ntmps13 rfl (by simp) ?_
  refine new_hs (((HS.start H none').add (c := false) hb (fun i p hi => by simp at hi) (fun h => by cases h))) (fun H1 b1 e1 l1 hs1 => ?_)
  refine rdCells_of (hs1.get 0 rfl) ?_
  refine ⟨_, rfl, _, rfl, _, rfl, ?_⟩
  (first | refine c77 (hs1.get 1 rfl) (Nat.le_refl _) ?_ | refine (c77 (hs1.get 1 rfl) (Nat.le_refl _) ?_).call)
  rw [tw_ok hs hn hx hy]
  refine And.intro (fun h => absurd h (by decide)) (fun _ => ?_)
  refine rdCells_of (hs1.get 0 rfl) ?_
  refine ⟨_, rfl, _, rfl, _, rfl, ?_⟩
  refine rdist hok hof hn hy (hs1.get 1 rfl) (fun H2 dr D hd hs2 => ?_)
  have hs2 := hs1.call hs2 rfl
  have hlen := hd.len
  refine rdCells_of (hs2.get 1 rfl) ?_
  refine ⟨_, rfl, _, rfl, _, rfl, ?_⟩
  refine g72 hok hof hn ⟨by omega, by omega⟩ (hs2.get 2 rfl) (fun H3 j hs3 => ?_)
  have hs3 := hs2.call hs3 rfl
  have hll := lnkL_len s x n
  have hlm : ∀ z, z ∈ lnkL s x n → 0 ≤ z ∧ z < n := fun z hz => (lnkL_mem.1 hz).1
  refine vcg_loopV (α := HpS) tok (fun z => HS H none' [(true, z.k, rw' (hopR s n D x z.i)), (true, j, rw' (lnkL s x n)), (true, dr, rw' D)] z.H ∧ z.i ≤ (lnkL s x n).length)
    (fun | ⟨_, k, i⟩ => [(1, .int .i64 (x : Int)), (9, sv dr n), (10, sv j (lnkL s x n).length), (11, sv k (hopR s n D x i).length), (12, .int .i64 (i : Int))]) (fun | ⟨H', _, _⟩ => H') (fun z => (lnkL s x n).length - z.i)
    ⟨H3 ++ [rw' []], H3.length, 0⟩ ⟨(hs3.virt _).pick [0, 1, 2] (by decide) (by simp [hopR]), Nat.zero_le _⟩ ⟨⟨_, rfl, .rfl⟩, ⟨_, rfl, .rfl⟩, ⟨_, rfl, .rfl⟩, ⟨_, rfl, by simp only [hopR, List.take_zero, List.filter_nil, List.length_nil]; exact WkV.nil _⟩, ⟨_, rfl, .rfl⟩, trivial⟩ (WkH.rfl.app _) ?_
  clear hs3 hs2 hs1
  rintro ⟨H1, k, i⟩ ⟨hs1, hi⟩
  simp only at hs1 hi
  refine And.intro (fun hc => ?_) (fun hc => ?_)
  rotate_left
  · have hc : ¬ i < (lnkL s x n).length := by simpa using hc
    have : i = (lnkL s x n).length := by omega
    subst this
    exact h _ _ D hd (hs1.pick [0] (by decide) rfl)
  have hlt : i < (lnkL s x n).length := by simpa using hc
  have hum := mem_get! hlt
  have hur := hlm _ hum
  obtain ⟨z, hz⟩ : ∃ z : Nat, (lnkL s x n)[i]! = z := ⟨((lnkL s x n)[i]!).toNat, by omega⟩
  rw [hz] at hum hur
  have htk : (lnkL s x n).take (i + 1) = (lnkL s x n).take i ++ [(z : Int)] := by rw [List.take_succ_eq_append_getElem hlt, ← hz, getElem!_pos _ i hlt]
  have hsn : hopR s n D x (i + 1) = hopR s n D x i ++ (if D[z]! = D[x]! - 1 then [(z : Int)] else []) := by
    unfold hopR
    rw [htk, List.filter_append, List.filter_cons, List.filter_nil]
    simp
  have hhl := hopR_len s n D x i
  have hzl : z < D.length := by omega
  have hxl : x < D.length := by omega
  have hd1 := hd.le x hx
  have hd2 := hd.neg x hx
  refine vcg_draw tok mx [0, 0, 0, 6, 14, 31, 63, 0, 0, 384, 896, 1920, 4095] [false, false, false, false, false, false, false, true, true, true, true, true, false] [0, 1, 2, 3, 4, 5, 6, 7, 8, 9, 10, 11, 12] (by kernel_rfl) ?_
  refine vopsO_gen (fun K0 hK0 => ?_)
  refine isCells_of (hs1.get 1 rfl) ⟨i, rfl, hlt, ?_⟩
  refine rdCells_of (hs1.get 1 rfl) (Ld_ints i (lnkL s x n)[i]! (by simp) (by simp [hlt]) ?_)
  rw [hz]
  refine isCells_of (hs1.get 2 rfl) ⟨z, rfl, by omega, ?_⟩
  refine rdCells_of (hs1.get 2 rfl) (Ld_ints z D[z]! (by simp) (by simp [hzl]) ?_)
  refine isCells_of (hs1.get 2 rfl) ⟨x, rfl, hx, ?_⟩
  refine rdCells_of (hs1.get 2 rfl) (Ld_ints x D[x]! (by simp) (by simp [hxl]) ?_)
  refine Or.inl ⟨D[x]! - 1, rfl, by unfold I64; omega, ?_⟩
  refine hK0 _ _ ?_
  clear hK0 K0
  refine And.intro (fun hg => ?_) (fun hg => ?_)
  · have hg : D[z]! = D[x]! - 1 := of_decide_eq_true hg
    rw [if_pos hg] at hsn
    refine isCells_of (hs1.get 1 rfl) ⟨i, rfl, hlt, ?_⟩
    refine rdCells_of (hs1.get 1 rfl) (Ld_ints i (lnkL s x n)[i]! (by simp) (by simp [hlt]) ?_)
    rw [hz]
    refine And.intro (by decide) ?_
    refine newS_hs hs1 (fun H7 j7 e7 l7 hs7 => ?_)
    refine And.intro rfl ?_
    refine app_hs hs7 1 rfl (by decide) (hs7.get 0 rfl) rfl rfl (by simp) (by simp only; omega) (fun H8 k' e8 l8 hs8 => ?_)
    refine Or.inl ⟨((i + 1 : Nat) : Int), by simp, by unfold I64; omega, ?_⟩
    refine ⟨⟨H8, k', i + 1⟩, ⟨?_, hlt⟩, by simp only; omega, Or.inl ⟨⟨rfl, rfl, rfl, ?_, rfl, trivial⟩, rfl⟩⟩
    · simp only [hsn, rw', ints_append]
      exact hs8.tail
    · rw [hsn]; simp [look]
  · have hg : ¬ D[z]! = D[x]! - 1 := of_decide_eq_false hg
    rw [if_neg hg, List.append_nil] at hsn
    refine Or.inl ⟨((i + 1 : Nat) : Int), by simp, by unfold I64; omega, ?_⟩
    exact ⟨⟨H1, k, i + 1⟩, ⟨by simp only [hsn]; exact hs1, hlt⟩, by simp only; omega, Or.inl ⟨⟨rfl, rfl, rfl, by rw [hsn]; rfl, rfl, trivial⟩, rfl⟩⟩
end Go.Af.Tryz
namespace Go.Af.Tryz
open Go Go.Proofs
attribute [local irreducible] awp ACall ACallX AYield AInvoke newSlice isCells rdCells wrCells aAppend rangeEnd roundBegin roundEnd


set_option maxHeartbeats 4000000 in
theorem kdist (kind hosts : Int) (sides : List Int) (x y : Int) {m : LM} {argsR : Array Value} {w : World} (ha : LRel m [spV kind (sv 0 sides.length) hosts, .int .i64 x, .int .i64 y] argsR.toList) (hr : HRel m [ro sides] w) :
    Calls Tryz.prog 3 argsR w fun e w' => ∃ vR, e = .returned vR ∧ AppOut m [ro sides] w (fun v _ => v = .bool true) vR w' := by
  refine calls_vcg tok Tryz.func3 rfl Tryz.ntmps3 rfl (by simp) ?_ ha hr
  have hs1 := hs_one kind hosts sides
  refine vops_gen (fun K0 hK0 => hK0 _ _ ?_)
  refine rdCells_of (hs1.get 0 rfl) ?_
  refine ⟨_, rfl, _, rfl, _, rfl, ?_⟩
  (first | refine c33 (hs1.get 1 rfl) (Nat.le_refl _) ?_ | refine (c33 (hs1.get 1 rfl) (Nat.le_refl _) ?_).call)
  refine vcg_seqG (fun Q0 q1 q2 q3 => ?_)
  refine And.intro (fun hfw => ?_) (fun hfw => ?_)
  · (first | refine c12 ?_ | refine (c12 ?_).call)
    refine q3 _ _ ?_
    exact rfl
  refine q1 _ _ ?_
  clear q1 q2 q3 Q0
  by_cases he : twF (shapeF kind sides hosts) x y = 0
  · obtain ⟨s, hs, hx, hy, _⟩ := tw_some (v := .bool true) he
    have hok := shapeF_ok hs
    have hof := shapeF_of hs
    have hbd := sw_bd hok
    obtain ⟨n, hn⟩ : ∃ n : Nat, s.sw = n := ⟨s.sw.toNat, by omega⟩
    obtain ⟨x, rfl⟩ : ∃ k : Nat, x = k := ⟨x.toNat, by omega⟩
    obtain ⟨y, rfl⟩ : ∃ k : Nat, y = k := ⟨y.toNat, by omega⟩
    have hx : x < n := by omega
    have hy : y < n := by omega
    refine rdCells_of (hs1.get 0 rfl) ?_
    refine ⟨_, rfl, _, rfl, _, rfl, ?_⟩
    refine g43 hs hn hx hy (hs1.get 1 rfl) (fun H2 D hd hs2 => ?_)
    have hs2 := hs1.call hs2 rfl
    refine ⟨_, rfl, _, rfl, ?_⟩
    refine vops_gen (fun K0 hK0 => hK0 _ _ ?_)
    refine rdCells_of (hs2.get 0 rfl) ?_
    refine ⟨_, rfl, _, rfl, _, rfl, ?_⟩
    (first | refine c15 (hs2.get 1 rfl) (Nat.le_refl _) ?_ | refine (c15 (hs2.get 1 rfl) (Nat.le_refl _) ?_).call)
    refine rDok hs hn hx hy (hs2.get 1 rfl) (fun H3 D' hd' hs3 => ?_)
    have := dst_both hok hn hd hd'
    subst this
    have hs3 := hs2.call hs3 rfl
    refine ⟨_, rfl, _, rfl, ?_⟩
    refine vops_gen (fun K0 hK0 => hK0 _ _ ?_)
    refine rdCells_of (hs3.get 0 rfl) ?_
    refine ⟨_, rfl, _, rfl, _, rfl, ?_⟩
    refine g45 hs hn hx hy (hs3.get 1 rfl) (fun H4 D2 k zs hd2 htk hs4 => ?_)
    have := dst_both hok hn hd2 hd'
    subst this
    have hs4 := hs3.call hs4 rfl
    refine ⟨_, rfl, _, rfl, ?_⟩
    refine vops_gen (fun K0 hK0 => hK0 _ _ ?_)
    refine rdCells_of (hs4.get 1 rfl) ?_
    refine ⟨_, rfl, _, rfl, _, rfl, ?_⟩
    (first | refine c15 (hs4.get 2 rfl) (Nat.le_refl _) ?_ | refine (c15 (hs4.get 2 rfl) (Nat.le_refl _) ?_).call)
    refine rHok hs hn hx hy (hs4.get 2 rfl) (fun H5 k2 D3 hd3 hs5 => ?_)
    have := dst_both hok hn hd2 hd3
    subst this
    rw [hop_eq hok hn hd hx] at hs5 ⊢
    have hs5 := hs4.call hs5 rfl
    refine ⟨_, rfl, _, rfl, ?_⟩
    refine vops_gen (fun K0 hK0 => hK0 _ _ ?_)
    have hll := lnkL_len s x n
    have hhl : (hopF s n D2 x).length ≤ (lnkL s x n).length := List.length_filter_le _ _
    generalize hopF s n D2 x = ho at htk hs5 hhl ⊢
    refine vops_gen (fun K0 hK0 => ?_)
    repeat refine And.intro (fun _ => ?_) (fun h => absurd h (by first | decide | (simp; done) | (simp; omega)))
    (first | refine c18e (Rd.pre (hs5.get 1 rfl) htk hhl) (Rd.lit (hs5.get 0 rfl) (Nat.le_refl _)) (by omega) ?_ | refine (c18e (Rd.pre (hs5.get 1 rfl) htk hhl) (Rd.lit (hs5.get 0 rfl) (Nat.le_refl _)) (by omega) ?_).call)
    repeat refine And.intro (fun _ => ?_) (fun h => absurd h (by first | decide | (simp; done) | (simp; omega)))
    (first | refine c12 ?_ | refine (c12 ?_).call)
    refine hK0 _ _ ?_
    exact rfl
  · skip
    refine rdCells_of (hs1.get 0 rfl) ?_
    refine ⟨_, rfl, _, rfl, _, rfl, ?_⟩
    refine g43e he (hs1.get 1 rfl) (fun H2 hs2 => ?_)
    have hs2 := hs1.call hs2 rfl
    refine ⟨_, rfl, _, rfl, ?_⟩
    refine vops_gen (fun K0 hK0 => hK0 _ _ ?_)
    refine rdCells_of (hs2.get 0 rfl) ?_
    refine ⟨_, rfl, _, rfl, _, rfl, ?_⟩
    (first | refine c15 (hs2.get 1 rfl) (Nat.le_refl _) ?_ | refine (c15 (hs2.get 1 rfl) (Nat.le_refl _) ?_).call)
    refine rDerr he (hs2.get 1 rfl) (fun H3 hs3 => ?_)
    have hs3 := hs2.call hs3 rfl
    refine ⟨_, rfl, _, rfl, ?_⟩
    refine vops_gen (fun K0 hK0 => hK0 _ _ ?_)
    refine rdCells_of (hs3.get 0 rfl) ?_
    refine ⟨_, rfl, _, rfl, _, rfl, ?_⟩
    refine g45e he (hs3.get 1 rfl) (fun H4 hs4 => ?_)
    have hs4 := hs3.call hs4 rfl
    refine ⟨_, rfl, _, rfl, ?_⟩
    refine vops_gen (fun K0 hK0 => hK0 _ _ ?_)
    refine rdCells_of (hs4.get 0 rfl) ?_
    refine ⟨_, rfl, _, rfl, _, rfl, ?_⟩
    (first | refine c15 (hs4.get 1 rfl) (Nat.le_refl _) ?_ | refine (c15 (hs4.get 1 rfl) (Nat.le_refl _) ?_).call)
    refine rHerr he (hs4.get 1 rfl) (fun H5 hs5 => ?_)
    have hs5 := hs4.call hs5 rfl
    refine ⟨_, rfl, _, rfl, ?_⟩
    refine vops_gen (fun K0 hK0 => hK0 _ _ ?_)
    generalize twF (shapeF kind sides hosts) x y = er at he ⊢
    refine vops_gen (fun K0 hK0 => ?_)
    repeat refine And.intro (fun _ => ?_) (fun h => absurd h (by first | decide | (simp; done) | (simp; omega)))
    (first | refine c18e (Rd.nil 1 (hs5.get 0 rfl)) (Rd.nil 1 (hs5.get 0 rfl)) (Nat.zero_le _) ?_ | refine (c18e (Rd.nil 1 (hs5.get 0 rfl)) (Rd.nil 1 (hs5.get 0 rfl)) (Nat.zero_le _) ?_).call)
    repeat refine And.intro (fun _ => ?_) (fun h => absurd h (by first | decide | (simp; done) | (simp; omega)))
    (first | refine c12 ?_ | refine (c12 ?_).call)
    refine hK0 _ _ ?_
    exact rfl
end Go.Af.Tryz
