/-
  How many links are left, as a call ('left').
  Parts and detours of a damaged network, with no program in sight.
  Detour, as a call.
-/
import Derived.Test.YtjncbbdiejkalaaGreatMDB
import Derived.Test.YtjncbbdiejkalaaGreatMDA
set_option linter.all false
namespace Go.Af.Tryz
open Go Go.Proofs
attribute [local irreducible] awp ACall ACallX AYield AInvoke newSlice isCells rdCells wrCells aAppend rangeEnd roundBegin roundEnd

/-- A link from a to b is of no use (any more). -/
def LfN (nr : Nat → List Int) (up : Nat → Nat → Bool) (out : List Int) (a b : Nat) : Prop := (b : Int) ∈ nr a → up a b = true → 0 ≤ out[b]! → 0 ≤ out[a]! ∧ out[a]! ≤ out[b]! + 1
/-- The greatest value there is, and one more. -/
abbrev bigF (n : Nat) : Nat := n * n + 3 * n + 2
abbrev KfF (K : List Int) (n : Nat) (a : Nat) : Int := (K[a]! + 1) * n + a
theorem Kf_up {K : List Int} {n a b : Nat} (hK : ∀ z : Nat, z < n → -1 ≤ K[z]! ∧ K[z]! ≤ n) (ha : a < n) (hb : b < n) (h : upB K a b = true) : KfF K n b < KfF K n a := by
  have h1 := (hK a ha).1
  have h2 := (hK b hb).1
  unfold KfF
  rcases upB_iff.1 h with h | ⟨h, h'⟩
  · have : (K[b]! + 1 + 1) * (n : Int) ≤ (K[a]! + 1) * n := Int.mul_le_mul_of_nonneg_right (by omega) (by omega)
    rw [Int.add_mul (K[b]! + 1)] at this
    omega
  · rw [h]; omega
theorem Kf_bd {K : List Int} {n a : Nat} (hK : ∀ z : Nat, z < n → -1 ≤ K[z]! ∧ K[z]! ≤ n) (ha : a < n) : 0 ≤ KfF K n a ∧ KfF K n a + n + 1 < bigF n := by
  have h1 := hK a ha
  unfold KfF bigF
  have a1 : 0 ≤ (K[a]! + 1) * (n : Int) := Int.mul_nonneg (by omega) (by omega)
  have a2 : (K[a]! + 1) * (n : Int) ≤ (n + 1) * n := Int.mul_le_mul_of_nonneg_right (by omega) (by omega)
  have a3 : ((n : Int) + 1) * n = n * n + n := by rw [Int.add_mul, Int.one_mul]
  push_cast
  omega
structure LfS where
  H : List Blk
  b8 : Nat
  out : List Int
  more : Bool
  a : Nat
/-- The blocks that 'left' only reads. -/
abbrev lfE (t : Nt) (b7 b4 b3 ko kb kr n : Nat) (K : List Int) : List (Nat × Blk) :=
  [(b7, .cells true 1 [sv ko n]), (b4, .cells true 1 [fnW 57 [] [pV kb]]), (b3, .cells true 1 [pV t.nb]), (t.nb, t.nB), (t.dn, t.dB), (t.mb, t.mB), (kb, .cells true 1 [sv kr n]), (kr, rw' K), (t.b, t.bB)]

set_option maxHeartbeats 8000000 in
theorem g59 {H : List Blk} {R : Value → List Blk → Prop} {t : Nt} {kb kr kd n : Nat} {wd : Bool} {K down : List Int} (ok : t.Ok) (hn : t.ds.length = n) (hn0 : 0 < n) (hKl : K.length = n) (hK : ∀ z : Nat, z < n → -1 ≤ K[z]! ∧ K[z]! ≤ n) (hdl : down.length = n) (hdn : ∀ z : Nat, z < n → -1 ≤ down[z]! ∧ down[z]! ≤ n)
    (hd : bget H kd = some (.cells wd 1 (ints down)))
    (hE : HS H none' (statL [(t.nb, t.nB), (t.dn, t.dB), (t.mb, t.mB), (kb, .cells true 1 [sv kr n]), (kr, rw' K), (t.b, t.bB)]) H)
    (h : ∀ H' k out, Lft t.nr (upB K) n down out → HS H none' [(true, k, rw' out)] H' → R (sv k n) H') : ACall Tryz.prog 59 [pV t.nb, fnW 57 [] [pV kb], sv kd n] H R := by
  have hok := ok.ok
  have hof := ok.of'
  have hsw := ok.sw
  have hbd := sw_bd hok
  have hnn : n * n ≤ 1024 * 1024 := Nat.mul_le_mul (by omega) (by omega)
  have hKu : ∀ a b : Nat, a < n → b < n → upB K a b = true → KfF K n b < KfF K n a := fun a b ha hb hu => Kf_up hK ha hb hu
  refine acall_vcg tok Tryz.call59 Tryz.func59 rfl Tryz.ntmps59 rfl (by simp) ?_
  refine new_hs hE (fun H1 b3 e1 l1 hs1 => ?_)
  refine new_hs hs1 (fun H2 b4 e2 l2 hs2 => ?_)
  have hd2 : bget H2 kd = some (.cells wd 1 (ints down)) := (hs2.u.2 kd (bget_lt hd) (fun x => x)).trans hd
  refine g50 hd2 hdl hn0 (by omega) (fun H3 ko hs3 => ?_)
  have hs3 := hs2.call hs3 rfl
  refine new_hs hs3 (fun H4 b7 e4 l4 hs4 => ?_)
  simp only [putK, vops, guardK, cstep, Nat.blt]
  refine store_hs hs4 0 rfl [sv ko n] rfl rfl (Nat.le_refl _) rfl (fun H5 l5 hs5 => ?_)
  refine new_hs hs5 (fun H6 b8 e6 l6 hs6 => ?_)
  simp only [putK, vops, guardK, cstep, Nat.blt]
  refine store_hs hs6 0 rfl [.bool true] rfl rfl (Nat.le_refl _) rfl (fun H7 l7 hs7 => ?_)
  have hs8 : HS H none' ([(true, ko, rw' down), (true, b8, .cells true 1 [.bool true])] ++ statL (lfE t b7 b4 b3 ko kb kr n K)) H7 :=
    hs_low (A := [(true, ko, rw' down), (true, b8, _)]) (S := [(true, b7, _), (true, b4, _), (true, b3, _), (false, t.nb, t.nB), (false, t.dn, t.dB), (false, t.mb, t.mB), (false, kb, _), (false, kr, _), (false, t.b, t.bB)]) (hs7.pick [2, 0, 1, 3, 4, 5, 6, 7, 8, 9, 10] (by decide) rfl)
  clear hs7 hs6 hs5 hs4 hs3 hs2 hs1
  refine vcg_loopR (α := LfS) tok (fun z => HS H none' ([(true, ko, rw' z.out), (true, z.b8, .cells true 1 [.bool z.more])] ++ statL (lfE t b7 b4 b3 ko kb kr n K)) z.H ∧ LfI t.nr (upB K) n (KfF K n) down z.out ∧ (z.more = false → ∀ a b : Nat, a < n → b < n → LfN t.nr (upB K) z.out a b))
    (fun z => [(3, pV b3), (4, pV b4), (7, pV b7), (8, pV z.b8)]) (fun z => z.H) (fun z => 2 * muF (bigF n) z.out + (if z.more then 1 else 0))
    ⟨H7, b8, down, true, 0⟩ ⟨hs8, LfI.start hdl (fun a ha => (Kf_bd hK ha).1) (fun a ha => (hdn a ha).2) (fun a ha => (hdn a ha).1), fun h => by cases h⟩ (Or.inl ⟨⟨rfl, rfl, rfl, rfl, trivial⟩, rfl⟩) ?_
  clear hs8
  rintro ⟨H1, b8, out, more, _⟩ ⟨hs1, lf, hfx⟩
  simp only at hs1 lf hfx
  refine rdCells_of (hs1.get 1 rfl) ?_
  refine ⟨_, rfl, ?_⟩
  cases more with
  | false =>
    refine And.intro (fun h => absurd h (by decide)) (fun _ => ?_)
    refine rdCells_of (hs1.get 2 rfl) ?_
    refine ⟨_, rfl, ?_⟩
    exact h _ ko out (lf.done (fun a b ha hb hm hu h0 => hfx rfl a b ha hb hm hu h0)) (hs1.pick [0] (by decide) rfl)
  | true =>
  refine And.intro (fun _ => ?_) (fun h => absurd h (by decide))
  simp only [putK, vops, guardK, cstep, Nat.blt]
  refine store_hs hs1 1 rfl [.bool false] rfl rfl (Nat.le_refl _) rfl (fun H2 l2 hs2 => ?_)
  refine rdCells_of (hs2.get 2 rfl) ?_
  refine ⟨_, rfl, ?_⟩
  refine vcg_loopR (α := LfS) tok (fun z => HS H none' ([(true, ko, rw' z.out), (true, b8, .cells true 1 [.bool z.more])] ++ statL (lfE t b7 b4 b3 ko kb kr n K)) z.H ∧ LfI t.nr (upB K) n (KfF K n) down z.out ∧ muF (bigF n) z.out ≤ muF (bigF n) out ∧ (z.more = true → muF (bigF n) z.out < muF (bigF n) out) ∧ (z.more = false → ∀ a b : Nat, a < z.a → b < n → LfN t.nr (upB K) z.out a b) ∧ z.a ≤ n)
    (fun z => [(3, pV b3), (4, pV b4), (7, pV b7), (8, pV b8), (15, .int .i64 (n : Int)), (16, .int .i64 (z.a : Int))]) (fun z => z.H) (fun z => n - z.a)
    ⟨H2, b8, out, false, 0⟩ ⟨hs2, lf, Nat.le_refl _, fun h => (by cases h), fun _ a b ha _ => absurd ha (Nat.not_lt_zero a), Nat.zero_le _⟩ (Or.inl ⟨⟨rfl, rfl, rfl, rfl, rfl, rfl, trivial⟩, rfl⟩) ?_
  clear hs1 hs2 hfx
  generalize hmu : muF (bigF n) out = mu0
  clear lf
  rintro ⟨H1, _, out, more, a⟩ ⟨hs1, lf, hm1, hm2, hm3, ha⟩
  simp only at hs1 lf hm1 hm2 hm3 ha
  refine And.intro (fun hc => ?_) (fun hc => ?_)
  rotate_left
  · have : a = n := by simp at hc; omega
    subst this
    refine rdCells_of (hs1.get 1 rfl) ?_
    refine ⟨_, rfl, ?_⟩
    refine new_hs hs1 (fun H2 b8' e2 l2 hs2 => ?_)
    simp only [putK, vops, guardK, cstep, Nat.blt]
    refine store_hs hs2 0 rfl [.bool more] rfl rfl (Nat.le_refl _) rfl (fun H3 l3 hs3 => ?_)
    refine ⟨⟨H3, b8', out, more, 0⟩, ⟨?_, lf, hm3⟩, ?_, Or.inl ⟨⟨rfl, rfl, rfl, rfl, trivial⟩, rfl⟩⟩
    · exact HS.pickE (A := [_, _, _]) (E := statL (lfE t b7 b4 b3 ko kb kr a K)) hs3 [1, 0] (by decide) (A' := [_, _]) rfl
    · simp only
      cases more with
      | true => have := hm2 rfl; simp; omega
      | false => simp; omega
  have hlt : a < n := by simpa using hc
  refine new_hs hs1 (fun H2 b9 e2 l2 hs2 => ?_)
  simp only [putK, vops, guardK, cstep, Nat.blt]
  refine store_hs hs2 0 rfl [.int .i64 (a : Int)] rfl rfl (Nat.le_refl _) rfl (fun H3 l3 hs3 => ?_)
  refine vcg_draw tok mx [0, 1, 3, 7, 0, 31, 63] [false, false, false, false, true, false, false] [0, 1, 2, 3, 4, 5, 6] (by kernel_rfl) ?_
  refine vopsO_gen (fun K0 hK0 => ?_)
  refine rdCells_of (hs3.get 5 rfl) ?_
  refine ⟨_, rfl, ?_⟩
  refine And.intro (by decide) (isCells_of (hs3.get 6 rfl) ?_)
  refine rdCells_of (hs3.get 6 rfl) ?_
  refine ⟨_, rfl, ?_⟩
  refine rdCells_of (hs3.get 0 rfl) ?_
  refine ⟨_, rfl, ?_⟩
  refine isCells_of (hs3.get 7 rfl) ⟨a, rfl, by omega, ?_⟩
  refine rdCells_of (hs3.get 7 rfl) ?_
  refine ⟨_, bls_get (by omega), ?_⟩
  refine hK0 _ _ ?_
  clear hK0 K0
  refine And.intro (fun hdo => ?_) (fun hdo => ?_)
  · have hdo : t.ds[a]! = true := hdo
    refine Or.inl ⟨((a + 1 : Nat) : Int), by simp, by unfold I64; omega, ?_⟩
    refine ⟨⟨H3, b8, out, more, a + 1⟩, ⟨hs3.tail, lf, hm1, hm2, fun hmo a' b ha' hb => ?_, hlt⟩, by simp only; omega, Or.inl ⟨⟨rfl, rfl, rfl, rfl, rfl, rfl, trivial⟩, rfl⟩⟩
    by_cases e : a' = a
    · subst e
      intro hmem
      have := (List.mem_filter.1 hmem).2
      simp [Nt.al, hdo] at this
    · exact hm3 hmo a' b (by simp only at ha'; omega) hb
  have hdo : t.ds[a]! = false := hdo
  refine vcg_draw tok mx [0, 1, 3, 7, 0, 31] [false, false, false, false, true, false] [0, 1, 2, 3, 4, 5] (by kernel_rfl) ?_
  refine vopsO_gen (fun K0 hK0 => ?_)
  refine rdCells_of (hs3.get 5 rfl) ?_
  refine ⟨_, rfl, ?_⟩
  refine And.intro (by decide) (isCells_of (hs3.get 6 rfl) ?_)
  refine rdCells_of (hs3.get 6 rfl) ?_
  refine ⟨_, rfl, ?_⟩
  refine rdCells_of (hs3.get 0 rfl) ?_
  refine ⟨_, rfl, ?_⟩
  refine x_near hok (at_of hof (hs3.get 11 rfl)) ⟨by omega, by omega⟩ (fun fv H6 hf l6 he6 => ?_)
  refine hK0 _ _ ?_
  clear hK0 K0
  have l6 : H6.length = H3.length + 2 := l6
  have hs6 := hs3.ext (by omega) he6
  obtain ⟨g, first, cap, rfl, hnear⟩ := hf
  refine new_hs (HS.start H6 none') (fun H7 lr e7 l7 hs7' => ?_)
  generalize hL : Blk.loop LoopState.ready none _ _ _ _ _ = L at hs7'
  have hs7 := hs6.call hs7' rfl
  have he7 : ∀ i, i < H6.length → bget H7 i = bget H6 i := fun i hi => hs7'.u.2 i hi (fun x => x)
  have hnin := near_in hok (x := (a : Int)) ⟨by omega, by omega⟩
  have hs8 : HS H none' ([(true, lr, L), (true, ko, rw' out), (true, b8, .cells true 1 [.bool more])] ++ statL ((b9, .cells true 1 [.int .i64 (a : Int)]) :: lfE t b7 b4 b3 ko kb kr n K)) H7 :=
    hs_low (A := [(true, lr, L), (true, ko, rw' out), (true, b8, _)]) (S := [(true, b9, _), (false, b7, _), (false, b4, _), (false, b3, _), (false, t.nb, t.nB), (false, t.dn, t.dB), (false, t.mb, t.mB), (false, kb, _), (false, kr, _), (false, t.b, t.bB)]) (hs7.pick [0, 2, 3, 1, 4, 5, 6, 7, 8, 9, 10, 11, 12] (by decide) rfl)
  have hR := roundsI_of (P := Tryz.prog) (l := lr) (Hs := H7) (o0 := fun j => j = lr ∨ j = ko ∨ j = b8) (xs := t.s.near a) (Z := fun _ => False)
    ((b9, .cells true 1 [.int .i64 (a : Int)]) :: lfE t b7 b4 b3 ko kb kr n K)
    (fun b' ⟨i', B, hi'⟩ => hs8.lt (i' + 3) (c := false) (B := B) (by
      show (statL ((b9, .cells true 1 [.int .i64 (a : Int)]) :: lfE t b7 b4 b3 ko kb kr n K))[i']? = _
      rw [List.getElem?_map, hi']; rfl))
    (fun p M => ∃ out' more', M = [(lr, L), (ko, rw' out'), (b8, .cells true 1 [.bool more'])] ∧ LfI t.nr (upB K) n (KfF K n) down out' ∧ muF (bigF n) out' ≤ mu0 ∧ (more' = true → muF (bigF n) out' < mu0) ∧ (more' = false → (∀ a' b : Nat, a' < a → b < n → LfN t.nr (upB K) out' a' b) ∧ ∀ b : Nat, (b : Int) ∈ p → LfN t.nr (upB K) out' a b))
    (fun {p y H4 M o} hp hN hq ho hs4 => by
      obtain ⟨out, more, rfl, lf, hm1, hm2, hm3⟩ := hq
      have hym : y ∈ t.s.near a := hp.subset (by simp)
      have hyr := hnin.1 y hym
      obtain ⟨b, rfl⟩ : ∃ k : Nat, y = k := ⟨y.toNat, by omega⟩
      have hbn : b < n := by omega
      have hol := lf.len
      have hbl : b < out.length := by omega
      have hal : a < out.length := by omega
      have hbd1 := Kf_bd hK hlt
      have hbd2 := Kf_bd hK hbn
      have hhi := lf.hi b hbn
      have hha := lf.hi a hlt
      have hlb := lf.lo b hbn
      have hla := lf.lo a hlt
      have hbig : ((bigF n : Nat) : Int) ≤ 1024 * 1024 + 3 * 1024 + 2 := by unfold bigF; omega
      -- nothing is to be done
      have same : (t.al a b = true → upB K a b = true → 0 ≤ out[b]! → 0 ≤ out[a]! ∧ out[a]! ≤ out[b]! + 1) → more = false → (∀ a' b : Nat, a' < a → b < n → LfN t.nr (upB K) out a' b) ∧ ∀ c : Nat, (c : Int) ∈ p ++ [(b : Int)] → LfN t.nr (upB K) out a c := fun hs hmo => by
        refine ⟨(hm3 hmo).1, fun c hc => ?_⟩
        rcases List.mem_append.1 hc with hc | hc
        · exact (hm3 hmo).2 c hc
        · have : c = b := by have : (c : Int) = b := by simpa using hc
                             omega
          subst this
          intro k1 k2 k3
          exact hs (List.mem_filter.1 k1).2 k2 k3
      subst hL
      have q0 := hs4.get 0 rfl
      refine round_of tok q0 ?_
      refine roundBegin_of q0 (fun H5 d1 d2 d3 => ?_)
      have hs5 := hs4.set 0 rfl d1 d2 d3
      refine vcg_draw tok mx [0, 0, 0, 7, 15, 31, 31, 31, 255, 511, 1023, 2047, 2047, 8191, 16383, 32767, 65535, 131071, 262143, 262143, 1048575, 2097151, 4194303, 8388607, 16777215, 16777215, 67108863, 134217727, 268435455, 16777215, 16777215, 1627389951, 3774873599, 8589934591, 17179869183, 34359738367] [false, true, true, false, false, false, true, true, false, false, false, false, true, false, false, false, false, false, false, true, false, false, false, false, false, true, false, false, false, true, true, true, true, false, false, false] [0, 1, 2, 3, 4, 5, 6, 7, 8, 9, 10, 11, 12, 13, 14, 15, 16, 17, 18, 19, 20, 21, 22, 23, 24, 25, 26, 27, 28, 29, 30, 31, 32, 33, 34, 35] (by kernel_rfl) ?_
      refine vopsO_gen (fun K0 hK0 => ?_)
      refine rdCells_of (hs5.get 6 rfl) ?_
      refine ⟨_, rfl, ?_⟩
      refine rdCells_of (hs5.get 3 rfl) ?_
      refine ⟨_, rfl, ?_⟩
      refine n56 ⟨hs5.get 7 rfl, hs5.get 8 rfl, hs5.get 9 rfl⟩ (by omega) (by omega) ?_
      by_cases hal1 : t.al a b = true
      rotate_left
      · have hal1 : t.al a b = false := by simpa using hal1
        repeat (first | refine And.intro (fun _ => ?_) (fun h => absurd h (by first | decide | (rw [hal1]; decide) | (rw [hup]; decide) | (rw [hb0]; decide) | (rw [ha0]; decide) | (rw [hc0]; decide))) | refine And.intro (fun h => absurd h (by first | decide | (rw [hal1]; decide) | (rw [hup]; decide) | (rw [hb0]; decide) | (rw [ha0]; decide) | (rw [hc0]; decide))) (fun _ => ?_))
        refine hK0 _ _ ?_
        clear hK0 K0
        repeat (first | refine And.intro (fun _ => ?_) (fun h => absurd h (by first | decide | (rw [hal1]; decide) | (rw [hup]; decide) | (rw [hb0]; decide) | (rw [ha0]; decide) | (rw [hc0]; decide))) | refine And.intro (fun h => absurd h (by first | decide | (rw [hal1]; decide) | (rw [hup]; decide) | (rw [hb0]; decide) | (rw [ha0]; decide) | (rw [hc0]; decide))) (fun _ => ?_))
        refine roundEnd_go (hs5.get 0 rfl) (fun H8 t1 t2 t3 => ?_)
        exact Or.inl ⟨rfl, _, ⟨out, more, rfl, lf, hm1, hm2, same (fun h => by rw [hal1] at h; cases h)⟩, hs5.set 0 rfl t1 t2 t3⟩
      repeat (first | refine And.intro (fun _ => ?_) (fun h => absurd h (by first | decide | (rw [hal1]; decide) | (rw [hup]; decide) | (rw [hb0]; decide) | (rw [ha0]; decide) | (rw [hc0]; decide))) | refine And.intro (fun h => absurd h (by first | decide | (rw [hal1]; decide) | (rw [hup]; decide) | (rw [hb0]; decide) | (rw [ha0]; decide) | (rw [hc0]; decide))) (fun _ => ?_))
      refine rdCells_of (hs5.get 5 rfl) ?_
      refine ⟨_, rfl, ?_⟩
      repeat (first | refine And.intro (fun _ => ?_) (fun h => absurd h (by first | decide | (rw [hal1]; decide) | (rw [hup]; decide) | (rw [hb0]; decide) | (rw [ha0]; decide) | (rw [hc0]; decide))) | refine And.intro (fun h => absurd h (by first | decide | (rw [hal1]; decide) | (rw [hup]; decide) | (rw [hb0]; decide) | (rw [ha0]; decide) | (rw [hc0]; decide))) (fun _ => ?_))
      refine rdCells_of (hs5.get 3 rfl) ?_
      refine ⟨_, rfl, ?_⟩
      repeat (first | refine And.intro (fun _ => ?_) (fun h => absurd h (by first | decide | (rw [hal1]; decide) | (rw [hup]; decide) | (rw [hb0]; decide) | (rw [ha0]; decide) | (rw [hc0]; decide))) | refine And.intro (fun h => absurd h (by first | decide | (rw [hal1]; decide) | (rw [hup]; decide) | (rw [hb0]; decide) | (rw [ha0]; decide) | (rw [hc0]; decide))) (fun _ => ?_))
      refine n57 (hs5.get 10 rfl) (hs5.get 11 rfl) hKl hlt hbn ?_
      by_cases hup : upB K a b = true
      rotate_left
      · have hup : upB K a b = false := by simpa using hup
        repeat (first | refine And.intro (fun _ => ?_) (fun h => absurd h (by first | decide | (rw [hal1]; decide) | (rw [hup]; decide) | (rw [hb0]; decide) | (rw [ha0]; decide) | (rw [hc0]; decide))) | refine And.intro (fun h => absurd h (by first | decide | (rw [hal1]; decide) | (rw [hup]; decide) | (rw [hb0]; decide) | (rw [ha0]; decide) | (rw [hc0]; decide))) (fun _ => ?_))
        refine hK0 _ _ ?_
        clear hK0 K0
        repeat (first | refine And.intro (fun _ => ?_) (fun h => absurd h (by first | decide | (rw [hal1]; decide) | (rw [hup]; decide) | (rw [hb0]; decide) | (rw [ha0]; decide) | (rw [hc0]; decide))) | refine And.intro (fun h => absurd h (by first | decide | (rw [hal1]; decide) | (rw [hup]; decide) | (rw [hb0]; decide) | (rw [ha0]; decide) | (rw [hc0]; decide))) (fun _ => ?_))
        refine roundEnd_go (hs5.get 0 rfl) (fun H8 t1 t2 t3 => ?_)
        exact Or.inl ⟨rfl, _, ⟨out, more, rfl, lf, hm1, hm2, same (fun _ h => by rw [hup] at h; cases h)⟩, hs5.set 0 rfl t1 t2 t3⟩
      repeat (first | refine And.intro (fun _ => ?_) (fun h => absurd h (by first | decide | (rw [hal1]; decide) | (rw [hup]; decide) | (rw [hb0]; decide) | (rw [ha0]; decide) | (rw [hc0]; decide))) | refine And.intro (fun h => absurd h (by first | decide | (rw [hal1]; decide) | (rw [hup]; decide) | (rw [hb0]; decide) | (rw [ha0]; decide) | (rw [hc0]; decide))) (fun _ => ?_))
      refine rdCells_of (hs5.get 4 rfl) ?_
      refine ⟨_, rfl, ?_⟩
      repeat (first | refine And.intro (fun _ => ?_) (fun h => absurd h (by first | decide | (rw [hal1]; decide) | (rw [hup]; decide) | (rw [hb0]; decide) | (rw [ha0]; decide) | (rw [hc0]; decide))) | refine And.intro (fun h => absurd h (by first | decide | (rw [hal1]; decide) | (rw [hup]; decide) | (rw [hb0]; decide) | (rw [ha0]; decide) | (rw [hc0]; decide))) (fun _ => ?_))
      refine isCells_of (hs5.get 1 rfl) ⟨b, rfl, by omega, ?_⟩
      repeat (first | refine And.intro (fun _ => ?_) (fun h => absurd h (by first | decide | (rw [hal1]; decide) | (rw [hup]; decide) | (rw [hb0]; decide) | (rw [ha0]; decide) | (rw [hc0]; decide))) | refine And.intro (fun h => absurd h (by first | decide | (rw [hal1]; decide) | (rw [hup]; decide) | (rw [hb0]; decide) | (rw [ha0]; decide) | (rw [hc0]; decide))) (fun _ => ?_))
      refine rdCells_of (hs5.get 1 rfl) (Ld_ints b out[b]! (by simp) (by simp [hbl]) ?_)
      by_cases h0 : 0 ≤ out[b]!
      rotate_left
      · have hb0 : decide (0 ≤ out[b]!) = false := decide_eq_false h0
        repeat (first | refine And.intro (fun _ => ?_) (fun h => absurd h (by first | decide | (rw [hal1]; decide) | (rw [hup]; decide) | (rw [hb0]; decide) | (rw [ha0]; decide) | (rw [hc0]; decide))) | refine And.intro (fun h => absurd h (by first | decide | (rw [hal1]; decide) | (rw [hup]; decide) | (rw [hb0]; decide) | (rw [ha0]; decide) | (rw [hc0]; decide))) (fun _ => ?_))
        refine hK0 _ _ ?_
        clear hK0 K0
        repeat (first | refine And.intro (fun _ => ?_) (fun h => absurd h (by first | decide | (rw [hal1]; decide) | (rw [hup]; decide) | (rw [hb0]; decide) | (rw [ha0]; decide) | (rw [hc0]; decide))) | refine And.intro (fun h => absurd h (by first | decide | (rw [hal1]; decide) | (rw [hup]; decide) | (rw [hb0]; decide) | (rw [ha0]; decide) | (rw [hc0]; decide))) (fun _ => ?_))
        refine roundEnd_go (hs5.get 0 rfl) (fun H8 t1 t2 t3 => ?_)
        exact Or.inl ⟨rfl, _, ⟨out, more, rfl, lf, hm1, hm2, same (fun _ _ h => absurd h h0)⟩, hs5.set 0 rfl t1 t2 t3⟩
      have hb0 : decide (0 ≤ out[b]!) = true := decide_eq_true h0
      repeat (first | refine And.intro (fun _ => ?_) (fun h => absurd h (by first | decide | (rw [hal1]; decide) | (rw [hup]; decide) | (rw [hb0]; decide) | (rw [ha0]; decide) | (rw [hc0]; decide))) | refine And.intro (fun h => absurd h (by first | decide | (rw [hal1]; decide) | (rw [hup]; decide) | (rw [hb0]; decide) | (rw [ha0]; decide) | (rw [hc0]; decide))) (fun _ => ?_))
      refine rdCells_of (hs5.get 4 rfl) ?_
      refine ⟨_, rfl, ?_⟩
      repeat (first | refine And.intro (fun _ => ?_) (fun h => absurd h (by first | decide | (rw [hal1]; decide) | (rw [hup]; decide) | (rw [hb0]; decide) | (rw [ha0]; decide) | (rw [hc0]; decide))) | refine And.intro (fun h => absurd h (by first | decide | (rw [hal1]; decide) | (rw [hup]; decide) | (rw [hb0]; decide) | (rw [ha0]; decide) | (rw [hc0]; decide))) (fun _ => ?_))
      refine rdCells_of (hs5.get 3 rfl) ?_
      refine ⟨_, rfl, ?_⟩
      repeat (first | refine And.intro (fun _ => ?_) (fun h => absurd h (by first | decide | (rw [hal1]; decide) | (rw [hup]; decide) | (rw [hb0]; decide) | (rw [ha0]; decide) | (rw [hc0]; decide))) | refine And.intro (fun h => absurd h (by first | decide | (rw [hal1]; decide) | (rw [hup]; decide) | (rw [hb0]; decide) | (rw [ha0]; decide) | (rw [hc0]; decide))) (fun _ => ?_))
      refine isCells_of (hs5.get 1 rfl) ⟨a, rfl, by omega, ?_⟩
      repeat (first | refine And.intro (fun _ => ?_) (fun h => absurd h (by first | decide | (rw [hal1]; decide) | (rw [hup]; decide) | (rw [hb0]; decide) | (rw [ha0]; decide) | (rw [hc0]; decide))) | refine And.intro (fun h => absurd h (by first | decide | (rw [hal1]; decide) | (rw [hup]; decide) | (rw [hb0]; decide) | (rw [ha0]; decide) | (rw [hc0]; decide))) (fun _ => ?_))
      refine rdCells_of (hs5.get 1 rfl) (Ld_ints a out[a]! (by simp) (by simp [hal]) ?_)
      by_cases h1 : out[a]! < 0
      · have ha0 : decide (out[a]! < 0) = true := decide_eq_true h1
        repeat (first | refine And.intro (fun _ => ?_) (fun h => absurd h (by first | decide | (rw [hal1]; decide) | (rw [hup]; decide) | (rw [hb0]; decide) | (rw [ha0]; decide) | (rw [hc0]; decide))) | refine And.intro (fun h => absurd h (by first | decide | (rw [hal1]; decide) | (rw [hup]; decide) | (rw [hb0]; decide) | (rw [ha0]; decide) | (rw [hc0]; decide))) (fun _ => ?_))
        refine hK0 _ _ ?_
        clear hK0 K0
        repeat (first | refine And.intro (fun _ => ?_) (fun h => absurd h (by first | decide | (rw [hal1]; decide) | (rw [hup]; decide) | (rw [hb0]; decide) | (rw [ha0]; decide) | (rw [hc0]; decide))) | refine And.intro (fun h => absurd h (by first | decide | (rw [hal1]; decide) | (rw [hup]; decide) | (rw [hb0]; decide) | (rw [ha0]; decide) | (rw [hc0]; decide))) (fun _ => ?_))
        refine vcg_draw tok mx [0, 0, 0, 0, 12, 28, 60, 127, 255, 511] [false, true, true, true, true, true, true, false, false, false] [0, 1, 2, 3, 4, 5, 6, 7, 8, 9] (by kernel_rfl) ?_
        refine vopsO_gen (fun K0 hK0 => ?_)
        refine rdCells_of (hs5.get 4 rfl) ?_
        refine ⟨_, rfl, ?_⟩
        refine rdCells_of (hs5.get 3 rfl) ?_
        refine ⟨_, rfl, ?_⟩
        refine rdCells_of (hs5.get 4 rfl) ?_
        refine ⟨_, rfl, ?_⟩
        refine isCells_of (hs5.get 1 rfl) ⟨b, rfl, by omega, ?_⟩
        refine rdCells_of (hs5.get 1 rfl) (Ld_ints b out[b]! (by simp) (by simp [hbl]) ?_)
        refine Or.inl ⟨out[b]! + 1, rfl, by unfold I64; omega, ?_⟩
        refine isCells_of (hs5.get 1 rfl) ⟨a, rfl, by omega, ?_⟩
        simp only [putK, vopsO, opGet, stepQ, bAt, guardK, cstep, Nat.blt]
        refine store_hs hs5 1 rfl (ints (out.set a (out[b]! + 1))) rfl rfl (by simp; omega) (set_int _ _ _) (fun H6 l6 hs6 => ?_)
        simp only [putK, vopsO, opGet, stepQ, bAt, guardK, cstep, Nat.blt]
        refine store_hs hs6 2 rfl [.bool true] rfl rfl (Nat.le_refl _) rfl (fun H7 l7 hs7 => ?_)
        refine hK0 _ _ ?_
        clear hK0 K0
        have hst := lf.step hKu hlt hbn (List.mem_filter.2 ⟨hym, by rw [Int.toNat_natCast]; exact hal1⟩) hup h0 (.inl h1)
        have hmu' := muF_set (B := bigF n) (l := out) (i := a) (v := out[b]! + 1) hal (by omega) (by omega) (.inl h1)
        refine roundEnd_go (hs7.get 0 rfl) (fun H8 t1 t2 t3 => ?_)
        exact Or.inl ⟨rfl, _, ⟨_, true, rfl, hst, by omega, fun _ => by omega, fun h => by cases h⟩, hs7.set 0 rfl t1 t2 t3⟩
      have ha0 : decide (out[a]! < 0) = false := decide_eq_false h1
      repeat (first | refine And.intro (fun _ => ?_) (fun h => absurd h (by first | decide | (rw [hal1]; decide) | (rw [hup]; decide) | (rw [hb0]; decide) | (rw [ha0]; decide) | (rw [hc0]; decide))) | refine And.intro (fun h => absurd h (by first | decide | (rw [hal1]; decide) | (rw [hup]; decide) | (rw [hb0]; decide) | (rw [ha0]; decide) | (rw [hc0]; decide))) (fun _ => ?_))
      refine rdCells_of (hs5.get 4 rfl) ?_
      refine ⟨_, rfl, ?_⟩
      repeat (first | refine And.intro (fun _ => ?_) (fun h => absurd h (by first | decide | (rw [hal1]; decide) | (rw [hup]; decide) | (rw [hb0]; decide) | (rw [ha0]; decide) | (rw [hc0]; decide))) | refine And.intro (fun h => absurd h (by first | decide | (rw [hal1]; decide) | (rw [hup]; decide) | (rw [hb0]; decide) | (rw [ha0]; decide) | (rw [hc0]; decide))) (fun _ => ?_))
      refine isCells_of (hs5.get 1 rfl) ⟨b, rfl, by omega, ?_⟩
      repeat (first | refine And.intro (fun _ => ?_) (fun h => absurd h (by first | decide | (rw [hal1]; decide) | (rw [hup]; decide) | (rw [hb0]; decide) | (rw [ha0]; decide) | (rw [hc0]; decide))) | refine And.intro (fun h => absurd h (by first | decide | (rw [hal1]; decide) | (rw [hup]; decide) | (rw [hb0]; decide) | (rw [ha0]; decide) | (rw [hc0]; decide))) (fun _ => ?_))
      refine rdCells_of (hs5.get 1 rfl) (Ld_ints b out[b]! (by simp) (by simp [hbl]) ?_)
      repeat (first | refine And.intro (fun _ => ?_) (fun h => absurd h (by first | decide | (rw [hal1]; decide) | (rw [hup]; decide) | (rw [hb0]; decide) | (rw [ha0]; decide) | (rw [hc0]; decide))) | refine And.intro (fun h => absurd h (by first | decide | (rw [hal1]; decide) | (rw [hup]; decide) | (rw [hb0]; decide) | (rw [ha0]; decide) | (rw [hc0]; decide))) (fun _ => ?_))
      refine Or.inl ⟨out[b]! + 1, rfl, by unfold I64; omega, ?_⟩
      repeat (first | refine And.intro (fun _ => ?_) (fun h => absurd h (by first | decide | (rw [hal1]; decide) | (rw [hup]; decide) | (rw [hb0]; decide) | (rw [ha0]; decide) | (rw [hc0]; decide))) | refine And.intro (fun h => absurd h (by first | decide | (rw [hal1]; decide) | (rw [hup]; decide) | (rw [hb0]; decide) | (rw [ha0]; decide) | (rw [hc0]; decide))) (fun _ => ?_))
      refine rdCells_of (hs5.get 4 rfl) ?_
      refine ⟨_, rfl, ?_⟩
      repeat (first | refine And.intro (fun _ => ?_) (fun h => absurd h (by first | decide | (rw [hal1]; decide) | (rw [hup]; decide) | (rw [hb0]; decide) | (rw [ha0]; decide) | (rw [hc0]; decide))) | refine And.intro (fun h => absurd h (by first | decide | (rw [hal1]; decide) | (rw [hup]; decide) | (rw [hb0]; decide) | (rw [ha0]; decide) | (rw [hc0]; decide))) (fun _ => ?_))
      refine rdCells_of (hs5.get 3 rfl) ?_
      refine ⟨_, rfl, ?_⟩
      repeat (first | refine And.intro (fun _ => ?_) (fun h => absurd h (by first | decide | (rw [hal1]; decide) | (rw [hup]; decide) | (rw [hb0]; decide) | (rw [ha0]; decide) | (rw [hc0]; decide))) | refine And.intro (fun h => absurd h (by first | decide | (rw [hal1]; decide) | (rw [hup]; decide) | (rw [hb0]; decide) | (rw [ha0]; decide) | (rw [hc0]; decide))) (fun _ => ?_))
      refine isCells_of (hs5.get 1 rfl) ⟨a, rfl, by omega, ?_⟩
      repeat (first | refine And.intro (fun _ => ?_) (fun h => absurd h (by first | decide | (rw [hal1]; decide) | (rw [hup]; decide) | (rw [hb0]; decide) | (rw [ha0]; decide) | (rw [hc0]; decide))) | refine And.intro (fun h => absurd h (by first | decide | (rw [hal1]; decide) | (rw [hup]; decide) | (rw [hb0]; decide) | (rw [ha0]; decide) | (rw [hc0]; decide))) (fun _ => ?_))
      refine rdCells_of (hs5.get 1 rfl) (Ld_ints a out[a]! (by simp) (by simp [hal]) ?_)
      by_cases h2 : out[b]! + 1 < out[a]!
      · have hc0 : decide (out[b]! + 1 < out[a]!) = true := decide_eq_true h2
        repeat (first | refine And.intro (fun _ => ?_) (fun h => absurd h (by first | decide | (rw [hal1]; decide) | (rw [hup]; decide) | (rw [hb0]; decide) | (rw [ha0]; decide) | (rw [hc0]; decide))) | refine And.intro (fun h => absurd h (by first | decide | (rw [hal1]; decide) | (rw [hup]; decide) | (rw [hb0]; decide) | (rw [ha0]; decide) | (rw [hc0]; decide))) (fun _ => ?_))
        refine hK0 _ _ ?_
        clear hK0 K0
        repeat (first | refine And.intro (fun _ => ?_) (fun h => absurd h (by first | decide | (rw [hal1]; decide) | (rw [hup]; decide) | (rw [hb0]; decide) | (rw [ha0]; decide) | (rw [hc0]; decide))) | refine And.intro (fun h => absurd h (by first | decide | (rw [hal1]; decide) | (rw [hup]; decide) | (rw [hb0]; decide) | (rw [ha0]; decide) | (rw [hc0]; decide))) (fun _ => ?_))
        refine vcg_draw tok mx [0, 0, 0, 0, 12, 28, 60, 127, 255, 511] [false, true, true, true, true, true, true, false, false, false] [0, 1, 2, 3, 4, 5, 6, 7, 8, 9] (by kernel_rfl) ?_
        refine vopsO_gen (fun K0 hK0 => ?_)
        refine rdCells_of (hs5.get 4 rfl) ?_
        refine ⟨_, rfl, ?_⟩
        refine rdCells_of (hs5.get 3 rfl) ?_
        refine ⟨_, rfl, ?_⟩
        refine rdCells_of (hs5.get 4 rfl) ?_
        refine ⟨_, rfl, ?_⟩
        refine isCells_of (hs5.get 1 rfl) ⟨b, rfl, by omega, ?_⟩
        refine rdCells_of (hs5.get 1 rfl) (Ld_ints b out[b]! (by simp) (by simp [hbl]) ?_)
        refine Or.inl ⟨out[b]! + 1, rfl, by unfold I64; omega, ?_⟩
        refine isCells_of (hs5.get 1 rfl) ⟨a, rfl, by omega, ?_⟩
        simp only [putK, vopsO, opGet, stepQ, bAt, guardK, cstep, Nat.blt]
        refine store_hs hs5 1 rfl (ints (out.set a (out[b]! + 1))) rfl rfl (by simp; omega) (set_int _ _ _) (fun H6 l6 hs6 => ?_)
        simp only [putK, vopsO, opGet, stepQ, bAt, guardK, cstep, Nat.blt]
        refine store_hs hs6 2 rfl [.bool true] rfl rfl (Nat.le_refl _) rfl (fun H7 l7 hs7 => ?_)
        refine hK0 _ _ ?_
        clear hK0 K0
        have hst := lf.step hKu hlt hbn (List.mem_filter.2 ⟨hym, by rw [Int.toNat_natCast]; exact hal1⟩) hup h0 (.inr h2)
        have hmu' := muF_set (B := bigF n) (l := out) (i := a) (v := out[b]! + 1) hal (by omega) (by omega) (.inr h2)
        refine roundEnd_go (hs7.get 0 rfl) (fun H8 t1 t2 t3 => ?_)
        exact Or.inl ⟨rfl, _, ⟨_, true, rfl, hst, by omega, fun _ => by omega, fun h => by cases h⟩, hs7.set 0 rfl t1 t2 t3⟩
      · have hc0 : decide (out[b]! + 1 < out[a]!) = false := decide_eq_false h2
        repeat (first | refine And.intro (fun _ => ?_) (fun h => absurd h (by first | decide | (rw [hal1]; decide) | (rw [hup]; decide) | (rw [hb0]; decide) | (rw [ha0]; decide) | (rw [hc0]; decide))) | refine And.intro (fun h => absurd h (by first | decide | (rw [hal1]; decide) | (rw [hup]; decide) | (rw [hb0]; decide) | (rw [ha0]; decide) | (rw [hc0]; decide))) (fun _ => ?_))
        refine hK0 _ _ ?_
        clear hK0 K0
        repeat (first | refine And.intro (fun _ => ?_) (fun h => absurd h (by first | decide | (rw [hal1]; decide) | (rw [hup]; decide) | (rw [hb0]; decide) | (rw [ha0]; decide) | (rw [hc0]; decide))) | refine And.intro (fun h => absurd h (by first | decide | (rw [hal1]; decide) | (rw [hup]; decide) | (rw [hb0]; decide) | (rw [ha0]; decide) | (rw [hc0]; decide))) (fun _ => ?_))
        refine roundEnd_go (hs5.get 0 rfl) (fun H8 t1 t2 t3 => ?_)
        exact Or.inl ⟨rfl, _, ⟨out, more, rfl, lf, hm1, hm2, same (fun _ _ _ => ⟨by omega, by omega⟩)⟩, hs5.set 0 rfl t1 t2 t3⟩
      )
  have k1 := hs3.lt 1 rfl
  have k2 := hs3.lt 2 rfl
  have k6 := hs3.lt 11 rfl
  have n1 := hs3.ne 11 1 rfl rfl (by decide)
  have n2 := hs3.ne 11 2 rfl rfl (by decide)
  have hoo : ∀ j, (j = lr ∨ j = ko ∨ j = b8) ↔ keyIn [(lr, L), (ko, rw' out), (b8, .cells true 1 [.bool more])] j := by
    intro j
    constructor
    · rintro (rfl | rfl | rfl)
      · exact ⟨0, _, rfl⟩
      · exact ⟨1, _, rfl⟩
      · exact ⟨2, _, rfl⟩
    · rintro ⟨i', B, hi'⟩
      match i', hi' with
      | 0, hi' => simp at hi'; exact .inl hi'.1.symm
      | 1, hi' => simp at hi'; exact .inr (.inl hi'.1.symm)
      | 2, hi' => simp at hi'; exact .inr (.inr hi'.1.symm)
      | i' + 3, hi' => simp at hi'
  have hoc : ∀ j, (j = lr ∨ j = ko ∨ j = b8) → none' j ∨ H.length ≤ j := fun j hj => by
    rcases hj with rfl | rfl | rfl
    · exact (hs8.g (i := 0) rfl).2 rfl
    · exact (hs8.g (i := 1) rfl).2 rfl
    · exact (hs8.g (i := 2) rfl).2 rfl
  refine hnear (o := fun j => j = lr ∨ j = ko ∨ j = b8) ?_ hR.rounds ⟨[], rfl, [(lr, L), (ko, rw' out), (b8, .cells true 1 [.bool more])], ⟨out, more, rfl, lf, hm1, hm2, fun hmo => ⟨fun a' b ha' hb => hm3 hmo a' b ha' hb, fun b hb => by simp at hb⟩⟩, hoo, hs_refl (M := [(lr, L), (ko, rw' out), (b8, .cells true 1 [.bool more])]) (S := ((b9, .cells true 1 [.int .i64 (a : Int)]) :: lfE t b7 b4 b3 ko kb kr n K)) hs8 hoo⟩ ?_ ?_
  · intro j hj
    have hj' : j < H6.length := by rcases hj with rfl | hj <;> omega
    refine ⟨?_, he7 j hj'⟩
    show ¬ (j = lr ∨ j = ko ∨ j = b8)
    rcases hj with rfl | hj <;> omega
  · rintro o' H5 ⟨ps, e, M, ⟨out', more', rfl, lf', q1, q2, q3⟩, ho, hs5⟩
    have e := ints_inj' e
    subst e
    have hs5 := hs8.comp hs5 hoc
    subst hL
    refine rangeEnd_of (hs5.get 0 rfl) (by decide) (fun H7 r1 r2 => ?_)
    have hs7 := hs5.forget r1 r2
    clear hR hnear
    refine Or.inl ⟨((a + 1 : Nat) : Int), by simp, by unfold I64; omega, ?_⟩
    refine ⟨⟨H7, b8, out', more', a + 1⟩, ⟨HS.pickE (A := [_, _, _]) (E := statL (lfE t b7 b4 b3 ko kb kr n K)) hs7 [0, 1] (by decide) (A' := [_, _]) rfl, lf', q1, q2, fun hmo a' b ha' hb => ?_, hlt⟩, by simp only; omega, Or.inl ⟨⟨rfl, rfl, rfl, rfl, rfl, rfl, trivial⟩, rfl⟩⟩
    by_cases e : a' = a
    · subst e
      intro hmem
      exact (q3 hmo).2 b (List.mem_filter.1 hmem).1 hmem
    · exact (q3 hmo).1 a' b (by simp only at ha'; omega) hb
  · intro H' h; exact h.elim
end Go.Af.Tryz
namespace Go.Af.Tryz
open Go

theorem Nt.al_sym (t : Nt) (x y : Nat) : t.al x y = t.al y x := by
  unfold Nt.al
  rw [Int.min_comm, Int.max_comm]
  cases t.ds[x]! <;> cases t.ds[y]! <;> rfl
theorem nr_mem {t : Nt} (ok : t.Ok) {n : Nat} (hn : t.ds.length = n) {a b : Nat} (ha : a < n) : (b : Int) ∈ t.nr a ↔ (b : Int) ∈ lnkL t.s a n ∧ t.al a b = true := by
  have hsw := ok.sw
  unfold Nt.nr nrF
  rw [List.mem_filter, Int.toNat_natCast, near_mem ok.ok (by omega) ha, ← lnkL_mem]
theorem nr_sym {t : Nt} (ok : t.Ok) {n : Nat} (hn : t.ds.length = n) {a b : Nat} (ha : a < n) (hb : b < n) (h : (b : Int) ∈ t.nr a) : (a : Int) ∈ t.nr b := by
  have hsw := ok.sw
  obtain ⟨h1, h2⟩ := (nr_mem ok hn ha).1 h
  refine (nr_mem ok hn hb).2 ⟨?_, by rw [t.al_sym]; exact h2⟩
  obtain ⟨h3, h4⟩ := lnkL_mem.1 h1
  rw [lnk_sym ok.ok (by omega) (by omega)] at h4
  exact lnkL_mem.2 ⟨by omega, h4⟩
/-- What holds at the source, and over every link, holds wherever a search came. -/
theorem dst_ind {nr : Nat → List Int} {n src : Nat} {D : List Int} (d : Dst nr n src D) {P : Nat → Prop} (h0 : P src) (hs : ∀ w z : Nat, w < n → z < n → 0 ≤ D[w]! → (z : Int) ∈ nr w → P w → P z) : ∀ z : Nat, z < n → 0 ≤ D[z]! → P z := by
  have key : ∀ (k z : Nat), z < n → D[z]! = k → P z := by
    intro k
    induction k with
    | zero =>
      intro z hz hk
      rcases d.back z hz (by omega) with rfl | ⟨w, h1, h2, h3, h4⟩
      · exact h0
      · omega
    | succ k ih =>
      intro z hz hk
      rcases d.back z hz (by omega) with rfl | ⟨w, h1, h2, h3, h4⟩
      · exact h0
      · exact hs w z h1 hz h3 h2 (ih w h1 (by omega))
  exact fun z hz h0 => key D[z]!.toNat z hz (by omega)
/-- The switch with the least number of a part. -/
def rootF (D : List Int) (n : Nat) : Nat := ((partL D n)[0]!).toNat
theorem root_ok {nr : Nat → List Int} {n x : Nat} {D : List Int} (d : Dst nr n x D) : 0 < (partL D n).length ∧ (partL D n)[0]! = (rootF D n : Int) ∧ rootF D n < n ∧ 0 ≤ D[rootF D n]! := by
  have hx : (x : Int) ∈ partL D n := partL_mem.2 ⟨by have := d.hsrc; omega, by rw [Int.toNat_natCast, d.s0]; exact Int.le_refl _⟩
  have hp : 0 < (partL D n).length := List.length_pos_of_mem hx
  have h1 := partL_mem.1 (mem_get! hp)
  exact ⟨hp, by unfold rootF; omega, by unfold rootF; omega, h1.2⟩
variable {t : Nt} {n x y : Nat} {Dx K down both : List Int}
/-- The ranks of a part reach all of it. -/
theorem rank_x (ok : t.Ok) (hn : t.ds.length = n) (dx : Dst t.nr n x Dx) (dk : Dst t.nr n (rootF Dx n) K) : 0 ≤ K[x]! := by
  obtain ⟨_, _, r1, r2⟩ := root_ok dx
  refine dst_ind dx (P := fun z => 0 ≤ K[z]! → 0 ≤ K[x]!) (fun h => h) (fun w z hw hz _ hm hp h => hp ?_) _ r1 r2 (by rw [dk.s0]; exact Int.le_refl _)
  have := (dk.fwd z hz h w (nr_sym ok hn hw hz hm)).1
  rwa [Int.toNat_natCast] at this
/-- What the search downwards asks. -/
abbrev nrD (t : Nt) (K : List Int) : Nat → List Int := nrF t.s (fun b a => t.al a b && !upB K a b)
theorem nrD_mem (ok : t.Ok) (hn : t.ds.length = n) {a b : Nat} (ha : a < n) (hb : b < n) : (a : Int) ∈ nrD t K b ↔ (b : Int) ∈ t.nr a ∧ upB K a b = false := by
  have hsw := ok.sw
  unfold nrD nrF
  rw [List.mem_filter, Int.toNat_natCast, near_mem ok.ok (by omega) hb, ← lnkL_mem]
  constructor
  · rintro ⟨h1, h2⟩
    simp only [Bool.and_eq_true, Bool.not_eq_true'] at h2
    refine ⟨nr_sym ok hn hb ha ((nr_mem ok hn hb).2 ⟨h1, by rw [t.al_sym]; exact h2.1⟩), h2.2⟩
  · rintro ⟨h1, h2⟩
    have h3 := (nr_mem ok hn hb).1 (nr_sym ok hn ha hb h1)
    refine ⟨h3.1, ?_⟩
    show (t.al a b && !upB K a b) = true
    rw [t.al_sym, h3.2, h2]; rfl
/-- In a part there is a lawful path from each switch to each other one. -/
theorem both_pos (ok : t.Ok) (hn : t.ds.length = n) {r : Nat} (dk : Dst t.nr n r K) (dd : Dst (nrD t K) n y down) (lf : Lft t.nr (upB K) n down both) (hy : 0 ≤ K[y]!) : ∀ z : Nat, z < n → 0 ≤ K[z]! → 0 ≤ both[z]! := by
  have hyn := dd.hsrc
  have hr := dk.hsrc
  have up1 : ∀ w z : Nat, K[z]! = K[w]! + 1 → upB K w z = false ∧ upB K z w = true := fun w z h => by
    refine ⟨?_, upB_iff.2 (.inl (by omega))⟩
    rw [← Bool.not_eq_true, upB_iff]; omega
  have h1 : 0 ≤ down[r]! := by
    have key : ∀ (k z : Nat), z < n → K[z]! = k → 0 ≤ down[z]! → 0 ≤ down[r]! := by
      intro k
      induction k with
      | zero =>
        intro z hz hk h
        rcases dk.back z hz (by omega) with rfl | ⟨w, _, _, _, _⟩
        · exact h
        · omega
      | succ k ih =>
        intro z hz hk h
        rcases dk.back z hz (by omega) with rfl | ⟨w, h1, h2, h3, h4⟩
        · exact h
        · have := (dd.fwd z hz h w ((nrD_mem ok hn h1 hz).2 ⟨h2, (up1 w z h4).1⟩)).1
          rw [Int.toNat_natCast] at this
          exact ih w h1 (by omega) this
    exact key K[y]!.toNat y hyn (by omega) (by rw [dd.s0]; exact Int.le_refl _)
  have key : ∀ (k z : Nat), z < n → K[z]! = k → 0 ≤ both[z]! := by
    intro k
    induction k with
    | zero =>
      intro z hz hk
      rcases dk.back z hz (by omega) with rfl | ⟨w, _, _, _, _⟩
      · exact (lf.le _ hz h1).1
      · omega
    | succ k ih =>
      intro z hz hk
      rcases dk.back z hz (by omega) with rfl | ⟨w, h1', h2, h3, h4⟩
      · exact (lf.le _ hz h1).1
      · exact (lf.fwd z w hz h1' (nr_sym ok hn h1' hz h2) (up1 w z h4).2 (ih w h1' (by omega))).1
  exact fun z hz h => key K[z]!.toNat z hz (by omega)
/-- Nothing is longer than there are ways. -/
theorem both_le (lf : Lft t.nr (upB K) n down both) (hKf : ∀ a b : Nat, a < n → b < n → upB K a b = true → (K[b]! + 1) * n + b < (K[a]! + 1) * n + a) (hd : ∀ z : Nat, z < n → down[z]! ≤ n) (hK : ∀ z : Nat, z < n → 0 ≤ (K[z]! + 1) * (n : Int) + z) : ∀ z : Nat, z < n → both[z]! ≤ (K[z]! + 1) * n + z + n := by
  have key : ∀ (k z : Nat), z < n → both[z]! = k → both[z]! ≤ (K[z]! + 1) * n + z + n := by
    intro k
    induction k with
    | zero => intro z hz hk; have := hK z hz; omega
    | succ k ih =>
      intro z hz hk
      rcases lf.back z hz (by omega) with h | ⟨b, h1, h2, h3, h4, h5⟩
      · have := hd z hz; have := hK z hz; omega
      · have := ih b h1 (by omega)
        have := hKf z b hz h1 h3
        omega
  intro z hz
  by_cases h : 0 ≤ both[z]!
  · exact key both[z]!.toNat z hz (by omega)
  · have := hK z hz; omega
/-- The path that is taken. -/
abbrev dpF (t : Nt) (n : Nat) (K down both : List Int) (m at' : Nat) (r : Bool) : List Int := detF (fun a => lnkL t.s a n) t.nr (upB K) down both m at' r
theorem nx_eq (ok : t.Ok) (hn : t.ds.length = n) {a b : Nat} {r : Bool} {left : Int} (ha : a < n) (hb : (b : Int) ∈ lnkL t.s a n) :
    nxB t.nr (upB K) down both a r left (b : Int) = (t.al a b && ((upB K a b && r && decide (both[b]! = left - 1)) || (!upB K a b && decide (0 ≤ down[b]!) && decide (down[b]! = left - 1)))) := by
  unfold nxB
  simp only [Int.toNat_natCast]
  congr 1
  cases hal : t.al a b with
  | true => exact decide_eq_true ((nr_mem ok hn ha).2 ⟨hb, hal⟩)
  | false => exact decide_eq_false (fun h => by rw [((nr_mem ok hn ha).1 h).2] at hal; cases hal)
theorem find_at {p : Int → Bool} : ∀ {l : List Int} {i : Nat}, i < l.length → (∀ k, k < i → p l[k]! = false) → p l[i]! = true → l.find? p = some l[i]!
  | a :: l, 0, _, _, h => by simp only [List.getElem!_cons_zero] at h ⊢; simp [List.find?_cons, h]
  | a :: l, i + 1, hi, hk, h => by
    have h0 := hk 0 (by omega)
    simp only [List.getElem!_cons_zero] at h0
    simp only [List.getElem!_cons_succ] at h ⊢
    rw [List.find?_cons, h0]
    exact find_at (by simpa using hi) (fun k hk' => by have := hk (k + 1) (by omega); simpa using this) h
theorem find_no {p : Int → Bool} {l : List Int} {v : Int} (h : l.find? p = some v) (hk : ∀ k, k < l.length → p l[k]! = false) : False := by
  have h1 := List.find?_some h
  obtain ⟨k, hk', rfl⟩ := List.getElem_of_mem (List.mem_of_find?_eq_some h)
  have := hk k hk'
  rw [getElem!_pos l k hk', h1] at this
  cases this
end Go.Af.Tryz
namespace Go.Af.Tryz
open Go Go.Proofs
attribute [local irreducible] awp ACall ACallX AYield AInvoke newSlice isCells rdCells wrCells aAppend rangeEnd roundBegin roundEnd

structure DtL where
  H : List Blk
  kp : Nat
  P : List Int
  at' : Nat
  r : Bool
  m : Nat
abbrev dtE (t : Nt) (b3 b9 kr b10 kd kb n : Nat) (K down both : List Int) : List (Nat × Blk) :=
  [(b3, .cells true 1 [pV t.nb]), (t.nb, t.nB), (t.dn, t.dB), (t.mb, t.mB), (t.b, t.bB), (b9, .cells true 1 [sv kr n]), (kr, rw' K), (b10, .cells true 1 [fnW 57 [] [pV b9]]), (kd, rw' down), (kb, rw' both)]
abbrev dtB (t : Nt) (b3 : Nat) : List (Bool × Nat × Blk) := [(false, b3, .cells true 1 [pV t.nb]), (false, t.nb, t.nB), (false, t.dn, t.dB), (false, t.mb, t.mB), (false, t.b, t.bB)]

set_option maxHeartbeats 8000000 in
theorem gDet {H : List Blk} {R : Value → List Blk → Prop} {t : Nt} {x y n : Nat} (ok : t.Ok) (hn : t.ds.length = n) (hx : x < n) (hy : y < n) (hE : HS H none' (statL [(t.nb, t.nB), (t.dn, t.dB), (t.mb, t.mB), (t.b, t.bB)]) H)
    (hdown : (t.ds[x]! = true ∨ t.ds[y]! = true) → ∀ H', HS H none' [] H' → R (.tuple ⟨[.slice none 0 0, .int .i64 6]⟩) H')
    (hlost : ∀ H' Dx K, t.ds[x]! = false → t.ds[y]! = false → Dst t.nr n x Dx → Dst t.nr n (rootF Dx n) K → K[y]! < 0 → HS H none' [] H' → R (.tuple ⟨[.slice none 0 0, .int .i64 19]⟩) H')
    (hgood : ∀ H' k Dx K down both, t.ds[x]! = false → t.ds[y]! = false → Dst t.nr n x Dx → Dst t.nr n (rootF Dx n) K → 0 ≤ K[y]! → Dst (nrD t K) n y down → Lft t.nr (upB K) n down both → HS H none' [(true, k, rw' ((x : Int) :: dpF t n K down both both[x]!.toNat x true))] H' → R (.tuple ⟨[sv k (both[x]!.toNat + 1), .int .i64 0]⟩) H') : ACall Tryz.prog 20 [pV t.nb, .int .i64 (x : Int), .int .i64 (y : Int)] H R := by
  have hok := ok.ok
  have hof := ok.of'
  have hsw := ok.sw
  have hbd := sw_bd hok
  have hnn : n * n ≤ 1024 * 1024 := Nat.mul_le_mul (by omega) (by omega)
  refine acall_vcg tok Tryz.call20 Tryz.func20 rfl Tryz.ntmps20 rfl (by simp) ?_
  refine new_hs hE (fun H1 b3 e1 l1 hs1 => ?_)
  refine rdCells_of (hs1.get 0 rfl) ?_
  refine ⟨_, rfl, ?_⟩
  refine And.intro (by decide) ?_
  refine newS_hs hs1 (fun H2 j e2 l2 hs2 => ?_)
  refine n54 (l := [(x : Int), (y : Int)]) (hs2.get 2 rfl) (hs2.get 0 rfl) (by simp) ?_
  rw [hn, knF_two, if_pos ⟨⟨by omega, by omega⟩, ⟨by omega, by omega⟩⟩]
  refine vcg_seqG (fun Q0 q1 q2 q3 => ?_)
  refine And.intro (fun h => absurd h (by decide)) (fun _ => ?_)
  refine q1 _ _ ?_
  clear q1 q2 q3 Q0
  have hs3 := hs2.tail
  clear hs2 hs1
  refine vcg_seqG (fun Q0 q1 q2 q3 => ?_)
  refine vops_gen (fun K0 hK0 => ?_)
  refine rdCells_of (hs3.get 0 rfl) ?_
  refine ⟨_, rfl, ?_⟩
  refine And.intro (by decide) (isCells_of (hs3.get 1 rfl) ?_)
  refine rdCells_of (hs3.get 1 rfl) ?_
  refine ⟨_, rfl, ?_⟩
  refine isCells_of (hs3.get 2 rfl) ⟨x, rfl, by omega, ?_⟩
  refine rdCells_of (hs3.get 2 rfl) ?_
  refine ⟨_, bls_get (by omega), ?_⟩
  cases hdx : t.ds[x]! with
  | true =>
    repeat (first | refine And.intro (fun _ => ?_) (fun h => absurd h (by first | decide | (rw [hal1]; decide) | (rw [hup]; decide) | (rw [hb0]; decide) | (rw [ha0]; decide) | (rw [hc0]; decide))) | refine And.intro (fun h => absurd h (by first | decide | (rw [hal1]; decide) | (rw [hup]; decide) | (rw [hb0]; decide) | (rw [ha0]; decide) | (rw [hc0]; decide))) (fun _ => ?_))
    refine hK0 _ _ ?_
    repeat (first | refine And.intro (fun _ => ?_) (fun h => absurd h (by first | decide | (rw [hal1]; decide) | (rw [hup]; decide) | (rw [hb0]; decide) | (rw [ha0]; decide) | (rw [hc0]; decide))) | refine And.intro (fun h => absurd h (by first | decide | (rw [hal1]; decide) | (rw [hup]; decide) | (rw [hb0]; decide) | (rw [ha0]; decide) | (rw [hc0]; decide))) (fun _ => ?_))
    refine q3 _ _ ?_
    exact hdown (.inl hdx) _ (hs3.pick [] (by decide) rfl)
  | false =>
  repeat (first | refine And.intro (fun _ => ?_) (fun h => absurd h (by first | decide | (rw [hal1]; decide) | (rw [hup]; decide) | (rw [hb0]; decide) | (rw [ha0]; decide) | (rw [hc0]; decide))) | refine And.intro (fun h => absurd h (by first | decide | (rw [hal1]; decide) | (rw [hup]; decide) | (rw [hb0]; decide) | (rw [ha0]; decide) | (rw [hc0]; decide))) (fun _ => ?_))
  refine rdCells_of (hs3.get 0 rfl) ?_
  refine ⟨_, rfl, ?_⟩
  repeat (first | refine And.intro (fun _ => ?_) (fun h => absurd h (by first | decide | (rw [hal1]; decide) | (rw [hup]; decide) | (rw [hb0]; decide) | (rw [ha0]; decide) | (rw [hc0]; decide))) | refine And.intro (fun h => absurd h (by first | decide | (rw [hal1]; decide) | (rw [hup]; decide) | (rw [hb0]; decide) | (rw [ha0]; decide) | (rw [hc0]; decide))) (fun _ => ?_))
  refine And.intro (by decide) (isCells_of (hs3.get 1 rfl) ?_)
  repeat (first | refine And.intro (fun _ => ?_) (fun h => absurd h (by first | decide | (rw [hal1]; decide) | (rw [hup]; decide) | (rw [hb0]; decide) | (rw [ha0]; decide) | (rw [hc0]; decide))) | refine And.intro (fun h => absurd h (by first | decide | (rw [hal1]; decide) | (rw [hup]; decide) | (rw [hb0]; decide) | (rw [ha0]; decide) | (rw [hc0]; decide))) (fun _ => ?_))
  refine rdCells_of (hs3.get 1 rfl) ?_
  refine ⟨_, rfl, ?_⟩
  repeat (first | refine And.intro (fun _ => ?_) (fun h => absurd h (by first | decide | (rw [hal1]; decide) | (rw [hup]; decide) | (rw [hb0]; decide) | (rw [ha0]; decide) | (rw [hc0]; decide))) | refine And.intro (fun h => absurd h (by first | decide | (rw [hal1]; decide) | (rw [hup]; decide) | (rw [hb0]; decide) | (rw [ha0]; decide) | (rw [hc0]; decide))) (fun _ => ?_))
  refine isCells_of (hs3.get 2 rfl) ⟨y, rfl, by omega, ?_⟩
  repeat (first | refine And.intro (fun _ => ?_) (fun h => absurd h (by first | decide | (rw [hal1]; decide) | (rw [hup]; decide) | (rw [hb0]; decide) | (rw [ha0]; decide) | (rw [hc0]; decide))) | refine And.intro (fun h => absurd h (by first | decide | (rw [hal1]; decide) | (rw [hup]; decide) | (rw [hb0]; decide) | (rw [ha0]; decide) | (rw [hc0]; decide))) (fun _ => ?_))
  refine rdCells_of (hs3.get 2 rfl) ?_
  refine ⟨_, bls_get (by omega), ?_⟩
  cases hdy : t.ds[y]! with
  | true =>
    repeat (first | refine And.intro (fun _ => ?_) (fun h => absurd h (by first | decide | (rw [hal1]; decide) | (rw [hup]; decide) | (rw [hb0]; decide) | (rw [ha0]; decide) | (rw [hc0]; decide))) | refine And.intro (fun h => absurd h (by first | decide | (rw [hal1]; decide) | (rw [hup]; decide) | (rw [hb0]; decide) | (rw [ha0]; decide) | (rw [hc0]; decide))) (fun _ => ?_))
    refine hK0 _ _ ?_
    repeat (first | refine And.intro (fun _ => ?_) (fun h => absurd h (by first | decide | (rw [hal1]; decide) | (rw [hup]; decide) | (rw [hb0]; decide) | (rw [ha0]; decide) | (rw [hc0]; decide))) | refine And.intro (fun h => absurd h (by first | decide | (rw [hal1]; decide) | (rw [hup]; decide) | (rw [hb0]; decide) | (rw [ha0]; decide) | (rw [hc0]; decide))) (fun _ => ?_))
    refine q3 _ _ ?_
    exact hdown (.inr hdy) _ (hs3.pick [] (by decide) rfl)
  | false =>
  repeat (first | refine And.intro (fun _ => ?_) (fun h => absurd h (by first | decide | (rw [hal1]; decide) | (rw [hup]; decide) | (rw [hb0]; decide) | (rw [ha0]; decide) | (rw [hc0]; decide))) | refine And.intro (fun h => absurd h (by first | decide | (rw [hal1]; decide) | (rw [hup]; decide) | (rw [hb0]; decide) | (rw [ha0]; decide) | (rw [hc0]; decide))) (fun _ => ?_))
  refine hK0 _ _ ?_
  clear hK0 K0
  repeat (first | refine And.intro (fun _ => ?_) (fun h => absurd h (by first | decide | (rw [hal1]; decide) | (rw [hup]; decide) | (rw [hb0]; decide) | (rw [ha0]; decide) | (rw [hc0]; decide))) | refine And.intro (fun h => absurd h (by first | decide | (rw [hal1]; decide) | (rw [hup]; decide) | (rw [hb0]; decide) | (rw [ha0]; decide) | (rw [hc0]; decide))) (fun _ => ?_))
  refine q1 _ _ ?_
  clear q1 q2 q3 Q0
  have hs3 : HS H none' (dtB t b3) H2 := hs_low (A := []) (S := [(true, b3, _), (false, t.nb, t.nB), (false, t.dn, t.dB), (false, t.mb, t.mB), (false, t.b, t.bB)]) hs3
  refine vcg_drawR tok mx [0, 1, 3, 7, 0, 0, 48, 112, 240, 0, 512, 2047, 0, 8191] [5, 7] [.op 0 [], .op 1 [], .op 2 [], .op 3 [], .op 4 [], .op 5 [], .op 9 [], .op 10 [], .res 12, .op 6 [0, 1, 2, 3, 9, 10], .op 7 [], .op 8 [], .op 11 [], .op 12 [], .op 13 []] (by kernel_rfl) ?_
  refine vopsR_gen (fun K0 hK0 => ?_)
  refine rdCells_of (hs3.get 0 rfl) ?_
  refine ⟨_, rfl, ?_⟩
  refine And.intro (by decide) (isCells_of (hs3.get 1 rfl) ?_)
  refine rdCells_of (hs3.get 1 rfl) ?_
  refine ⟨_, rfl, ?_⟩
  refine rdCells_of (hs3.get 0 rfl) ?_
  refine ⟨_, rfl, ?_⟩
  refine rdCells_of (hs3.get 0 rfl) ?_
  refine ⟨_, rfl, ?_⟩
  refine And.intro rfl ?_
  refine res_hs hs3 (fun H4 b9 e9 l9 hs4 => ?_)
  rw [← e9]
  refine g55 ok hn hx (HS.re (hs4.pick [5, 2, 3, 4] (by decide) (L' := (false, t.b, t.bB) :: statL t.e) rfl) none') (fun H5 kq Dx hdx5 hs5 => ?_)
  have hs5 := hs4.call hs5 rfl
  refine ⟨⟨⟨hs5.get 1 rfl, trivial⟩, ?_⟩, ?_⟩
  · refine ⟨?_, ?_, ?_, ?_, ?_, ?_, trivial⟩
    · exact rdCells_of (hs5.get 2 rfl) ⟨_, rfl, rfl⟩
    · rfl
    · exact And.intro (by decide) (isCells_of (hs5.get 3 rfl) rfl)
    · exact rdCells_of (hs5.get 3 rfl) ⟨_, rfl, rfl⟩
    · exact rdCells_of (hs5.get 2 rfl) ⟨_, rfl, rfl⟩
    · rfl
  obtain ⟨r1, r2, r3, r4⟩ := root_ok hdx5
  refine isCells_of (hs5.get 0 rfl) ⟨0, rfl, r1, ?_⟩
  refine rdCells_of (hs5.get 0 rfl) (Ld_ints 0 (partL Dx n)[0]! (by simp) (by simp [r1]) ?_)
  rw [r2]
  refine srch (g := 56) (fs := [pV t.nb]) (cs := []) (al := t.al) (E := t.e) (n := n) (fun {H' R x y} hx hy hp hr => n56 (Nt.E.of hp) (by omega) (by omega) hr) ok.ok ok.of' (by omega) r3 (HS.re (hs5.pick [6, 3, 4, 5] (by decide) (L' := (false, t.b, t.bB) :: statL t.e) rfl) none') (fun H6 kr K hdk hs6 => ?_)
  have hs6 := (hs5.tail).call hs6 rfl
  refine ⟨⟨⟨hs6.get 1 rfl, trivial⟩, trivial⟩, ?_⟩
  refine store_hs hs6 1 rfl [sv kr n] rfl rfl (Nat.le_refl _) rfl (fun H7 l7 hs7 => ?_)
  refine ⟨⟨trivial, trivial⟩, ?_⟩
  refine hK0 _ _ ?_
  clear hK0 K0 hs5 hs6
  have hKl := hdk.len
  refine vcg_seqG (fun Q0 q1 q2 q3 => ?_)
  refine rdCells_of (hs7.get 1 rfl) ?_
  refine ⟨_, rfl, ?_⟩
  refine isCells_of (hs7.get 0 rfl) ⟨y, rfl, by omega, ?_⟩
  refine rdCells_of (hs7.get 0 rfl) (Ld_ints y K[y]! (by simp) (by simp [show y < K.length by omega]) ?_)
  by_cases hky : K[y]! < 0
  · refine And.intro (fun _ => ?_) (fun h => absurd h (by rw [decide_eq_true hky]; decide))
    refine q3 _ _ ?_
    exact hlost _ Dx K hdx hdy hdx5 hdk hky (hs7.pick [] (by decide) rfl)
  refine And.intro (fun h => absurd h (by rw [decide_eq_false hky]; decide)) (fun _ => ?_)
  refine q1 _ _ ?_
  clear q1 q2 q3 Q0
  have hky : 0 ≤ K[y]! := by omega
  refine vops_gen (fun K0 hK0 => ?_)
  refine new_hs hs7 (fun H8 b10 e10 l10 hs8 => ?_)
  simp only [putK, vops, guardK, cstep, Nat.blt]
  refine store_hs hs8 0 rfl [fnW 57 [] [pV b9]] rfl rfl (Nat.le_refl _) rfl (fun H9 l9' hs9 => ?_)
  refine hK0 _ _ ?_
  clear hs8 hs7 hK0 K0
  have hs9 : HS H none' (statL [(b10, .cells true 1 [fnW 57 [] [pV b9]]), (kr, rw' K), (b9, .cells true 1 [sv kr n]), (b3, .cells true 1 [pV t.nb]), (t.nb, t.nB), (t.dn, t.dB), (t.mb, t.mB), (t.b, t.bB)]) H9 :=
    hs_low (A := []) (S := [(true, b10, _), (true, kr, _), (true, b9, _), (false, b3, _), (false, t.nb, _), (false, t.dn, _), (false, t.mb, _), (false, t.b, _)]) hs9
  refine vops_gen (fun K0 hK0 => ?_)
  refine rdCells_of (hs9.get 3 rfl) ?_
  refine ⟨_, rfl, ?_⟩
  refine And.intro (by decide) (isCells_of (hs9.get 4 rfl) ?_)
  refine rdCells_of (hs9.get 4 rfl) ?_
  refine ⟨_, rfl, ?_⟩
  refine srch (g := 58) (fs := []) (cs := [pV b3, pV b10]) (al := fun b a => t.al a b && !upB K a b) (E := [(b3, .cells true 1 [pV t.nb]), (b10, .cells true 1 [fnW 57 [] [pV b9]]), (b9, .cells true 1 [sv kr n]), (kr, rw' K), (t.nb, t.nB), (t.dn, t.dB), (t.mb, t.mB)]) (n := n)
    (fun {H' R x y} hx hy hp hr => n58 (kb := b9) (kr := kr) (n := n) (Nt.E.of (fun p h => hp p (by simp only [List.mem_cons, List.not_mem_nil, or_false] at h ⊢; rcases h with rfl | rfl | rfl <;> simp))) hn (hp _ (.head _)) (hp _ (.tail _ (.head _))) (hp _ (.tail _ (.tail _ (.head _)))) (hp _ (.tail _ (.tail _ (.tail _ (.head _))))) hKl hy hx hr) ok.ok ok.of' (by omega) hy
    (HS.re (hs9.pick [7, 3, 0, 2, 1, 4, 5, 6] (by decide) (L' := (false, t.b, t.bB) :: statL [(b3, .cells true 1 [pV t.nb]), (b10, .cells true 1 [fnW 57 [] [pV b9]]), (b9, .cells true 1 [sv kr n]), (kr, rw' K), (t.nb, t.nB), (t.dn, t.dB), (t.mb, t.mB)]) rfl) none') (fun H10 kd down hdd hs10 => ?_)
  refine hK0 _ _ ?_
  clear hK0 K0
  have hs10 := hs9.call hs10 rfl
  have hdl := hdd.len
  have hkb : ∀ z : Nat, z < n → -1 ≤ K[z]! ∧ K[z]! ≤ n := fun z hz => ⟨hdk.neg z hz, hdk.le z hz⟩
  refine vops_gen (fun K0 hK0 => ?_)
  refine rdCells_of (hs10.get 4 rfl) ?_
  refine ⟨_, rfl, ?_⟩
  refine rdCells_of (hs10.get 1 rfl) ?_
  refine ⟨_, rfl, ?_⟩
  refine g59 (kb := b9) (kr := kr) (kd := kd) (n := n) ok hn (by omega) hKl hkb hdl (fun z hz => ⟨hdd.neg z hz, hdd.le z hz⟩) (hs10.get 0 rfl)
    (HS.re (hs10.pick [5, 6, 7, 3, 2, 8] (by decide) (L' := statL [(t.nb, t.nB), (t.dn, t.dB), (t.mb, t.mB), (b9, .cells true 1 [sv kr n]), (kr, rw' K), (t.b, t.bB)]) rfl) none') (fun H11 kb both hlf hs11 => ?_)
  refine hK0 _ _ ?_
  clear hK0 K0
  have hs11 := hs10.call hs11 rfl
  clear hs10 hs9
  have hbl := hlf.len
  refine And.intro (by decide) ?_
  refine newS_hs hs11 (fun H12 kp ep lp hs12 => ?_)
  have hxk := rank_x ok hn hdx5 hdk
  have hb0 : 0 ≤ both[x]! := both_pos ok hn hdk hdd hlf hky x hx hxk
  have hKf : ∀ a b : Nat, a < n → b < n → upB K a b = true → (K[b]! + 1) * n + b < (K[a]! + 1) * n + a := fun a b ha hb h => Kf_up hkb ha hb h
  have hble := both_le hlf hKf (fun z hz => hdd.le z hz) (fun z hz => (Kf_bd hkb hz).1) x hx
  have hkbx := (Kf_bd hkb hx).2
  obtain ⟨m0, hm0⟩ : ∃ m : Nat, both[x]! = m := ⟨both[x]!.toNat, by omega⟩
  have hm0b : m0 ≤ 1024 * 1024 + 3 * 1024 + 2 := by
    have : ((bigF n : Nat) : Int) ≤ 1024 * 1024 + 3 * 1024 + 2 := by unfold bigF; omega
    have : KfF K n x = (K[x]! + 1) * n + x := rfl
    omega
  have hrd : ∀ a b : Nat, a < n → b < n → (a : Int) ∈ nrD t K b → (b : Int) ∈ t.nr a ∧ upB K a b = false := fun a b ha hb h => (nrD_mem ok hn ha hb).1 h
  have hnr : ∀ a b : Nat, a < n → (b : Int) ∈ t.nr a → (b : Int) ∈ lnkL t.s a n := fun a b ha h => ((nr_mem ok hn ha).1 h).1
  have hin : ∀ a : Nat, a < n → ∀ b ∈ lnkL t.s a n, 0 ≤ b ∧ b < n := fun a _ b hb => (lnkL_mem.1 hb).1
  have hgood := fun H' k hs => hgood H' k Dx K down both hdx hdy hdx5 hdk hky hdd hlf hs
  rw [hm0, Int.toNat_natCast] at hgood
  clear hlost hdown
  have hs13 : HS H none' ([(true, kp, rw' [(x : Int)])] ++ statL (dtE t b3 b9 kr b10 kd kb n K down both)) H12 :=
    hs_low (A := [(true, kp, rw' [(x : Int)])]) (S := [(false, b3, _), (false, t.nb, _), (false, t.dn, _), (false, t.mb, _), (false, t.b, _), (false, b9, _), (false, kr, _), (false, b10, _), (true, kd, _), (true, kb, _)]) (hs12.pick [0, 6, 7, 8, 9, 10, 5, 4, 3, 2, 1] (by decide) rfl)
  clear hs12 hs11
  refine vcg_loopR (α := DtL) tok (fun z => HS H none' ([(true, z.kp, rw' z.P)] ++ statL (dtE t b3 b9 kr b10 kd kb n K down both)) z.H ∧ DetI down both n z.at' z.r z.m ∧ z.P ++ dpF t n K down both z.m z.at' z.r = (x : Int) :: dpF t n K down both m0 x true ∧ z.P.length + z.m = m0 + 1 ∧ 0 < z.P.length)
    (fun | ⟨_, kp, Pp, a', rr, _⟩ => [(2, .int .i64 (y : Int)), (3, pV b3), (10, pV b10), (11, sv kd n), (12, sv kb n), (13, sv kp Pp.length), (14, .bool rr), (15, .int .i64 (a' : Int))]) (fun | ⟨H', _, _, _, _, _⟩ => H') (fun z => z.m)
    ⟨H12, kp, [(x : Int)], x, true, m0⟩ ⟨hs13, ⟨hx, hm0⟩, rfl, by simp only [List.length_singleton]; omega, by simp⟩ (Or.inl ⟨⟨rfl, rfl, rfl, rfl, rfl, rfl, rfl, rfl, trivial⟩, rfl⟩) ?_
  clear hs13 hb0 hm0 hble hkbx
  rintro ⟨H1, kp, Pt, at', r, m⟩ ⟨hs1, hdi, hpt, hlen, hpl⟩
  simp only at hs1 hdi hpt hlen hpl
  have hat := hdi.1
  have hz := det_zero hdd hlf hdi
  refine And.intro (fun hc => ?_) (fun hc => ?_)
  rotate_left
  · have : at' = y := by have : (at' : Int) = y := by simpa using hc
                         omega
    have hm : m = 0 := hz.1 this
    subst hm
    have e : Pt = (x : Int) :: dpF t n K down both m0 x true := by rw [← hpt]; simp [detF]
    have el : Pt.length = m0 + 1 := by omega
    have := hgood H1 kp (by rw [← e]; exact hs1.pick [0] (by decide) rfl)
    have : R (.tuple ⟨[sv kp Pt.length, .int .i64 0]⟩) H1 := by rw [el]; exact this
    exact this
  have hne : at' ≠ y := by have : ¬ (at' : Int) = y := by simpa using hc
                           omega
  obtain ⟨m, rfl⟩ : ∃ k, m = k + 1 := ⟨m - 1, by have : m ≠ 0 := fun h => hne (hz.2 h); omega⟩
  have hdl' : at' < down.length := by omega
  have hbl' : at' < both.length := by omega
  have hsn : t.s.sw = n := by omega
  have hLl := lnkL_len t.s at' n
  obtain ⟨bq, f1, f2, f3, f4, f5⟩ := det_step hdd hlf hnr hin hrd hdi
  refine isCells_of (hs1.get 9 rfl) ⟨at', rfl, hat, ?_⟩
  refine rdCells_of (hs1.get 9 rfl) (Ld_ints at' down[at']! (by simp) (by simp [hdl']) ?_)
  cases r with
  | false =>
    have hv : down[at']! = ((m + 1 : Nat) : Int) := hdi.2
    rw [hv]
    refine And.intro (fun h => absurd h (by decide)) (fun _ => ?_)
    refine vops_gen (fun K0 hK0 => ?_)
    refine rdCells_of (hs1.get 1 rfl) ?_
    refine ⟨_, rfl, ?_⟩
    refine And.intro (by decide) (isCells_of (hs1.get 2 rfl) ?_)
    refine rdCells_of (hs1.get 2 rfl) ?_
    refine ⟨_, rfl, ?_⟩
    refine x_near_sorted (x := (at' : Int)) hok (at_of hof (hs1.get 5 rfl)) (hs1.lt 5 rfl) ⟨by omega, by omega⟩ (fun fv H2 hcall => ?_)
    refine hcall.mono ?_
    rw [near_srt hok hsn hat]
    rintro _ H3 ⟨jn, rfl, hs2⟩
    have hs2 := hs1.call hs2 rfl
    refine hK0 _ _ ?_
    clear hK0 K0 hcall
    refine vcg_loopR (α := List Blk × Nat) tok (fun z => z.1 = H3 ∧ z.2 ≤ (lnkL t.s at' n).length ∧ ∀ k, k < z.2 → nxB t.nr (upB K) down both at' false ((m + 1 : Nat) : Int) (lnkL t.s at' n)[k]! = false)
      (fun | (_, k) => [(2, .int .i64 (y : Int)), (3, pV b3), (10, pV b10), (11, sv kd n), (12, sv kb n), (13, sv kp Pt.length), (14, .bool false), (15, .int .i64 (at' : Int)), (16, .int .i64 ((m + 1 : Nat) : Int)), (94, sv jn (lnkL t.s at' n).length), (95, .int .i64 ((lnkL t.s at' n).length : Int)), (96, .int .i64 (k : Int))]) (fun | (H', _) => H') (fun z => (lnkL t.s at' n).length - z.2)
      (H3, 0) ⟨rfl, Nat.zero_le _, fun k hk => absurd hk (Nat.not_lt_zero k)⟩ (Or.inl ⟨⟨rfl, rfl, rfl, rfl, rfl, rfl, rfl, rfl, rfl, rfl, rfl, rfl, trivial⟩, rfl⟩) ?_
    rintro ⟨_, i⟩ ⟨hH, hi, hno⟩
    simp only at hH hi hno
    have hH := hH.symm
    subst hH
    refine And.intro (fun hc => ?_) (fun hc => ?_)
    rotate_left
    · exact (find_no f1 (fun k hk => hno k (by simp at hc; omega))).elim
    have hlt : i < (lnkL t.s at' n).length := by simpa using hc
    have hbm := mem_get! hlt
    obtain ⟨hb1, _⟩ := lnkL_mem.1 hbm
    obtain ⟨b, hbv⟩ : ∃ b : Nat, (lnkL t.s at' n)[i]! = b := ⟨((lnkL t.s at' n)[i]!).toNat, by omega⟩
    rw [hbv] at hbm hb1
    have hbn : b < n := by omega
    have hnx := nx_eq (K := K) (down := down) (both := both) (r := false) (left := ((m + 1 : Nat) : Int)) ok hn hat hbm
    rw [show ((m + 1 : Nat) : Int) - 1 = m by omega] at hnx
    refine isCells_of (hs2.get 0 rfl) ⟨i, rfl, hlt, ?_⟩
    refine rdCells_of (hs2.get 0 rfl) (Ld_ints i (lnkL t.s at' n)[i]! (by simp) (by simp [hlt]) ?_)
    rw [hbv]
    refine rdCells_of (hs2.get 2 rfl) ?_
    refine ⟨_, rfl, ?_⟩
    refine n56 ⟨hs2.get 3 rfl, hs2.get 4 rfl, hs2.get 5 rfl⟩ (by omega) (by omega) ?_
    have hc1 : True := trivial
    have hc2 : True := trivial
    have hc3 : True := trivial
    have hup : True := trivial
    by_cases hal : t.al at' b = true
    rotate_left
    · have hal : t.al at' b = false := by simpa using hal
      repeat (first | refine And.intro (fun _ => ?_) (fun h => absurd h (by first | decide | (rw [hal]; decide) | (rw [hup]; decide) | (rw [hc1]; decide) | (rw [hc2]; decide) | (rw [hc3]; decide))) | refine And.intro (fun h => absurd h (by first | decide | (rw [hal]; decide) | (rw [hup]; decide) | (rw [hc1]; decide) | (rw [hc2]; decide) | (rw [hc3]; decide))) (fun _ => ?_))
      refine Or.inl ⟨((i + 1 : Nat) : Int), by simp, by unfold I64; omega, ?_⟩
      refine ⟨(H3, i + 1), ⟨rfl, hlt, fun k hk => ?_⟩, by simp only; omega, Or.inl ⟨⟨rfl, rfl, rfl, rfl, rfl, rfl, rfl, rfl, rfl, rfl, rfl, rfl, trivial⟩, rfl⟩⟩
      by_cases ek : k = i
      · subst ek
        rw [hbv, hnx]
        simp only [hal, Bool.true_and, Bool.and_true, Bool.false_and, Bool.and_false, Bool.not_true, Bool.not_false, Bool.or_false, Bool.false_or, Bool.or_true, Bool.true_or]
      · exact hno k (by simp only at hk; omega)
    repeat (first | refine And.intro (fun _ => ?_) (fun h => absurd h (by first | decide | (rw [hal]; decide) | (rw [hup]; decide) | (rw [hc1]; decide) | (rw [hc2]; decide) | (rw [hc3]; decide))) | refine And.intro (fun h => absurd h (by first | decide | (rw [hal]; decide) | (rw [hup]; decide) | (rw [hc1]; decide) | (rw [hc2]; decide) | (rw [hc3]; decide))) (fun _ => ?_))
    clear hup
    refine rdCells_of (hs2.get 9 rfl) ?_
    refine ⟨_, rfl, ?_⟩
    refine n57 (hs2.get 7 rfl) (hs2.get 8 rfl) hKl hat hbn ?_
    refine vops_gen (fun K0 hK0 => hK0 _ _ ?_)
    refine vops_gen (fun K0 hK0 => ?_)
    by_cases hup : upB K at' b = true
    · skip
      repeat (first | refine And.intro (fun _ => ?_) (fun h => absurd h (by first | decide | (rw [hal]; decide) | (rw [hup]; decide) | (rw [hc1]; decide) | (rw [hc2]; decide) | (rw [hc3]; decide))) | refine And.intro (fun h => absurd h (by first | decide | (rw [hal]; decide) | (rw [hup]; decide) | (rw [hc1]; decide) | (rw [hc2]; decide) | (rw [hc3]; decide))) (fun _ => ?_))
      refine hK0 _ _ ?_
      clear hK0 K0
      repeat (first | refine And.intro (fun _ => ?_) (fun h => absurd h (by first | decide | (rw [hal]; decide) | (rw [hup]; decide) | (rw [hc1]; decide) | (rw [hc2]; decide) | (rw [hc3]; decide))) | refine And.intro (fun h => absurd h (by first | decide | (rw [hal]; decide) | (rw [hup]; decide) | (rw [hc1]; decide) | (rw [hc2]; decide) | (rw [hc3]; decide))) (fun _ => ?_))
      refine Or.inl ⟨((i + 1 : Nat) : Int), by simp, by unfold I64; omega, ?_⟩
      refine ⟨(H3, i + 1), ⟨rfl, hlt, fun k hk => ?_⟩, by simp only; omega, Or.inl ⟨⟨rfl, rfl, rfl, rfl, rfl, rfl, rfl, rfl, rfl, rfl, rfl, rfl, trivial⟩, rfl⟩⟩
      by_cases ek : k = i
      · subst ek
        rw [hbv, hnx]
        simp only [hal, hup, Bool.true_and, Bool.and_true, Bool.false_and, Bool.and_false, Bool.not_true, Bool.not_false, Bool.or_false, Bool.false_or, Bool.or_true, Bool.true_or]
      · exact hno k (by simp only at hk; omega)
    have hup : upB K at' b = false := by simpa using hup
    repeat (first | refine And.intro (fun _ => ?_) (fun h => absurd h (by first | decide | (rw [hal]; decide) | (rw [hup]; decide) | (rw [hc1]; decide) | (rw [hc2]; decide) | (rw [hc3]; decide))) | refine And.intro (fun h => absurd h (by first | decide | (rw [hal]; decide) | (rw [hup]; decide) | (rw [hc1]; decide) | (rw [hc2]; decide) | (rw [hc3]; decide))) (fun _ => ?_))
    refine isCells_of (hs2.get 10 rfl) ⟨b, rfl, by omega, ?_⟩
    repeat (first | refine And.intro (fun _ => ?_) (fun h => absurd h (by first | decide | (rw [hal]; decide) | (rw [hup]; decide) | (rw [hc1]; decide) | (rw [hc2]; decide) | (rw [hc3]; decide))) | refine And.intro (fun h => absurd h (by first | decide | (rw [hal]; decide) | (rw [hup]; decide) | (rw [hc1]; decide) | (rw [hc2]; decide) | (rw [hc3]; decide))) (fun _ => ?_))
    refine rdCells_of (hs2.get 10 rfl) (Ld_ints b down[b]! (by simp) (by simp [show b < down.length by omega]) ?_)
    by_cases h0 : 0 ≤ down[b]!
    rotate_left
    · have hc2 : decide (0 ≤ down[b]!) = false := decide_eq_false h0
      repeat (first | refine And.intro (fun _ => ?_) (fun h => absurd h (by first | decide | (rw [hal]; decide) | (rw [hup]; decide) | (rw [hc1]; decide) | (rw [hc2]; decide) | (rw [hc3]; decide))) | refine And.intro (fun h => absurd h (by first | decide | (rw [hal]; decide) | (rw [hup]; decide) | (rw [hc1]; decide) | (rw [hc2]; decide) | (rw [hc3]; decide))) (fun _ => ?_))
      refine hK0 _ _ ?_
      clear hK0 K0
      repeat (first | refine And.intro (fun _ => ?_) (fun h => absurd h (by first | decide | (rw [hal]; decide) | (rw [hup]; decide) | (rw [hc1]; decide) | (rw [hc2]; decide) | (rw [hc3]; decide))) | refine And.intro (fun h => absurd h (by first | decide | (rw [hal]; decide) | (rw [hup]; decide) | (rw [hc1]; decide) | (rw [hc2]; decide) | (rw [hc3]; decide))) (fun _ => ?_))
      refine Or.inl ⟨((i + 1 : Nat) : Int), by simp, by unfold I64; omega, ?_⟩
      refine ⟨(H3, i + 1), ⟨rfl, hlt, fun k hk => ?_⟩, by simp only; omega, Or.inl ⟨⟨rfl, rfl, rfl, rfl, rfl, rfl, rfl, rfl, rfl, rfl, rfl, rfl, trivial⟩, rfl⟩⟩
      by_cases ek : k = i
      · subst ek
        rw [hbv, hnx]
        simp only [hal, hup, hc2, Bool.true_and, Bool.and_true, Bool.false_and, Bool.and_false, Bool.not_true, Bool.not_false, Bool.or_false, Bool.false_or, Bool.or_true, Bool.true_or]
      · exact hno k (by simp only at hk; omega)
    have hc2 : decide (0 ≤ down[b]!) = true := decide_eq_true h0
    repeat (first | refine And.intro (fun _ => ?_) (fun h => absurd h (by first | decide | (rw [hal]; decide) | (rw [hup]; decide) | (rw [hc1]; decide) | (rw [hc2]; decide) | (rw [hc3]; decide))) | refine And.intro (fun h => absurd h (by first | decide | (rw [hal]; decide) | (rw [hup]; decide) | (rw [hc1]; decide) | (rw [hc2]; decide) | (rw [hc3]; decide))) (fun _ => ?_))
    refine isCells_of (hs2.get 10 rfl) ⟨b, rfl, by omega, ?_⟩
    repeat (first | refine And.intro (fun _ => ?_) (fun h => absurd h (by first | decide | (rw [hal]; decide) | (rw [hup]; decide) | (rw [hc1]; decide) | (rw [hc2]; decide) | (rw [hc3]; decide))) | refine And.intro (fun h => absurd h (by first | decide | (rw [hal]; decide) | (rw [hup]; decide) | (rw [hc1]; decide) | (rw [hc2]; decide) | (rw [hc3]; decide))) (fun _ => ?_))
    refine rdCells_of (hs2.get 10 rfl) (Ld_ints b down[b]! (by simp) (by simp [show b < down.length by omega]) ?_)
    repeat (first | refine And.intro (fun _ => ?_) (fun h => absurd h (by first | decide | (rw [hal]; decide) | (rw [hup]; decide) | (rw [hc1]; decide) | (rw [hc2]; decide) | (rw [hc3]; decide))) | refine And.intro (fun h => absurd h (by first | decide | (rw [hal]; decide) | (rw [hup]; decide) | (rw [hc1]; decide) | (rw [hc2]; decide) | (rw [hc3]; decide))) (fun _ => ?_))
    refine Or.inl ⟨(m : Int), by push_cast; omega, by unfold I64; omega, ?_⟩
    by_cases hq : down[b]! = (m : Int)
    · have hc3 : decide (down[b]! = (m : Int)) = true := decide_eq_true hq
      repeat (first | refine And.intro (fun _ => ?_) (fun h => absurd h (by first | decide | (rw [hal]; decide) | (rw [hup]; decide) | (rw [hc1]; decide) | (rw [hc2]; decide) | (rw [hc3]; decide))) | refine And.intro (fun h => absurd h (by first | decide | (rw [hal]; decide) | (rw [hup]; decide) | (rw [hc1]; decide) | (rw [hc2]; decide) | (rw [hc3]; decide))) (fun _ => ?_))
      refine hK0 _ _ ?_
      clear hK0 K0
      repeat (first | refine And.intro (fun _ => ?_) (fun h => absurd h (by first | decide | (rw [hal]; decide) | (rw [hup]; decide) | (rw [hc1]; decide) | (rw [hc2]; decide) | (rw [hc3]; decide))) | refine And.intro (fun h => absurd h (by first | decide | (rw [hal]; decide) | (rw [hup]; decide) | (rw [hc1]; decide) | (rw [hc2]; decide) | (rw [hc3]; decide))) (fun _ => ?_))
      have hyes : nxB t.nr (upB K) down both at' false ((m + 1 : Nat) : Int) (lnkL t.s at' n)[i]! = true := by
        rw [hbv, hnx]
        simp only [hal, hup, hc1, hc2, hc3, Bool.true_and, Bool.and_true, Bool.false_and, Bool.and_false, Bool.not_true, Bool.not_false, Bool.or_false, Bool.false_or, Bool.or_true, Bool.true_or]
      have hfa := find_at hlt (fun k hk => hno k hk) hyes
      rw [f1, hbv] at hfa
      have hbq : bq = b := by have : (bq : Int) = b := Option.some.inj hfa
                              omega
      subst hbq
      refine And.intro (by decide) ?_
      refine newS_hs hs2 (fun H4 j4 e4 l4 hs4 => ?_)
      refine And.intro rfl ?_
      refine app_hs hs4 2 rfl (by decide) (hs4.get 0 rfl) rfl rfl (by simp) (by simp only; omega) (fun H5 k' e5 l5 hs5 => ?_)
      refine ⟨⟨H5, k', Pt ++ [(bq : Int)], bq, upB K at' bq, m⟩, ⟨?_, f5, ?_, by simp only [List.length_append, List.length_singleton]; omega, by simp⟩, by simp only; omega, Or.inl ⟨⟨rfl, rfl, rfl, rfl, rfl, by simp [look], by rw [hup]; rfl, rfl, trivial⟩, rfl⟩⟩
      · have hs6 := HS.pickE (A := [_, _, _]) (E := statL (dtE t b3 b9 kr b10 kd kb n K down both)) hs5 [2] (by decide) (A' := [_]) rfl
        simp only [rw', ints_append]
        exact hs6
      · rw [← hpt, List.append_assoc]
        simp only [dpF, detF, f1, Int.toNat_natCast]
        rfl
    · have hc3 : decide (down[b]! = (m : Int)) = false := decide_eq_false hq
      repeat (first | refine And.intro (fun _ => ?_) (fun h => absurd h (by first | decide | (rw [hal]; decide) | (rw [hup]; decide) | (rw [hc1]; decide) | (rw [hc2]; decide) | (rw [hc3]; decide))) | refine And.intro (fun h => absurd h (by first | decide | (rw [hal]; decide) | (rw [hup]; decide) | (rw [hc1]; decide) | (rw [hc2]; decide) | (rw [hc3]; decide))) (fun _ => ?_))
      refine hK0 _ _ ?_
      clear hK0 K0
      repeat (first | refine And.intro (fun _ => ?_) (fun h => absurd h (by first | decide | (rw [hal]; decide) | (rw [hup]; decide) | (rw [hc1]; decide) | (rw [hc2]; decide) | (rw [hc3]; decide))) | refine And.intro (fun h => absurd h (by first | decide | (rw [hal]; decide) | (rw [hup]; decide) | (rw [hc1]; decide) | (rw [hc2]; decide) | (rw [hc3]; decide))) (fun _ => ?_))
      refine Or.inl ⟨((i + 1 : Nat) : Int), by simp, by unfold I64; omega, ?_⟩
      refine ⟨(H3, i + 1), ⟨rfl, hlt, fun k hk => ?_⟩, by simp only; omega, Or.inl ⟨⟨rfl, rfl, rfl, rfl, rfl, rfl, rfl, rfl, rfl, rfl, rfl, rfl, trivial⟩, rfl⟩⟩
      by_cases ek : k = i
      · subst ek
        rw [hbv, hnx]
        simp only [hal, hup, hc3, Bool.true_and, Bool.and_true, Bool.false_and, Bool.and_false, Bool.not_true, Bool.not_false, Bool.or_false, Bool.false_or, Bool.or_true, Bool.true_or]
      · exact hno k (by simp only at hk; omega)
  | true =>
    have hv : both[at']! = ((m + 1 : Nat) : Int) := hdi.2
    refine And.intro (fun _ => ?_) (fun h => absurd h (by decide))
    refine isCells_of (hs1.get 10 rfl) ⟨at', rfl, hat, ?_⟩
    refine rdCells_of (hs1.get 10 rfl) (Ld_ints at' both[at']! (by simp) (by simp [hbl']) ?_)
    rw [hv]
    refine vops_gen (fun K0 hK0 => hK0 _ _ ?_)
    refine vops_gen (fun K0 hK0 => ?_)
    refine rdCells_of (hs1.get 1 rfl) ?_
    refine ⟨_, rfl, ?_⟩
    refine And.intro (by decide) (isCells_of (hs1.get 2 rfl) ?_)
    refine rdCells_of (hs1.get 2 rfl) ?_
    refine ⟨_, rfl, ?_⟩
    refine x_near_sorted (x := (at' : Int)) hok (at_of hof (hs1.get 5 rfl)) (hs1.lt 5 rfl) ⟨by omega, by omega⟩ (fun fv H2 hcall => ?_)
    refine hcall.mono ?_
    rw [near_srt hok hsn hat]
    rintro _ H3 ⟨jn, rfl, hs2⟩
    have hs2 := hs1.call hs2 rfl
    refine hK0 _ _ ?_
    clear hK0 K0 hcall
    refine vcg_loopR (α := List Blk × Nat) tok (fun z => z.1 = H3 ∧ z.2 ≤ (lnkL t.s at' n).length ∧ ∀ k, k < z.2 → nxB t.nr (upB K) down both at' true ((m + 1 : Nat) : Int) (lnkL t.s at' n)[k]! = false)
      (fun | (_, k) => [(2, .int .i64 (y : Int)), (3, pV b3), (10, pV b10), (11, sv kd n), (12, sv kb n), (13, sv kp Pt.length), (14, .bool true), (15, .int .i64 (at' : Int)), (16, .int .i64 ((m + 1 : Nat) : Int)), (94, sv jn (lnkL t.s at' n).length), (95, .int .i64 ((lnkL t.s at' n).length : Int)), (96, .int .i64 (k : Int))]) (fun | (H', _) => H') (fun z => (lnkL t.s at' n).length - z.2)
      (H3, 0) ⟨rfl, Nat.zero_le _, fun k hk => absurd hk (Nat.not_lt_zero k)⟩ (Or.inl ⟨⟨rfl, rfl, rfl, rfl, rfl, rfl, rfl, rfl, rfl, rfl, rfl, rfl, trivial⟩, rfl⟩) ?_
    rintro ⟨_, i⟩ ⟨hH, hi, hno⟩
    simp only at hH hi hno
    have hH := hH.symm
    subst hH
    refine And.intro (fun hc => ?_) (fun hc => ?_)
    rotate_left
    · exact (find_no f1 (fun k hk => hno k (by simp at hc; omega))).elim
    have hlt : i < (lnkL t.s at' n).length := by simpa using hc
    have hbm := mem_get! hlt
    obtain ⟨hb1, _⟩ := lnkL_mem.1 hbm
    obtain ⟨b, hbv⟩ : ∃ b : Nat, (lnkL t.s at' n)[i]! = b := ⟨((lnkL t.s at' n)[i]!).toNat, by omega⟩
    rw [hbv] at hbm hb1
    have hbn : b < n := by omega
    have hnx := nx_eq (K := K) (down := down) (both := both) (r := true) (left := ((m + 1 : Nat) : Int)) ok hn hat hbm
    rw [show ((m + 1 : Nat) : Int) - 1 = m by omega] at hnx
    refine isCells_of (hs2.get 0 rfl) ⟨i, rfl, hlt, ?_⟩
    refine rdCells_of (hs2.get 0 rfl) (Ld_ints i (lnkL t.s at' n)[i]! (by simp) (by simp [hlt]) ?_)
    rw [hbv]
    refine rdCells_of (hs2.get 2 rfl) ?_
    refine ⟨_, rfl, ?_⟩
    refine n56 ⟨hs2.get 3 rfl, hs2.get 4 rfl, hs2.get 5 rfl⟩ (by omega) (by omega) ?_
    have hc1 : True := trivial
    have hc2 : True := trivial
    have hc3 : True := trivial
    have hup : True := trivial
    by_cases hal : t.al at' b = true
    rotate_left
    · have hal : t.al at' b = false := by simpa using hal
      repeat (first | refine And.intro (fun _ => ?_) (fun h => absurd h (by first | decide | (rw [hal]; decide) | (rw [hup]; decide) | (rw [hc1]; decide) | (rw [hc2]; decide) | (rw [hc3]; decide))) | refine And.intro (fun h => absurd h (by first | decide | (rw [hal]; decide) | (rw [hup]; decide) | (rw [hc1]; decide) | (rw [hc2]; decide) | (rw [hc3]; decide))) (fun _ => ?_))
      refine Or.inl ⟨((i + 1 : Nat) : Int), by simp, by unfold I64; omega, ?_⟩
      refine ⟨(H3, i + 1), ⟨rfl, hlt, fun k hk => ?_⟩, by simp only; omega, Or.inl ⟨⟨rfl, rfl, rfl, rfl, rfl, rfl, rfl, rfl, rfl, rfl, rfl, rfl, trivial⟩, rfl⟩⟩
      by_cases ek : k = i
      · subst ek
        rw [hbv, hnx]
        simp only [hal, Bool.true_and, Bool.and_true, Bool.false_and, Bool.and_false, Bool.not_true, Bool.not_false, Bool.or_false, Bool.false_or, Bool.or_true, Bool.true_or]
      · exact hno k (by simp only at hk; omega)
    repeat (first | refine And.intro (fun _ => ?_) (fun h => absurd h (by first | decide | (rw [hal]; decide) | (rw [hup]; decide) | (rw [hc1]; decide) | (rw [hc2]; decide) | (rw [hc3]; decide))) | refine And.intro (fun h => absurd h (by first | decide | (rw [hal]; decide) | (rw [hup]; decide) | (rw [hc1]; decide) | (rw [hc2]; decide) | (rw [hc3]; decide))) (fun _ => ?_))
    clear hup
    refine rdCells_of (hs2.get 9 rfl) ?_
    refine ⟨_, rfl, ?_⟩
    refine n57 (hs2.get 7 rfl) (hs2.get 8 rfl) hKl hat hbn ?_
    refine vops_gen (fun K0 hK0 => hK0 _ _ ?_)
    refine vops_gen (fun K0 hK0 => ?_)
    by_cases hup : upB K at' b = true
    · skip
      repeat (first | refine And.intro (fun _ => ?_) (fun h => absurd h (by first | decide | (rw [hal]; decide) | (rw [hup]; decide) | (rw [hc1]; decide) | (rw [hc2]; decide) | (rw [hc3]; decide))) | refine And.intro (fun h => absurd h (by first | decide | (rw [hal]; decide) | (rw [hup]; decide) | (rw [hc1]; decide) | (rw [hc2]; decide) | (rw [hc3]; decide))) (fun _ => ?_))
      refine isCells_of (hs2.get 11 rfl) ⟨b, rfl, by omega, ?_⟩
      repeat (first | refine And.intro (fun _ => ?_) (fun h => absurd h (by first | decide | (rw [hal]; decide) | (rw [hup]; decide) | (rw [hc1]; decide) | (rw [hc2]; decide) | (rw [hc3]; decide))) | refine And.intro (fun h => absurd h (by first | decide | (rw [hal]; decide) | (rw [hup]; decide) | (rw [hc1]; decide) | (rw [hc2]; decide) | (rw [hc3]; decide))) (fun _ => ?_))
      refine rdCells_of (hs2.get 11 rfl) (Ld_ints b both[b]! (by simp) (by simp [show b < both.length by omega]) ?_)
      repeat (first | refine And.intro (fun _ => ?_) (fun h => absurd h (by first | decide | (rw [hal]; decide) | (rw [hup]; decide) | (rw [hc1]; decide) | (rw [hc2]; decide) | (rw [hc3]; decide))) | refine And.intro (fun h => absurd h (by first | decide | (rw [hal]; decide) | (rw [hup]; decide) | (rw [hc1]; decide) | (rw [hc2]; decide) | (rw [hc3]; decide))) (fun _ => ?_))
      refine Or.inl ⟨(m : Int), by push_cast; omega, by unfold I64; omega, ?_⟩
      by_cases hq : both[b]! = (m : Int)
      · have hc1 : decide (both[b]! = (m : Int)) = true := decide_eq_true hq
        repeat (first | refine And.intro (fun _ => ?_) (fun h => absurd h (by first | decide | (rw [hal]; decide) | (rw [hup]; decide) | (rw [hc1]; decide) | (rw [hc2]; decide) | (rw [hc3]; decide))) | refine And.intro (fun h => absurd h (by first | decide | (rw [hal]; decide) | (rw [hup]; decide) | (rw [hc1]; decide) | (rw [hc2]; decide) | (rw [hc3]; decide))) (fun _ => ?_))
        refine hK0 _ _ ?_
        clear hK0 K0
        repeat (first | refine And.intro (fun _ => ?_) (fun h => absurd h (by first | decide | (rw [hal]; decide) | (rw [hup]; decide) | (rw [hc1]; decide) | (rw [hc2]; decide) | (rw [hc3]; decide))) | refine And.intro (fun h => absurd h (by first | decide | (rw [hal]; decide) | (rw [hup]; decide) | (rw [hc1]; decide) | (rw [hc2]; decide) | (rw [hc3]; decide))) (fun _ => ?_))
        have hyes : nxB t.nr (upB K) down both at' true ((m + 1 : Nat) : Int) (lnkL t.s at' n)[i]! = true := by
          rw [hbv, hnx]
          simp only [hal, hup, hc1, hc2, hc3, Bool.true_and, Bool.and_true, Bool.false_and, Bool.and_false, Bool.not_true, Bool.not_false, Bool.or_false, Bool.false_or, Bool.or_true, Bool.true_or]
        have hfa := find_at hlt (fun k hk => hno k hk) hyes
        rw [f1, hbv] at hfa
        have hbq : bq = b := by have : (bq : Int) = b := Option.some.inj hfa
                                omega
        subst hbq
        refine And.intro (by decide) ?_
        refine newS_hs hs2 (fun H4 j4 e4 l4 hs4 => ?_)
        refine And.intro rfl ?_
        refine app_hs hs4 2 rfl (by decide) (hs4.get 0 rfl) rfl rfl (by simp) (by simp only; omega) (fun H5 k' e5 l5 hs5 => ?_)
        refine ⟨⟨H5, k', Pt ++ [(bq : Int)], bq, upB K at' bq, m⟩, ⟨?_, f5, ?_, by simp only [List.length_append, List.length_singleton]; omega, by simp⟩, by simp only; omega, Or.inl ⟨⟨rfl, rfl, rfl, rfl, rfl, by simp [look], by rw [hup]; rfl, rfl, trivial⟩, rfl⟩⟩
        · have hs6 := HS.pickE (A := [_, _, _]) (E := statL (dtE t b3 b9 kr b10 kd kb n K down both)) hs5 [2] (by decide) (A' := [_]) rfl
          simp only [rw', ints_append]
          exact hs6
        · rw [← hpt, List.append_assoc]
          simp only [dpF, detF, f1, Int.toNat_natCast]
          rfl
      · have hc1 : decide (both[b]! = (m : Int)) = false := decide_eq_false hq
        repeat (first | refine And.intro (fun _ => ?_) (fun h => absurd h (by first | decide | (rw [hal]; decide) | (rw [hup]; decide) | (rw [hc1]; decide) | (rw [hc2]; decide) | (rw [hc3]; decide))) | refine And.intro (fun h => absurd h (by first | decide | (rw [hal]; decide) | (rw [hup]; decide) | (rw [hc1]; decide) | (rw [hc2]; decide) | (rw [hc3]; decide))) (fun _ => ?_))
        refine hK0 _ _ ?_
        clear hK0 K0
        repeat (first | refine And.intro (fun _ => ?_) (fun h => absurd h (by first | decide | (rw [hal]; decide) | (rw [hup]; decide) | (rw [hc1]; decide) | (rw [hc2]; decide) | (rw [hc3]; decide))) | refine And.intro (fun h => absurd h (by first | decide | (rw [hal]; decide) | (rw [hup]; decide) | (rw [hc1]; decide) | (rw [hc2]; decide) | (rw [hc3]; decide))) (fun _ => ?_))
        refine Or.inl ⟨((i + 1 : Nat) : Int), by simp, by unfold I64; omega, ?_⟩
        refine ⟨(H3, i + 1), ⟨rfl, hlt, fun k hk => ?_⟩, by simp only; omega, Or.inl ⟨⟨rfl, rfl, rfl, rfl, rfl, rfl, rfl, rfl, rfl, rfl, rfl, rfl, trivial⟩, rfl⟩⟩
        by_cases ek : k = i
        · subst ek
          rw [hbv, hnx]
          simp only [hal, hup, hc1, Bool.true_and, Bool.and_true, Bool.false_and, Bool.and_false, Bool.not_true, Bool.not_false, Bool.or_false, Bool.false_or, Bool.or_true, Bool.true_or]
        · exact hno k (by simp only at hk; omega)
    have hup : upB K at' b = false := by simpa using hup
    repeat (first | refine And.intro (fun _ => ?_) (fun h => absurd h (by first | decide | (rw [hal]; decide) | (rw [hup]; decide) | (rw [hc1]; decide) | (rw [hc2]; decide) | (rw [hc3]; decide))) | refine And.intro (fun h => absurd h (by first | decide | (rw [hal]; decide) | (rw [hup]; decide) | (rw [hc1]; decide) | (rw [hc2]; decide) | (rw [hc3]; decide))) (fun _ => ?_))
    refine isCells_of (hs2.get 10 rfl) ⟨b, rfl, by omega, ?_⟩
    repeat (first | refine And.intro (fun _ => ?_) (fun h => absurd h (by first | decide | (rw [hal]; decide) | (rw [hup]; decide) | (rw [hc1]; decide) | (rw [hc2]; decide) | (rw [hc3]; decide))) | refine And.intro (fun h => absurd h (by first | decide | (rw [hal]; decide) | (rw [hup]; decide) | (rw [hc1]; decide) | (rw [hc2]; decide) | (rw [hc3]; decide))) (fun _ => ?_))
    refine rdCells_of (hs2.get 10 rfl) (Ld_ints b down[b]! (by simp) (by simp [show b < down.length by omega]) ?_)
    by_cases h0 : 0 ≤ down[b]!
    rotate_left
    · have hc2 : decide (0 ≤ down[b]!) = false := decide_eq_false h0
      repeat (first | refine And.intro (fun _ => ?_) (fun h => absurd h (by first | decide | (rw [hal]; decide) | (rw [hup]; decide) | (rw [hc1]; decide) | (rw [hc2]; decide) | (rw [hc3]; decide))) | refine And.intro (fun h => absurd h (by first | decide | (rw [hal]; decide) | (rw [hup]; decide) | (rw [hc1]; decide) | (rw [hc2]; decide) | (rw [hc3]; decide))) (fun _ => ?_))
      refine hK0 _ _ ?_
      clear hK0 K0
      repeat (first | refine And.intro (fun _ => ?_) (fun h => absurd h (by first | decide | (rw [hal]; decide) | (rw [hup]; decide) | (rw [hc1]; decide) | (rw [hc2]; decide) | (rw [hc3]; decide))) | refine And.intro (fun h => absurd h (by first | decide | (rw [hal]; decide) | (rw [hup]; decide) | (rw [hc1]; decide) | (rw [hc2]; decide) | (rw [hc3]; decide))) (fun _ => ?_))
      refine Or.inl ⟨((i + 1 : Nat) : Int), by simp, by unfold I64; omega, ?_⟩
      refine ⟨(H3, i + 1), ⟨rfl, hlt, fun k hk => ?_⟩, by simp only; omega, Or.inl ⟨⟨rfl, rfl, rfl, rfl, rfl, rfl, rfl, rfl, rfl, rfl, rfl, rfl, trivial⟩, rfl⟩⟩
      by_cases ek : k = i
      · subst ek
        rw [hbv, hnx]
        simp only [hal, hup, hc2, Bool.true_and, Bool.and_true, Bool.false_and, Bool.and_false, Bool.not_true, Bool.not_false, Bool.or_false, Bool.false_or, Bool.or_true, Bool.true_or]
      · exact hno k (by simp only at hk; omega)
    have hc2 : decide (0 ≤ down[b]!) = true := decide_eq_true h0
    repeat (first | refine And.intro (fun _ => ?_) (fun h => absurd h (by first | decide | (rw [hal]; decide) | (rw [hup]; decide) | (rw [hc1]; decide) | (rw [hc2]; decide) | (rw [hc3]; decide))) | refine And.intro (fun h => absurd h (by first | decide | (rw [hal]; decide) | (rw [hup]; decide) | (rw [hc1]; decide) | (rw [hc2]; decide) | (rw [hc3]; decide))) (fun _ => ?_))
    refine isCells_of (hs2.get 10 rfl) ⟨b, rfl, by omega, ?_⟩
    repeat (first | refine And.intro (fun _ => ?_) (fun h => absurd h (by first | decide | (rw [hal]; decide) | (rw [hup]; decide) | (rw [hc1]; decide) | (rw [hc2]; decide) | (rw [hc3]; decide))) | refine And.intro (fun h => absurd h (by first | decide | (rw [hal]; decide) | (rw [hup]; decide) | (rw [hc1]; decide) | (rw [hc2]; decide) | (rw [hc3]; decide))) (fun _ => ?_))
    refine rdCells_of (hs2.get 10 rfl) (Ld_ints b down[b]! (by simp) (by simp [show b < down.length by omega]) ?_)
    repeat (first | refine And.intro (fun _ => ?_) (fun h => absurd h (by first | decide | (rw [hal]; decide) | (rw [hup]; decide) | (rw [hc1]; decide) | (rw [hc2]; decide) | (rw [hc3]; decide))) | refine And.intro (fun h => absurd h (by first | decide | (rw [hal]; decide) | (rw [hup]; decide) | (rw [hc1]; decide) | (rw [hc2]; decide) | (rw [hc3]; decide))) (fun _ => ?_))
    refine Or.inl ⟨(m : Int), by push_cast; omega, by unfold I64; omega, ?_⟩
    by_cases hq : down[b]! = (m : Int)
    · have hc3 : decide (down[b]! = (m : Int)) = true := decide_eq_true hq
      repeat (first | refine And.intro (fun _ => ?_) (fun h => absurd h (by first | decide | (rw [hal]; decide) | (rw [hup]; decide) | (rw [hc1]; decide) | (rw [hc2]; decide) | (rw [hc3]; decide))) | refine And.intro (fun h => absurd h (by first | decide | (rw [hal]; decide) | (rw [hup]; decide) | (rw [hc1]; decide) | (rw [hc2]; decide) | (rw [hc3]; decide))) (fun _ => ?_))
      refine hK0 _ _ ?_
      clear hK0 K0
      repeat (first | refine And.intro (fun _ => ?_) (fun h => absurd h (by first | decide | (rw [hal]; decide) | (rw [hup]; decide) | (rw [hc1]; decide) | (rw [hc2]; decide) | (rw [hc3]; decide))) | refine And.intro (fun h => absurd h (by first | decide | (rw [hal]; decide) | (rw [hup]; decide) | (rw [hc1]; decide) | (rw [hc2]; decide) | (rw [hc3]; decide))) (fun _ => ?_))
      have hyes : nxB t.nr (upB K) down both at' true ((m + 1 : Nat) : Int) (lnkL t.s at' n)[i]! = true := by
        rw [hbv, hnx]
        simp only [hal, hup, hc1, hc2, hc3, Bool.true_and, Bool.and_true, Bool.false_and, Bool.and_false, Bool.not_true, Bool.not_false, Bool.or_false, Bool.false_or, Bool.or_true, Bool.true_or]
      have hfa := find_at hlt (fun k hk => hno k hk) hyes
      rw [f1, hbv] at hfa
      have hbq : bq = b := by have : (bq : Int) = b := Option.some.inj hfa
                              omega
      subst hbq
      refine And.intro (by decide) ?_
      refine newS_hs hs2 (fun H4 j4 e4 l4 hs4 => ?_)
      refine And.intro rfl ?_
      refine app_hs hs4 2 rfl (by decide) (hs4.get 0 rfl) rfl rfl (by simp) (by simp only; omega) (fun H5 k' e5 l5 hs5 => ?_)
      refine ⟨⟨H5, k', Pt ++ [(bq : Int)], bq, upB K at' bq, m⟩, ⟨?_, f5, ?_, by simp only [List.length_append, List.length_singleton]; omega, by simp⟩, by simp only; omega, Or.inl ⟨⟨rfl, rfl, rfl, rfl, rfl, by simp [look], by rw [hup]; rfl, rfl, trivial⟩, rfl⟩⟩
      · have hs6 := HS.pickE (A := [_, _, _]) (E := statL (dtE t b3 b9 kr b10 kd kb n K down both)) hs5 [2] (by decide) (A' := [_]) rfl
        simp only [rw', ints_append]
        exact hs6
      · rw [← hpt, List.append_assoc]
        simp only [dpF, detF, f1, Int.toNat_natCast]
        rfl
    · have hc3 : decide (down[b]! = (m : Int)) = false := decide_eq_false hq
      repeat (first | refine And.intro (fun _ => ?_) (fun h => absurd h (by first | decide | (rw [hal]; decide) | (rw [hup]; decide) | (rw [hc1]; decide) | (rw [hc2]; decide) | (rw [hc3]; decide))) | refine And.intro (fun h => absurd h (by first | decide | (rw [hal]; decide) | (rw [hup]; decide) | (rw [hc1]; decide) | (rw [hc2]; decide) | (rw [hc3]; decide))) (fun _ => ?_))
      refine hK0 _ _ ?_
      clear hK0 K0
      repeat (first | refine And.intro (fun _ => ?_) (fun h => absurd h (by first | decide | (rw [hal]; decide) | (rw [hup]; decide) | (rw [hc1]; decide) | (rw [hc2]; decide) | (rw [hc3]; decide))) | refine And.intro (fun h => absurd h (by first | decide | (rw [hal]; decide) | (rw [hup]; decide) | (rw [hc1]; decide) | (rw [hc2]; decide) | (rw [hc3]; decide))) (fun _ => ?_))
      refine Or.inl ⟨((i + 1 : Nat) : Int), by simp, by unfold I64; omega, ?_⟩
      refine ⟨(H3, i + 1), ⟨rfl, hlt, fun k hk => ?_⟩, by simp only; omega, Or.inl ⟨⟨rfl, rfl, rfl, rfl, rfl, rfl, rfl, rfl, rfl, rfl, rfl, rfl, trivial⟩, rfl⟩⟩
      by_cases ek : k = i
      · subst ek
        rw [hbv, hnx]
        simp only [hal, hup, hc3, Bool.true_and, Bool.and_true, Bool.false_and, Bool.and_false, Bool.not_true, Bool.not_false, Bool.or_false, Bool.false_or, Bool.or_true, Bool.true_or]
      · exact hno k (by simp only at hk; omega)
end Go.Af.Tryz
