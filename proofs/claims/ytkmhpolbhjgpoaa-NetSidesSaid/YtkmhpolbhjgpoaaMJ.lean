/-
  When the reference calls two switches linked.
  The neighbours, and the links, as the reference lists them.
  The links as the reference lists them, and how many are across a side.
  Whether a switch lies in a subtree, as the reference says it.
  The standard sides as rows, as the reference makes them.
-/
import Derived.Test.YtkmhpolbhjgpoaaMI
import Derived.Test.YtkmhpolbhjgpoaaMX
import Derived.Test.YtkmhpolbhjgpoaaMC
import Derived.Test.YtkmhpolbhjgpoaaMT
import Derived.Test.YtkmhpolbhjgpoaaMG
set_option linter.all false
namespace Go.Af.Try
open Go Go.Proofs
attribute [local irreducible] awp ACall ACallX AYield AInvoke

/-- In a grid: in how many of the first dimensions two places differ, and whether they are near in the last one of these. -/
def lnS (g a b : List Int) : Nat → Int × Bool
  | 0 => (0, true)
  | i + 1 => if a[i]! = b[i]! then lnS g a b i else ((lnS g a b i).1 + 1, decide (max (a[i]! - b[i]!) (b[i]! - a[i]!) = 1) || decide (max (a[i]! - b[i]!) (b[i]! - a[i]!) = g[i]! - 1))
theorem lnS_bd (g a b : List Int) : ∀ i : Nat, 0 ≤ (lnS g a b i).1 ∧ (lnS g a b i).1 ≤ i
  | 0 => by simp [lnS]
  | i + 1 => by
    have := lnS_bd g a b i
    simp only [lnS]
    split
    · omega
    · dsimp only; omega
def lnG (g : List Int) (x y : Int) : Bool := decide ((lnS g (coords g x) (coords g y) g.length).1 = 1) && (lnS g (coords g x) (coords g y) g.length).2
def lnFa (k : Int) (N : Nat) (x y : Int) : Bool :=
  decide ((max x y).tdiv (k ^ N) = (min x y).tdiv (k ^ N) + 1) && decide (likF k ((min x y).tmod (k ^ N)) ((min x y).tdiv (k ^ N)).toNat 0 = likF k ((max x y).tmod (k ^ N)) ((min x y).tdiv (k ^ N)).toNat 0)
def lnFl (a h x y : Int) : Bool :=
  decide (x.tdiv a = y.tdiv a) || (decide (porF a h (x.tdiv a) (gapF a h (x.tdiv a) (y.tdiv a)) = x) && decide (porF a h (y.tdiv a) (a * h + 1 - 2 - gapF a h (x.tdiv a) (y.tdiv a)) = y))
def Sh.lnk (s : Sh) (x y : Int) : Bool :=
  if x = y then false else match s with
    | .grid g => lnG g x y
    | .fat k n => lnFa k (n - 1).toNat x y
    | .fly a h => lnFl a h x y

theorem dig0 (k : Int) (l : Nat) : digF k 0 l = 0 := by simp [digF]
theorem c65N {H : List Blk} {R : Value → List Blk → Prop} {b N : Nat} {wr : Bool} {kind hosts k n : Int} (hN : (n - 1).toNat = N) (hk : 2 ≤ k ∧ k ≤ 8) (hn : 1 ≤ n ∧ n ≤ 4) (hb : bget H b = some (.cells wr 1 (ints [k, n]))) (h : R (.int .i64 (k ^ N)) H) :
    ACallX Try.prog 65 [spV kind (sv b 2) hosts] H R := by subst hN; exact c65 hk hn hb h
theorem c78z {H : List Blk} {R : Value → List Blk → Prop} {b : Nat} {wr : Bool} {kind hosts k n w : Int} {l : Nat} (hh : LikOk k w l 0) (hb : bget H b = some (.cells wr 1 (ints [k, n]))) (h : R (.int .i64 (likF k w l 0)) H) :
    ACallX Try.prog 78 [spV kind (sv b 2) hosts, .int .i64 w, .int .i64 l, .int .i64 0] H R := by
  have e := c78 (kind := kind) (hosts := hosts) (n := n) hh hb h
  rw [dig0] at e
  exact e

set_option maxHeartbeats 4000000 in
theorem l86 (kind hosts x y : Int) (sides : List Int) (s : Sh) (hok : s.ok) (hof : s.of kind sides) (hx : 0 ≤ x ∧ x < s.sw) (hy : 0 ≤ y ∧ y < s.sw) : ACall Try.prog 86 [spV kind (sv 0 sides.length) hosts, .int .i64 x, .int .i64 y] [ro sides] (fun v H => v = .bool (s.lnk x y) ∧ H = [ro sides]) := by
  have hbd := sw_bd hok
  refine acall_drop (acall_vcg tok Try.call86 Try.func86 rfl Try.ntmps86 rfl (by simp) ?_)
  refine And.intro (fun he => ?_) (fun he => ?_)
  · have he : x = y := by simpa using he
    refine ⟨[(0, 0)], _, [ro (sides)], by simp, anch_of rfl, ⟨⟨_, rfl, BRen.ints _ _ _⟩, trivial⟩, rfl, VRen.plain rfl, (by rw [show s.lnk x y = false by simp [Sh.lnk, he]]; rfl), rfl⟩
  have hne : ¬ x = y := by simpa using he
  cases s with
  | grid g =>
    obtain ⟨rfl, rfl⟩ := hof
    have hok' := hok
    obtain ⟨hl1, hl2, hm, hp⟩ := hok'
    have hg2 : ∀ m ∈ g, 2 ≤ m := fun m h => (hm m h).1
    have hgi : ∀ i, i < g.length → 2 ≤ g[i]! ∧ g[i]! ≤ 16 := fun i hi => by rw [getElem!_pos g i hi]; exact hm _ (List.getElem_mem hi)
    have ha := coords_in hx.1 g hg2
    have hb := coords_in hy.1 g hg2
    (repeat (first | refine And.intro (fun _ => ?_) (fun h => absurd h (by decide)) | refine And.intro (fun h => absurd h (by decide)) (fun _ => ?_) | refine Exists.intro _ (And.intro rfl ?_) | refine And.intro (by decide) ?_ | refine And.intro (by omega) ?_ | refine Or.inl (Exists.intro _ (And.intro rfl (And.intro (by unfold I64; omega) ?_)))))
    refine vcg_draw tok mx [0, 0, 3, 0, 0, 31, 63, 127] [false, true, true, true, true, false, false, false] [0, 1, 3, 4, 2, 5, 6, 7] (by kernel_rfl) ?_
    refine vopsO_gen (fun K0 hK0 => ?_)
    (repeat (first | refine And.intro (fun _ => ?_) (fun h => absurd h (by decide)) | refine And.intro (fun h => absurd h (by decide)) (fun _ => ?_) | refine Exists.intro _ (And.intro rfl ?_) | refine And.intro (by decide) ?_ | refine And.intro (by omega) ?_ | refine Or.inl (Exists.intro _ (And.intro rfl (And.intro (by unfold I64; omega) ?_)))))
    (first | refine c64' hg2 (by omega) (i64_of (by omega)) rfl ?_ | refine (c64' hg2 (by omega) (i64_of (by omega)) rfl ?_).call)
    (first | refine c64' hg2 (by omega) (i64_of (by omega)) rfl ?_ | refine (c64' hg2 (by omega) (i64_of (by omega)) rfl ?_).call)
    refine hK0 _ _ ?_
    clear hK0 K0
    generalize hA : coords g x = A at *
    generalize hB : coords g y = B at *
    refine vcg_loopR tok (fun i : Nat => i ≤ g.length) (fun i => [(3, .pointer (some ⟨1, 0, none⟩)), (7, sv 2 g.length), (8, sv 3 g.length), (9, .int .i64 (lnS g A B i).1), (10, .bool (lnS g A B i).2), (11, .int .i64 (i : Int))]) (fun _ => [ro g, .cells true 1 [.int .i64 1, sv 0 g.length, .int .i64 hosts], rw' A, rw' B])
      (fun i => g.length - i) 0 (Nat.zero_le _) (Or.inl ⟨⟨rfl, rfl, rfl, rfl, rfl, rfl, trivial⟩, rfl⟩) ?_
    intro i hi
    have hlb := lnS_bd g A B i
    refine And.intro (fun hc => ?_) (fun hc => ?_)
    · have hlt : i < g.length := by simpa using hc
      have hai := ha.2 i hlt
      have hbi := hb.2 i hlt
      have hgb := hgi i hlt
      have hal : A[i]? = some A[i]! := by simp [ha.1, hlt]
      have hbl : B[i]? = some B[i]! := by simp [hb.1, hlt]
      refine vcg_draw tok mx [0, 0, 3, 7, 0, 0, 48, 112, 255] [false, false, false, false, true, true, true, true, false] [0, 1, 2, 3, 4, 5, 6, 7, 8] (by kernel_rfl) ?_
      refine ⟨i, rfl, hlt, ?_⟩
      refine Ld_ints i A[i]! (by simp) hal ?_
      refine ⟨i, rfl, hlt, ?_⟩
      refine Ld_ints i B[i]! (by simp) hbl ?_
      refine And.intro (fun hd => ?_) (fun hd => ?_)
      · have hd : ¬ A[i]! = B[i]! := by simpa using hd
        refine Or.inl ⟨(lnS g A B i).1 + 1, rfl, by unfold I64; omega, ?_⟩
        refine vcg_draw tok mx [0, 0, 3, 7, 0, 0, 48, 112, 255, 0, 0, 1536, 3584, 0, 0, 24576, 57344, 130560, 262143, 524287] [false, false, false, false, true, true, true, true, false, true, true, true, true, true, true, true, true, true, false, false] [0, 1, 2, 3, 4, 5, 6, 7, 8, 9, 10, 11, 12, 13, 14, 15, 16, 17, 18, 19] (by kernel_rfl) ?_
        refine ⟨i, rfl, hlt, ?_⟩
        refine Ld_ints i A[i]! (by simp) hal ?_
        refine ⟨i, rfl, hlt, ?_⟩
        refine Ld_ints i B[i]! (by simp) hbl ?_
        refine Or.inl ⟨A[i]! - B[i]!, rfl, by unfold I64; omega, ?_⟩
        refine ⟨i, rfl, hlt, ?_⟩
        refine Ld_ints i B[i]! (by simp) hbl ?_
        refine ⟨i, rfl, hlt, ?_⟩
        refine Ld_ints i A[i]! (by simp) hal ?_
        refine Or.inl ⟨B[i]! - A[i]!, rfl, by unfold I64; omega, ?_⟩
        refine vops_gen (fun K0 hK0 => ?_)
        refine And.intro (fun h1 => ?_) (fun h1 => ?_)
        · have h1' : decide (max (A[i]! - B[i]!) (B[i]! - A[i]!) = 1) = false := h1
          refine And.intro (fun _ => ?_) (fun h => absurd h (by decide))
          refine And.intro (by decide) ?_
          refine And.intro (fun _ => ?_) (fun h => absurd h (by decide))
          refine ⟨_, rfl, ?_⟩
          refine And.intro (fun _ => ?_) (fun h => absurd h (by decide))
          refine And.intro (fun _ => ?_) (fun h => absurd h (by decide))
          refine ⟨i, rfl, hlt, ?_⟩
          refine And.intro (fun _ => ?_) (fun h => absurd h (by decide))
          refine Ld_ints i g[i]! (by simp) (by simp [hlt]) ?_
          refine And.intro (fun _ => ?_) (fun h => absurd h (by decide))
          refine Or.inl ⟨g[i]! - 1, rfl, by unfold I64; omega, ?_⟩
          refine And.intro (fun _ => ?_) (fun h => absurd h (by decide))
          refine hK0 _ _ ?_
          refine Or.inl ⟨((i + 1 : Nat) : Int), by simp, by unfold I64; omega, ?_⟩
          exact ⟨i + 1, hlt, by omega, Or.inl ⟨⟨rfl, rfl, rfl, congrArg (fun z => some (Value.int .i64 z)) (by simp only [lnS]; rw [if_neg hd]), congrArg (fun z => some (Value.bool z)) (by simp only [lnS]; rw [if_neg hd]; simp only [h1']; rfl), rfl, trivial⟩, rfl⟩⟩
        · have h1' : decide (max (A[i]! - B[i]!) (B[i]! - A[i]!) = 1) = true := h1
          repeat refine And.intro (fun h => absurd h (by decide)) (fun _ => ?_)
          refine hK0 _ _ ?_
          refine Or.inl ⟨((i + 1 : Nat) : Int), by simp, by unfold I64; omega, ?_⟩
          exact ⟨i + 1, hlt, by omega, Or.inl ⟨⟨rfl, rfl, rfl, congrArg (fun z => some (Value.int .i64 z)) (by simp only [lnS]; rw [if_neg hd]), congrArg (fun z => some (Value.bool z)) (by simp only [lnS]; rw [if_neg hd]; simp only [h1']; rfl), rfl, trivial⟩, rfl⟩⟩
      · have hd : A[i]! = B[i]! := by simpa using hd
        refine Or.inl ⟨((i + 1 : Nat) : Int), by simp, by unfold I64; omega, ?_⟩
        exact ⟨i + 1, hlt, by omega, Or.inl ⟨⟨rfl, rfl, rfl, congrArg (fun z => some (Value.int .i64 z)) (by simp only [lnS]; rw [if_pos hd]), congrArg (fun z => some (Value.bool z)) (by simp only [lnS]; rw [if_pos hd]), rfl, trivial⟩, rfl⟩⟩
    · have : i = g.length := by simp at hc; omega
      subst this
      have el : Sh.lnk (.grid g) x y = (decide ((lnS g A B g.length).1 = 1) && (lnS g A B g.length).2) := by simp only [Sh.lnk]; rw [if_neg hne]; simp only [lnG, hA, hB]
      rw [el]
      refine vops_gen (fun K0 hK0 => ?_)
      refine And.intro (fun h1 => ?_) (fun h1 => ?_)
      · have h1' : decide ((lnS g A B g.length).1 = 1) = true := h1
        refine hK0 _ _ ?_
        refine ⟨[(0, 0)], _, [ro (g)], by simp, anch_of rfl, ⟨⟨_, rfl, BRen.ints _ _ _⟩, trivial⟩, rfl, VRen.plain rfl, (by rw [h1']; rfl), rfl⟩
      · have h1' : decide ((lnS g A B g.length).1 = 1) = false := h1
        refine hK0 _ _ ?_
        refine ⟨[(0, 0)], _, [ro (g)], by simp, anch_of rfl, ⟨⟨_, rfl, BRen.ints _ _ _⟩, trivial⟩, rfl, VRen.plain rfl, (by rw [h1']; rfl), rfl⟩
  | fat k n =>
    obtain ⟨rfl, rfl⟩ := hof
    obtain ⟨hk, hn, hkn⟩ := hok
    have hw := powpos (k := k) (by omega) (n - 1).toNat
    simp only [Sh.sw] at hx hy hbd
    obtain ⟨N, hN⟩ : ∃ N, (n - 1).toNat = N := ⟨_, rfl⟩
    have el : Sh.lnk (.fat k n) x y = lnFa k N x y := by simp only [Sh.lnk]; rw [if_neg hne, hN]
    rw [el]
    rw [hN] at hw hx hy hbd
    obtain ⟨lo, hlo⟩ : ∃ lo, min x y = lo := ⟨_, rfl⟩
    obtain ⟨up, hup⟩ : ∃ up, max x y = up := ⟨_, rfl⟩
    have hlo0 : 0 ≤ lo ∧ lo < n * k ^ N := by omega
    have hup0 : 0 ≤ up ∧ up < n * k ^ N := by omega
    have hd0 := Int.tdiv_nonneg (a := lo) (b := k ^ N) hlo0.1 (by omega)
    have hd1 := Int.tdiv_nonneg (a := up) (b := k ^ N) hup0.1 (by omega)
    have hd2 : up.tdiv (k ^ N) < n := by
      rw [Int.tdiv_eq_ediv_of_nonneg hup0.1]
      exact Int.ediv_lt_of_lt_mul (by omega) hup0.2
    have hv0 := Int.tmod_nonneg (a := lo) (k ^ N) hlo0.1
    have hv1 : lo.tmod (k ^ N) < k ^ N := Int.tmod_lt_of_pos _ (by omega)
    have hw0 := Int.tmod_nonneg (a := up) (k ^ N) hup0.1
    have hw1 : up.tmod (k ^ N) < k ^ N := Int.tmod_lt_of_pos _ (by omega)
    obtain ⟨ln, hln⟩ : ∃ ln : Nat, lo.tdiv (k ^ N) = ln := ⟨(lo.tdiv (k ^ N)).toNat, by omega⟩
    have i64s : ∀ {z : Int}, 0 ≤ z ∧ z ≤ 65536 → I64 z := fun h => i64_of h
    have hpk := pow_ok hk (l := N) (by omega)
    have hdl : (ln : Int) ≤ 65536 := by
      have := Int.tdiv_le_self (k ^ N) hlo0.1; omega
    have hdu : up.tdiv (k ^ N) ≤ 65536 := by
      have := Int.tdiv_le_self (k ^ N) hup0.1; omega
    (repeat (first | refine And.intro (fun _ => ?_) (fun h => absurd h (by decide)) | refine And.intro (fun h => absurd h (by decide)) (fun _ => ?_) | refine Exists.intro _ (And.intro rfl ?_) | refine And.intro (by decide) ?_ | refine And.intro (by omega) ?_ | refine Or.inl (Exists.intro _ (And.intro rfl (And.intro (by unfold I64; omega) ?_)))))
    refine vcg_draw tok mx [0, 0, 3, 0, 8, 31, 0, 0, 192, 0, 536, 2008, 1599, 8191] [false, false, false, false, true, true, true, true, true, true, false, false, false, false] [0, 1, 2, 3, 6, 7, 8, 9, 4, 5, 10, 11, 12, 13] (by kernel_rfl) ?_
    refine vopsO_gen (fun K0 hK0 => ?_)
    (repeat (first | refine And.intro (fun _ => ?_) (fun h => absurd h (by decide)) | refine And.intro (fun h => absurd h (by decide)) (fun _ => ?_) | refine Exists.intro _ (And.intro rfl ?_) | refine And.intro (by decide) ?_ | refine And.intro (by omega) ?_ | refine Or.inl (Exists.intro _ (And.intro rfl (And.intro (by unfold I64; omega) ?_)))))
    (first | refine c65N hN hk hn rfl ?_ | refine (c65N hN hk hn rfl ?_).call)
    refine ⟨by omega, Or.inl ⟨(ln : Int), by rw [hlo]; exact hln, i64s (by omega), ?_⟩⟩
    (first | refine c65N hN hk hn rfl ?_ | refine (c65N hN hk hn rfl ?_).call)
    refine ⟨by omega, Or.inl ⟨up.tdiv (k ^ N), by rw [hup], i64s (by omega), ?_⟩⟩
    refine hK0 _ _ ?_
    clear hK0 K0
    refine vcg_draw tok mx [0, 0, 3, 0, 8, 31, 0, 0, 192, 0, 536, 2008, 1599, 8191] [false, false, false, false, true, true, true, true, true, true, false, false, false, false] [0, 1, 2, 3, 6, 7, 8, 9, 4, 5, 10, 11, 12, 13] (by kernel_rfl) ?_
    refine vopsO_gen (fun K0 hK0 => ?_)
    (repeat (first | refine And.intro (fun _ => ?_) (fun h => absurd h (by decide)) | refine And.intro (fun h => absurd h (by decide)) (fun _ => ?_) | refine Exists.intro _ (And.intro rfl ?_) | refine And.intro (by decide) ?_ | refine And.intro (by omega) ?_ | refine Or.inl (Exists.intro _ (And.intro rfl (And.intro (by unfold I64; omega) ?_)))))
    (first | refine c65N hN hk hn rfl ?_ | refine (c65N hN hk hn rfl ?_).call)
    refine ⟨by omega, lo.tmod (k ^ N), by rw [hlo], ?_⟩
    (first | refine c65N hN hk hn rfl ?_ | refine (c65N hN hk hn rfl ?_).call)
    refine ⟨by omega, up.tmod (k ^ N), by rw [hup], ?_⟩
    refine hK0 _ _ ?_
    clear hK0 K0
    have ef : lnFa k N x y = (decide (up.tdiv (k ^ N) = (ln : Int) + 1) && decide (likF k (lo.tmod (k ^ N)) ln 0 = likF k (up.tmod (k ^ N)) ln 0)) := by
      unfold lnFa
      rw [hlo, hup, hln, Int.toNat_natCast]
    rw [ef]
    refine vcg_draw tok mx [0, 0, 2, 7, 15, 31, 31, 31, 255, 31, 31, 31, 4095, 8191, 16383, 32767] [false, false, false, false, false, false, true, true, true, true, true, true, false, false, false, false] [0, 1, 2, 3, 4, 5, 6, 7, 9, 10, 11, 8, 12, 13, 14, 15] (by kernel_rfl) ?_
    refine vopsO_gen (fun K0 hK0 => ?_)
    refine Or.inl ⟨(ln : Int) + 1, rfl, by unfold I64; omega, ?_⟩
    refine And.intro (fun h1 => ?_) (fun h1 => ?_)
    · have h2 : up.tdiv (k ^ N) = (ln : Int) + 1 := by simpa using h1
      have hlN : ln < N := by omega
      (repeat (first | refine And.intro (fun _ => ?_) (fun h => absurd h (by decide)) | refine And.intro (fun h => absurd h (by decide)) (fun _ => ?_) | refine Exists.intro _ (And.intro rfl ?_) | refine And.intro (by decide) ?_ | refine And.intro (by omega) ?_ | refine Or.inl (Exists.intro _ (And.intro rfl (And.intro (by unfold I64; omega) ?_)))))
      (first | refine c78z (likok hk (by omega) hlN hv0 hv1 (Int.le_refl 0) (by decide)) rfl ?_ | refine (c78z (likok hk (by omega) hlN hv0 hv1 (Int.le_refl 0) (by decide)) rfl ?_).call)
      (repeat (first | refine And.intro (fun _ => ?_) (fun h => absurd h (by decide)) | refine And.intro (fun h => absurd h (by decide)) (fun _ => ?_) | refine Exists.intro _ (And.intro rfl ?_) | refine And.intro (by decide) ?_ | refine And.intro (by omega) ?_ | refine Or.inl (Exists.intro _ (And.intro rfl (And.intro (by unfold I64; omega) ?_)))))
      (first | refine c78z (likok hk (by omega) hlN hw0 hw1 (Int.le_refl 0) (by decide)) rfl ?_ | refine (c78z (likok hk (by omega) hlN hw0 hw1 (Int.le_refl 0) (by decide)) rfl ?_).call)
      (repeat (first | refine And.intro (fun _ => ?_) (fun h => absurd h (by decide)) | refine And.intro (fun h => absurd h (by decide)) (fun _ => ?_) | refine Exists.intro _ (And.intro rfl ?_) | refine And.intro (by decide) ?_ | refine And.intro (by omega) ?_ | refine Or.inl (Exists.intro _ (And.intro rfl (And.intro (by unfold I64; omega) ?_)))))
      refine hK0 _ _ ?_
      refine ⟨[(0, 0)], _, [ro ([k, n])], by simp, anch_of rfl, ⟨⟨_, rfl, BRen.ints _ _ _⟩, trivial⟩, rfl, VRen.plain rfl, (by rw [decide_eq_true h2]; rfl), rfl⟩
    · have h2 : ¬ up.tdiv (k ^ N) = (ln : Int) + 1 := by simpa using h1
      (repeat (first | refine And.intro (fun _ => ?_) (fun h => absurd h (by decide)) | refine And.intro (fun h => absurd h (by decide)) (fun _ => ?_) | refine Exists.intro _ (And.intro rfl ?_) | refine And.intro (by decide) ?_ | refine And.intro (by omega) ?_ | refine Or.inl (Exists.intro _ (And.intro rfl (And.intro (by unfold I64; omega) ?_)))))
      refine hK0 _ _ ?_
      refine ⟨[(0, 0)], _, [ro ([k, n])], by simp, anch_of rfl, ⟨⟨_, rfl, BRen.ints _ _ _⟩, trivial⟩, rfl, VRen.plain rfl, (by rw [decide_eq_false h2]; rfl), rfl⟩
  | fly a h =>
    obtain ⟨rfl, rfl⟩ := hof
    obtain ⟨ha, hh, hah⟩ := hok
    simp only [Sh.sw] at hx hy hbd
    have hm := mulb (a := a) (b := h) (A := 16) (B := 4) (by omega) (by omega) (by omega) (by omega)
    have el : Sh.lnk (.fly a h) x y = lnFl a h x y := by simp only [Sh.lnk]; rw [if_neg hne]
    rw [el]
    have hi0 : 0 ≤ x.tdiv a := Int.tdiv_nonneg hx.1 (by omega)
    have hj0 : 0 ≤ y.tdiv a := Int.tdiv_nonneg hy.1 (by omega)
    have hi1 : x.tdiv a < a * h + 1 := by
      rw [Int.tdiv_eq_ediv_of_nonneg hx.1]
      exact Int.ediv_lt_of_lt_mul (by omega) (by rw [Int.mul_comm]; exact hx.2)
    have hj1 : y.tdiv a < a * h + 1 := by
      rw [Int.tdiv_eq_ediv_of_nonneg hy.1]
      exact Int.ediv_lt_of_lt_mul (by omega) (by rw [Int.mul_comm]; exact hy.2)
    unfold lnFl
    (repeat (first | refine And.intro (fun _ => ?_) (fun h => absurd h (by decide)) | refine And.intro (fun h => absurd h (by decide)) (fun _ => ?_) | refine Exists.intro _ (And.intro rfl ?_) | refine And.intro (by decide) ?_ | refine And.intro (by omega) ?_ | refine Or.inl (Exists.intro _ (And.intro rfl (And.intro (by unfold I64; omega) ?_)))))
    refine vcg_draw tok mx [0, 0, 2, 6, 14, 31, 0, 0, 128, 384, 896, 1984, 63, 8191] [false, false, false, false, false, false, true, true, true, true, true, true, true, false] [0, 1, 2, 3, 4, 5, 6, 7, 8, 9, 10, 11, 12, 13] (by kernel_rfl) ?_
    refine vopsO_gen (fun K0 hK0 => ?_)
    (repeat (first | refine And.intro (fun _ => ?_) (fun h => absurd h (by decide)) | refine And.intro (fun h => absurd h (by decide)) (fun _ => ?_) | refine Exists.intro _ (And.intro rfl ?_) | refine And.intro (by decide) ?_ | refine And.intro (by omega) ?_ | refine Or.inl (Exists.intro _ (And.intro rfl (And.intro (by unfold I64; omega) ?_))) | refine And.intro (show (_ : Nat) < _ from by simp) ?_))
    refine hK0 _ _ ?_
    clear hK0 K0
    refine And.intro (fun he => ?_) (fun he => ?_)
    · have he : x.tdiv a = y.tdiv a := by simpa using he
      refine ⟨[(0, 0)], _, [ro ([a, h])], by simp, anch_of rfl, ⟨⟨_, rfl, BRen.ints _ _ _⟩, trivial⟩, rfl, VRen.plain rfl, (by rw [decide_eq_true he]; rfl), rfl⟩
    · have he : ¬ x.tdiv a = y.tdiv a := by simpa using he
      obtain ⟨d, hd⟩ : ∃ d, gapF a h (x.tdiv a) (y.tdiv a) = d := ⟨_, rfl⟩
      have hg := gap_in hi0 hi1 hj0 hj1 he
      rw [hd] at hg
      rw [hd, decide_eq_false he, Bool.false_or]
      refine vcg_draw tok mx [0, 0, 3, 7, 0, 16, 63, 0, 176, 511, 1023] [false, false, false, false, false, true, true, true, false, false, false] [0, 1, 2, 3, 4, 7, 5, 6, 8, 9, 10] (by kernel_rfl) ?_
      refine vopsO_gen (fun K0 hK0 => ?_)
      (repeat (first | refine And.intro (fun _ => ?_) (fun h => absurd h (by decide)) | refine And.intro (fun h => absurd h (by decide)) (fun _ => ?_) | refine Exists.intro _ (And.intro rfl ?_) | refine And.intro (by decide) ?_ | refine And.intro (by omega) ?_ | refine Or.inl (Exists.intro _ (And.intro rfl (And.intro (by unfold I64; omega) ?_)))))
      (first | refine c70 ha hh rfl ?_ | refine (c70 ha hh rfl ?_).call)
      (repeat (first | refine And.intro (fun _ => ?_) (fun h => absurd h (by decide)) | refine And.intro (fun h => absurd h (by decide)) (fun _ => ?_) | refine Exists.intro _ (And.intro rfl ?_) | refine And.intro (by decide) ?_ | refine And.intro (by omega) ?_ | refine Or.inl (Exists.intro _ (And.intro rfl (And.intro (by unfold I64; omega) ?_)))))
      (first | refine c70 ha hh rfl ?_ | refine (c70 ha hh rfl ?_).call)
      refine ⟨by omega, d, hd, ?_⟩
      refine hK0 _ _ ?_
      clear hK0 K0
      refine vcg_draw tok mx [0, 0, 0, 7, 0, 31, 63, 127, 127, 127, 639, 1663, 127, 7807, 16383, 127, 65535, 131071, 262143] [false, true, true, false, true, false, false, false, true, true, true, true, true, true, false, true, false, false, false] [0, 1, 2, 4, 3, 5, 6, 7, 8, 9, 12, 15, 10, 11, 13, 14, 16, 17, 18] (by kernel_rfl) ?_
      refine vopsO_gen (fun K0 hK0 => ?_)
      (repeat (first | refine And.intro (fun _ => ?_) (fun h => absurd h (by decide)) | refine And.intro (fun h => absurd h (by decide)) (fun _ => ?_) | refine Exists.intro _ (And.intro rfl ?_) | refine And.intro (by decide) ?_ | refine And.intro (by omega) ?_ | refine Or.inl (Exists.intro _ (And.intro rfl (And.intro (by unfold I64; omega) ?_)))))
      (first | refine c80 ha hh (by omega) (by omega) rfl ?_ | refine (c80 ha hh (by omega) (by omega) rfl ?_).call)
      refine And.intro (fun h1 => ?_) (fun h1 => ?_)
      · (repeat (first | refine And.intro (fun _ => ?_) (fun h => absurd h (by decide)) | refine And.intro (fun h => absurd h (by decide)) (fun _ => ?_) | refine Exists.intro _ (And.intro rfl ?_) | refine And.intro (by decide) ?_ | refine And.intro (by omega) ?_ | refine Or.inl (Exists.intro _ (And.intro rfl (And.intro (by unfold I64; omega) ?_)))))
        (first | refine c70 ha hh rfl ?_ | refine (c70 ha hh rfl ?_).call)
        (repeat (first | refine And.intro (fun _ => ?_) (fun h => absurd h (by decide)) | refine And.intro (fun h => absurd h (by decide)) (fun _ => ?_) | refine Exists.intro _ (And.intro rfl ?_) | refine And.intro (by decide) ?_ | refine And.intro (by omega) ?_ | refine Or.inl (Exists.intro _ (And.intro rfl (And.intro (by unfold I64; omega) ?_)))))
        (first | refine c80 ha hh (by omega) (by omega) rfl ?_ | refine (c80 ha hh (by omega) (by omega) rfl ?_).call)
        (repeat (first | refine And.intro (fun _ => ?_) (fun h => absurd h (by decide)) | refine And.intro (fun h => absurd h (by decide)) (fun _ => ?_) | refine Exists.intro _ (And.intro rfl ?_) | refine And.intro (by decide) ?_ | refine And.intro (by omega) ?_ | refine Or.inl (Exists.intro _ (And.intro rfl (And.intro (by unfold I64; omega) ?_)))))
        refine hK0 _ _ ?_
        refine ⟨[(0, 0)], _, [ro ([a, h])], by simp, anch_of rfl, ⟨⟨_, rfl, BRen.ints _ _ _⟩, trivial⟩, rfl, VRen.plain rfl, (by rw [show decide (porF a h (x.tdiv a) d = x) = true from h1]; rfl), rfl⟩
      · (repeat (first | refine And.intro (fun _ => ?_) (fun h => absurd h (by decide)) | refine And.intro (fun h => absurd h (by decide)) (fun _ => ?_) | refine Exists.intro _ (And.intro rfl ?_) | refine And.intro (by decide) ?_ | refine And.intro (by omega) ?_ | refine Or.inl (Exists.intro _ (And.intro rfl (And.intro (by unfold I64; omega) ?_)))))
        refine hK0 _ _ ?_
        refine ⟨[(0, 0)], _, [ro ([a, h])], by simp, anch_of rfl, ⟨⟨_, rfl, BRen.ints _ _ _⟩, trivial⟩, rfl, VRen.plain rfl, (by rw [show decide (porF a h (x.tdiv a) d = x) = false from h1]; rfl), rfl⟩
end Go.Af.Try
namespace Go.Af.Try
open Go Go.Proofs
attribute [local irreducible] awp ACall ACallX AYield AInvoke newSlice isCells rdCells wrCells aAppend

abbrev none' : Nat → Prop := fun _ => False
def lnkL (s : Sh) (x : Int) (m : Nat) : List Int := ((List.range m).map fun y : Nat => (y : Int)).filter (s.lnk x)
theorem lnkL_succ (s : Sh) (x : Int) (m : Nat) : lnkL s x (m + 1) = lnkL s x m ++ (if s.lnk x m then [(m : Int)] else []) := by
  simp only [lnkL, List.range_succ, List.map_append, List.filter_append, List.map_cons, List.map_nil, List.filter_cons, List.filter_nil]
theorem lnkL_len (s : Sh) (x : Int) (m : Nat) : (lnkL s x m).length ≤ m := by
  have := List.length_filter_le (s.lnk x) ((List.range m).map fun y : Nat => (y : Int))
  simpa [lnkL] using this
theorem lnkL_mem {s : Sh} {x y : Int} {m : Nat} : y ∈ lnkL s x m ↔ (0 ≤ y ∧ y < m) ∧ s.lnk x y = true := by
  simp only [lnkL, List.mem_filter, List.mem_map, List.mem_range]
  constructor
  · rintro ⟨⟨k, hk, rfl⟩, h⟩; exact ⟨⟨by omega, by omega⟩, h⟩
  · rintro ⟨⟨h0, h1⟩, h⟩; exact ⟨⟨y.toNat, by omega, by omega⟩, h⟩

theorem c86 {H : List Blk} {R : Value → List Blk → Prop} {b c : Nat} {wr : Bool} {kind hosts x y : Int} {sides : List Int} {s : Sh} (hok : s.ok) (hof : s.of kind sides) (hx : 0 ≤ x ∧ x < s.sw) (hy : 0 ≤ y ∧ y < s.sw) (hb : bget H b = some (.cells wr 1 (ints sides))) (hl : sides.length ≤ c) (h : R (.bool (s.lnk x y)) H) :
    ACallX Try.prog 86 [spV kind (.slice (some ⟨b, 0, none⟩) sides.length c) hosts, .int .i64 x, .int .i64 y] H R := acallx_sp rfl (l86 kind hosts x y sides s hok hof hx hy) hb hl rfl h


set_option maxHeartbeats 1000000 in
theorem g72 {H : List Blk} {R : Value → List Blk → Prop} {b n : Nat} {wr : Bool} {kind hosts x : Int} {sides : List Int} {s : Sh} (hok : s.ok) (hof : s.of kind sides) (hn : s.sw = n) (hx : 0 ≤ x ∧ x < s.sw) (hb : bget H b = some (.cells wr 1 (ints sides)))
    (h : ∀ H' k, HS H none' [(true, k, rw' (lnkL s x n))] H' → R (sv k (lnkL s x n).length) H') : ACall Try.prog 72 [spV kind (sv b sides.length) hosts, .int .i64 x] H R := by
  have hbd := sw_bd hok
  refine acall_vcg tok Try.call72 Try.func72 rfl Try.ntmps72 rfl (by simp) ?_
  refine new_hs (((HS.start H none').add (c := false) hb (fun i p hi => by simp at hi) (fun h => by cases h))) (fun H1 b1 e1 l1 hs1 => ?_)
  refine vcg_loopV (α := List Blk × Nat × Nat) tok (fun z => HS H none' [(true, z.2.1, rw' (lnkL s x z.2.2)), (true, b1, .cells true 1 [.int .i64 kind, sv b sides.length, .int .i64 hosts]), (false, b, .cells wr 1 (ints sides))] z.1 ∧ z.2.2 ≤ n)
    (fun | (_, k, y) => [(1, .int .i64 x), (2, pV b1), (5, sv k (lnkL s x y).length), (6, .int .i64 (y : Int))]) (fun | (H', _, _) => H') (fun z => n - z.2.2)
    (H1 ++ [rw' []], H1.length, 0) ⟨hs1.virt _, Nat.zero_le _⟩ ⟨⟨_, rfl, .rfl⟩, ⟨_, rfl, .rfl⟩, ⟨_, rfl, WkV.nil _⟩, ⟨_, rfl, .rfl⟩, trivial⟩ (WkH.rfl.app _) ?_
  clear hs1
  rintro ⟨H2, k, y⟩ ⟨hs, hy⟩
  simp only at hs hy
  have hlen := lnkL_len s x y
  refine rdCells_of (hs.get 1 rfl) ?_
  refine ⟨_, rfl, _, rfl, _, rfl, ?_⟩
  (first | refine c58 hok hof (hs.get 2 rfl) (Nat.le_refl _) ?_ | refine (c58 hok hof (hs.get 2 rfl) (Nat.le_refl _) ?_).call)
  rw [hn]
  refine And.intro (fun hc => ?_) (fun hc => ?_)
  · have hlt : y < n := by simpa using hc
    refine rdCells_of (hs.get 1 rfl) ?_
    refine ⟨_, rfl, _, rfl, _, rfl, ?_⟩
    (first | refine c86 hok hof hx ⟨by omega, by omega⟩ (hs.get 2 rfl) (Nat.le_refl _) ?_ | refine (c86 hok hof hx ⟨by omega, by omega⟩ (hs.get 2 rfl) (Nat.le_refl _) ?_).call)
    refine And.intro (fun hc => ?_) (fun hc => ?_)
    · have hc : s.lnk x y = true := hc
      refine And.intro (by decide) ?_
      refine newS_hs hs (fun H3 j e3 l3 hs3 => ?_)
      refine And.intro rfl ?_
      refine app_hs hs3 1 rfl (by decide) (hs3.get 0 rfl) rfl rfl (by simp) (by simp only; omega) (fun H4 k' e4 l4 hs4 => ?_)
      have e : lnkL s x (y + 1) = lnkL s x y ++ [(y : Int)] := by rw [lnkL_succ, if_pos hc]
      refine Or.inl ⟨((y + 1 : Nat) : Int), by simp, by unfold I64; omega, ?_⟩
      refine ⟨(H4, k', y + 1), ⟨?_, hlt⟩, by simp only; omega, Or.inl ⟨⟨rfl, rfl, ?_, rfl, trivial⟩, rfl⟩⟩
      · simp only [e, rw', ints_append]
        exact hs4.tail
      · rw [e]; simp [look]
    · have hc : s.lnk x y = false := hc
      have e : lnkL s x (y + 1) = lnkL s x y := by rw [lnkL_succ, if_neg (by rw [hc]; decide), List.append_nil]
      refine Or.inl ⟨((y + 1 : Nat) : Int), by simp, by unfold I64; omega, ?_⟩
      exact ⟨(H2, k, y + 1), ⟨by simp only [e]; exact hs, hlt⟩, by simp only; omega, Or.inl ⟨⟨rfl, rfl, by rw [e]; rfl, rfl, trivial⟩, rfl⟩⟩
  · have : y = n := by simp at hc; omega
    subst this
    exact h _ _ (hs.pick [0] (by decide) rfl)
end Go.Af.Try
namespace Go.Af.Try
open Go Go.Proofs
attribute [local irreducible] awp ACall ACallX AYield AInvoke newSlice isCells rdCells wrCells aAppend

def pairC (p : Int × Int) : List Value := [.int .i64 p.1, .int .i64 p.2]
def flat2 : List (Int × Int) → List Value
  | [] => []
  | p :: r => pairC p ++ flat2 r
theorem flat2_len : ∀ ps : List (Int × Int), (flat2 ps).length = ps.length * 2
  | [] => rfl
  | p :: r => by simp [flat2, pairC, flat2_len r]; omega
theorem flat2_snoc (p : Int × Int) : ∀ ps : List (Int × Int), flat2 (ps ++ [p]) = flat2 ps ++ pairC p
  | [] => by simp [flat2]
  | q :: r => by simp [flat2, flat2_snoc p r]
theorem flat2_get : ∀ (ps : List (Int × Int)) (i : Nat) (p : Int × Int), ps[i]? = some p → (flat2 ps)[0 + i * 2]? = some (.int .i64 p.1) ∧ (flat2 ps)[0 + i * 2 + 1]? = some (.int .i64 p.2)
  | [], _, _, h => by simp at h
  | q :: r, 0, p, h => by simp at h; subst h; exact ⟨rfl, rfl⟩
  | q :: r, i + 1, p, h => by
    obtain ⟨h1, h2⟩ := flat2_get r i p (by simpa using h)
    have e : ∀ k, (flat2 (q :: r))[k + 2]? = (flat2 r)[k]? := fun k => by
      show (pairC q ++ flat2 r)[k + 2]? = _
      rw [List.getElem?_append_right (by simp [pairC])]; simp [pairC]
    refine ⟨?_, ?_⟩
    · rw [show 0 + (i + 1) * 2 = (0 + i * 2) + 2 by omega, e]; exact h1
    · rw [show 0 + (i + 1) * 2 + 1 = (0 + i * 2 + 1) + 2 by omega, e]; exact h2

def upL (x : Int) (l : List Int) : List (Int × Int) := (l.filter fun y => decide (x < y)).map fun y => (x, y)
theorem upL_len (x : Int) (l : List Int) : (upL x l).length ≤ l.length := by
  simp only [upL, List.length_map]; exact List.length_filter_le _ _
theorem upL_snoc (x y : Int) (l : List Int) : upL x (l ++ [y]) = upL x l ++ (if x < y then [(x, y)] else []) := by
  simp only [upL, List.filter_append, List.map_append, List.filter_cons, List.filter_nil]
  by_cases h : x < y <;> simp [h]
def lnkP (s : Sh) (n : Nat) : Nat → List (Int × Int)
  | 0 => []
  | m + 1 => lnkP s n m ++ upL m (lnkL s m n)
theorem lnkP_len (s : Sh) (n : Nat) : ∀ m : Nat, (lnkP s n m).length ≤ m * n
  | 0 => by simp [lnkP]
  | m + 1 => by
    have h1 := lnkP_len s n m
    have h2 := upL_len m (lnkL s m n)
    have h3 := lnkL_len s m n
    rw [lnkP, List.length_append, Nat.succ_mul]
    omega


/-- What the loops keep. -/
abbrev lkL (kind hosts : Int) (b b1 k : Nat) (wr : Bool) (sides : List Int) (ps : List (Int × Int)) : List (Bool × Nat × Blk) := [(true, k, .cells true 2 (flat2 ps)), (true, b1, .cells true 1 [.int .i64 kind, sv b sides.length, .int .i64 hosts]), (false, b, .cells wr 1 (ints sides))]

set_option maxHeartbeats 1000000 in
theorem g39 {H : List Blk} {R : Value → List Blk → Prop} {b n : Nat} {wr : Bool} {kind hosts : Int} {sides : List Int} {s : Sh} (hs : shapeF kind sides hosts = some s) (hn : s.sw = n) (hb : bget H b = some (.cells wr 1 (ints sides)))
    (h : ∀ H' k, HS H none' [(true, k, .cells true 2 (flat2 (lnkP s n n)))] H' → R (.tuple ⟨[sv k (lnkP s n n).length, .int .i64 0]⟩) H') : ACall Try.prog 39 [spV kind (sv b sides.length) hosts] H R := by
  have hok := shapeF_ok hs
  have hof := shapeF_of hs
  have hbd := sw_bd hok
  refine acall_vcg tok Try.call39 Try.func39 rfl Try.ntmps39 rfl (by simp) ?_
  refine new_hs (((HS.start H none').add (c := false) hb (fun i p hi => by simp at hi) (fun h => by cases h))) (fun H1 b1 e1 l1 hs1 => ?_)
  refine rdCells_of (hs1.get 0 rfl) ?_
  refine ⟨_, rfl, _, rfl, _, rfl, ?_⟩
  (first | refine c25 (hs1.get 1 rfl) (Nat.le_refl _) ?_ | refine (c25 (hs1.get 1 rfl) (Nat.le_refl _) ?_).call)
  rw [hs]
  simp only [eF]
  refine And.intro (fun h => absurd h (by decide)) (fun _ => ?_)
  refine vcg_loopV (α := List Blk × Nat × Nat) tok (fun z => HS H none' (lkL kind hosts b b1 z.2.1 wr sides (lnkP s n z.2.2)) z.1 ∧ z.2.2 ≤ n)
    (fun | (_, k, y) => [(1, pV b1), (5, sv k (lnkP s n y).length), (6, .int .i64 (y : Int))]) (fun | (H', _, _) => H') (fun z => n - z.2.2)
    (H1 ++ [.cells true 2 []], H1.length, 0) ⟨hs1.virt _, Nat.zero_le _⟩ ⟨⟨_, rfl, .rfl⟩, ⟨_, rfl, WkV.nil _⟩, ⟨_, rfl, .rfl⟩, trivial⟩ (WkH.rfl.app _) ?_
  clear hs1
  rintro ⟨H2, k, x⟩ ⟨hs2, hx⟩
  simp only at hs2 hx
  have hlen := lnkP_len s n x
  refine rdCells_of (hs2.get 1 rfl) ?_
  refine ⟨_, rfl, _, rfl, _, rfl, ?_⟩
  (first | refine c58 hok hof (hs2.get 2 rfl) (Nat.le_refl _) ?_ | refine (c58 hok hof (hs2.get 2 rfl) (Nat.le_refl _) ?_).call)
  rw [hn]
  refine And.intro (fun hc => ?_) (fun hc => ?_)
  · have hlt : x < n := by simpa using hc
    refine rdCells_of (hs2.get 1 rfl) ?_
    refine ⟨_, rfl, _, rfl, _, rfl, ?_⟩
    refine g72 hok hof hn ⟨by omega, by omega⟩ (hs2.get 2 rfl) (fun H3 j hs3 => ?_)
    have hs3 := hs2.call hs3 rfl
    have hrl := lnkL_len s x n
    refine vcg_loopR (α := List Blk × Nat × Nat) tok (fun z => HS H none' ((true, j, rw' (lnkL s x n)) :: lkL kind hosts b b1 z.2.1 wr sides (lnkP s n x ++ upL x ((lnkL s x n).take z.2.2))) z.1 ∧ z.2.2 ≤ (lnkL s x n).length)
      (fun | (_, k, y) => [(1, pV b1), (5, sv k (lnkP s n x ++ upL x ((lnkL s x n).take y)).length), (6, .int .i64 (x : Int)), (7, sv j (lnkL s x n).length), (8, .int .i64 (y : Int))]) (fun | (H', _, _) => H') (fun z => (lnkL s x n).length - z.2.2)
      (H3, k, 0) ⟨by simpa [upL] using hs3, Nat.zero_le _⟩ (Or.inl ⟨⟨rfl, by simp [upL, look], rfl, rfl, rfl, trivial⟩, rfl⟩) ?_
    clear hs3 hs2
    rintro ⟨H4, k2, y⟩ ⟨hs4, hy⟩
    simp only at hs4 hy
    refine And.intro (fun hc => ?_) (fun hc => ?_)
    · have hly : y < (lnkL s x n).length := by simpa using hc
      have htk : (lnkL s x n).take (y + 1) = (lnkL s x n).take y ++ [(lnkL s x n)[y]!] := by rw [List.take_succ_eq_append_getElem hly, getElem!_pos _ y hly]
      refine isCells_of (hs4.get 0 rfl) ⟨y, rfl, hly, ?_⟩
      refine rdCells_of (hs4.get 0 rfl) (Ld_ints y (lnkL s x n)[y]! (by simp) (by simp [hly]) ?_)
      have hul := upL_len x ((lnkL s x n).take y)
      have htl : ((lnkL s x n).take y).length ≤ n := by simp; omega
      have hmn : x * n + n ≤ 1024 * 1024 := by
        have := Nat.mul_le_mul (show x + 1 ≤ 1024 by omega) (show n ≤ 1024 by omega)
        rw [Nat.succ_mul] at this; exact this
      refine And.intro (fun hg => ?_) (fun hg => ?_)
      · have hg : (x : Int) < (lnkL s x n)[y]! := by simpa using hg
        refine isCells_of (hs4.get 0 rfl) ⟨y, rfl, hly, ?_⟩
        refine rdCells_of (hs4.get 0 rfl) (Ld_ints y (lnkL s x n)[y]! (by simp) (by simp [hly]) ?_)
        refine And.intro (by decide) ?_
        refine newS_hs hs4 (fun H5 j2 e5 l5 hs5 => ?_)
        refine And.intro rfl ?_
        refine app_hs hs5 2 rfl (by decide) (hs5.get 0 rfl) rfl rfl (flat2_len _) (by simp only [List.length_append]; omega) (fun H6 k' e6 l6 hs6 => ?_)
        have e : lnkP s n x ++ upL x ((lnkL s x n).take (y + 1)) = (lnkP s n x ++ upL x ((lnkL s x n).take y)) ++ [((x : Int), (lnkL s x n)[y]!)] := by
          rw [htk, upL_snoc, if_pos hg, List.append_assoc]
        refine Or.inl ⟨((y + 1 : Nat) : Int), by simp, by unfold I64; omega, ?_⟩
        refine ⟨(H6, k', y + 1), ⟨?_, hly⟩, by simp only; omega, Or.inl ⟨⟨rfl, ?_, rfl, rfl, rfl, trivial⟩, rfl⟩⟩
        · simp only
          rw [e]
          simp only [lkL, flat2_snoc]
          exact hs6.tail
        · rw [e]; simp [look]; omega
      · have hg : ¬ (x : Int) < (lnkL s x n)[y]! := by simpa using hg
        have e : upL x ((lnkL s x n).take (y + 1)) = upL x ((lnkL s x n).take y) := by rw [htk, upL_snoc, if_neg hg, List.append_nil]
        refine Or.inl ⟨((y + 1 : Nat) : Int), by simp, by unfold I64; omega, ?_⟩
        exact ⟨(H4, k2, y + 1), ⟨by simp only [e]; exact hs4, hly⟩, by simp only; omega, Or.inl ⟨⟨rfl, by rw [e]; rfl, rfl, rfl, rfl, trivial⟩, rfl⟩⟩
    · have : y = (lnkL s x n).length := by simp at hc; omega
      subst this
      rw [List.take_length] at hs4
      refine Or.inl ⟨((x + 1 : Nat) : Int), by simp, by unfold I64; omega, ?_⟩
      exact ⟨(H4, k2, x + 1), ⟨hs4.tail, hlt⟩, by simp only; omega, Or.inl ⟨⟨rfl, congrArg (fun z => some (sv k2 z)) (by rw [List.take_length]; rfl), rfl, trivial⟩, rfl⟩⟩
  · have : x = n := by simp at hc; omega
    subst this
    exact h _ _ (hs2.pick [0] (by decide) rfl)
theorem g39n {H : List Blk} {R : Value → List Blk → Prop} {b : Nat} {wr : Bool} {kind hosts : Int} {sides : List Int} (hs : shapeF kind sides hosts = none) (hb : bget H b = some (.cells wr 1 (ints sides)))
    (h : ∀ H', HS H none' [] H' → R (.tuple ⟨[.slice none 0 0, .int .i64 2]⟩) H') : ACall Try.prog 39 [spV kind (sv b sides.length) hosts] H R := by
  refine acall_vcg tok Try.call39 Try.func39 rfl Try.ntmps39 rfl (by simp) ?_
  refine new_hs (((HS.start H none').add (c := false) hb (fun i p hi => by simp at hi) (fun h => by cases h))) (fun H1 b1 e1 l1 hs1 => ?_)
  refine rdCells_of (hs1.get 0 rfl) ?_
  refine ⟨_, rfl, _, rfl, _, rfl, ?_⟩
  (first | refine c25 (hs1.get 1 rfl) (Nat.le_refl _) ?_ | refine (c25 (hs1.get 1 rfl) (Nat.le_refl _) ?_).call)
  rw [hs]
  simp only [eF]
  refine And.intro (fun _ => ?_) (fun h => absurd h (by decide))
  exact h _ (hs1.pick [] (by decide) rfl)

/-! ### Across -/
def acrR (side : List Bool) (ps : List (Int × Int)) : Nat := ps.countP fun p => side[p.1.toNat]! != side[p.2.toNat]!
theorem acrR_le (side : List Bool) (ps : List (Int × Int)) : acrR side ps ≤ ps.length := List.countP_le_length
theorem acrR_snoc (side : List Bool) (ps : List (Int × Int)) (p : Int × Int) : acrR side (ps ++ [p]) = acrR side ps + (if side[p.1.toNat]! != side[p.2.toNat]! then 1 else 0) := by
  simp only [acrR, List.countP_append, List.countP_cons, List.countP_nil]; simp
theorem lnkP_mem {s : Sh} {n : Nat} {p : Int × Int} : ∀ {m : Nat}, p ∈ lnkP s n m → (0 ≤ p.1 ∧ p.1 < m) ∧ (0 ≤ p.2 ∧ p.2 < n)
  | 0, h => by simp [lnkP] at h
  | m + 1, h => by
    rw [lnkP, List.mem_append] at h
    rcases h with h | h
    · have := lnkP_mem h; exact ⟨⟨this.1.1, by have := this.1.2; omega⟩, this.2⟩
    · obtain ⟨y, hy, rfl⟩ := List.mem_map.1 h
      have := (lnkL_mem.1 (List.mem_filter.1 hy).1).1
      exact ⟨⟨by simp only; omega, by simp only; omega⟩, this⟩

set_option maxHeartbeats 1000000 in
theorem g36 {H : List Blk} {R : Value → List Blk → Prop} {b j n : Nat} {wr w2 : Bool} {kind hosts : Int} {sides : List Int} {side : List Bool} {s : Sh} (hs : shapeF kind sides hosts = some s) (hn : s.sw = n) (hb : bget H b = some (.cells wr 1 (ints sides))) (hj : bget H j = some (.cells w2 1 (bls side))) (hbj : b ≠ j)
    (h : ∀ H', HS H none' [] H' → R (.tuple ⟨if side.length = n then [.int .i64 (acrR side (lnkP s n n) : Nat), .int .i64 0] else [.int .i64 0, .int .i64 2]⟩) H') : ACall Try.prog 36 [spV kind (sv b sides.length) hosts, sv j side.length] H R := by
  have hok := shapeF_ok hs
  have hof := shapeF_of hs
  have hbd := sw_bd hok
  refine acall_vcg tok Try.call36 Try.func36 rfl Try.ntmps36 rfl (by simp) ?_
  refine new_hs ((((HS.start H none').add (c := false) hb (fun i p hi => by simp at hi) (fun h => by cases h)).add (c := false) hj (fun i p hi => by
    cases i with
    | zero => simp at hi; subst hi; exact hbj
    | succ i => simp at hi) (fun h => by cases h))) (fun H1 b1 e1 l1 hs1 => ?_)
  refine rdCells_of (hs1.get 0 rfl) ?_
  refine ⟨_, rfl, _, rfl, _, rfl, ?_⟩
  refine g39 hs hn (hs1.get 2 rfl) (fun H2 k hs2 => ?_)
  have hs2 := hs1.call hs2 rfl
  clear hs1
  have hpl := lnkP_len s n n
  have hpm : ∀ p, p ∈ lnkP s n n → (0 ≤ p.1 ∧ p.1 < n) ∧ (0 ≤ p.2 ∧ p.2 < n) := fun p hp => lnkP_mem hp
  generalize lnkP s n n = ps at *
  have hmn : n * n ≤ 1024 * 1024 := Nat.mul_le_mul (by omega) (by omega)
  refine ⟨_, rfl, _, rfl, ?_⟩
  refine And.intro (fun h => absurd h (by decide)) (fun _ => ?_)
  refine rdCells_of (hs2.get 1 rfl) ?_
  refine ⟨_, rfl, _, rfl, _, rfl, ?_⟩
  (first | refine c58 hok hof (hs2.get 3 rfl) (Nat.le_refl _) ?_ | refine (c58 hok hof (hs2.get 3 rfl) (Nat.le_refl _) ?_).call)
  rw [hn]
  refine And.intro (fun hc => ?_) (fun hc => ?_)
  · have hc : ¬ side.length = n := by have : ¬ (side.length : Int) = n := by simpa using hc
                                      omega
    have h := h _ (hs2.pick [] (by decide) rfl)
    rw [if_neg hc] at h
    exact h
  · have hc : side.length = n := by have : (side.length : Int) = n := by simpa using hc
                                    omega
    rw [if_pos hc] at h
    refine vcg_loopR (α := Nat) tok (fun i => i ≤ ps.length) (fun i => [(1, sv j side.length), (6, sv k ps.length), (8, .int .i64 (acrR side (ps.take i) : Nat)), (9, .int .i64 (i : Int))]) (fun _ => H2) (fun i => ps.length - i) 0 (Nat.zero_le _) (Or.inl ⟨⟨rfl, rfl, rfl, rfl, trivial⟩, rfl⟩) ?_
    intro i hi
    refine And.intro (fun hc => ?_) (fun hc => ?_)
    · have hlt : i < ps.length := by simpa using hc
      have hpi : ps[i]? = some ps[i]! := by simp [hlt]
      have hm := hpm _ (List.mem_of_getElem? hpi)
      obtain ⟨g1, g2⟩ := flat2_get ps i _ hpi
      have htk : ps.take (i + 1) = ps.take i ++ [ps[i]!] := by rw [List.take_succ_eq_append_getElem hlt, getElem!_pos _ i hlt]
      have hal := acrR_le side (ps.take i)
      have hal2 : (ps.take i).length ≤ ps.length := by simp; omega
      have hsn := acrR_snoc side (ps.take i) ps[i]!
      rw [← htk] at hsn
      obtain ⟨⟨pa, pb⟩, hp⟩ : ∃ q, ps[i]! = q := ⟨_, rfl⟩
      rw [hp] at hm g1 g2 hsn
      simp only at hm g1 g2 hsn
      obtain ⟨a, rfl⟩ : ∃ a : Nat, pa = a := ⟨pa.toNat, by omega⟩
      obtain ⟨c, rfl⟩ : ∃ c : Nat, pb = c := ⟨pb.toNat, by omega⟩
      simp only [Int.toNat_natCast] at hsn
      refine vcg_draw tok mx [0, 0, 0, 6, 14, 30, 63, 127, 0, 0, 0, 1536, 3584, 7680, 16128, 32512, 65535] [false, false, false, false, false, false, false, false, true, true, true, true, true, true, true, true, false] [0, 1, 2, 3, 4, 5, 6, 7, 8, 9, 10, 11, 12, 13, 14, 15, 16] (by kernel_rfl) ?_
      refine vopsO_gen (fun K0 hK0 => ?_)
      refine isCells_of (hs2.get 0 rfl) ⟨i, rfl, hlt, ?_⟩
      refine And.intro (by decide) (isCells_of (hs2.get 0 rfl) ?_)
      refine rdCells_of (hs2.get 0 rfl) ?_
      refine ⟨_, g1, ?_⟩
      refine isCells_of (hs2.get 2 rfl) ⟨a, rfl, by omega, ?_⟩
      refine rdCells_of (hs2.get 2 rfl) ?_
      refine ⟨_, bls_get (by omega), ?_⟩
      refine isCells_of (hs2.get 0 rfl) ⟨i, rfl, hlt, ?_⟩
      refine And.intro (by decide) (isCells_of (hs2.get 0 rfl) ?_)
      refine rdCells_of (hs2.get 0 rfl) ?_
      refine ⟨_, g2, ?_⟩
      refine isCells_of (hs2.get 2 rfl) ⟨c, rfl, by omega, ?_⟩
      refine rdCells_of (hs2.get 2 rfl) ?_
      refine ⟨_, bls_get (by omega), ?_⟩
      refine hK0 _ _ ?_
      clear hK0 K0
      refine And.intro (fun hd => ?_) (fun hd => ?_)
      · have e : acrR side (ps.take (i + 1)) = acrR side (ps.take i) + 1 := by
          rw [hsn, if_pos]
          cases h1 : side[a]! <;> cases h2 : side[c]! <;> simp [h1, h2] at hd ⊢
        refine Or.inl ⟨((acrR side (ps.take (i + 1)) : Nat) : Int), by rw [e]; simp, by unfold I64; omega, ?_⟩
        refine Or.inl ⟨((i + 1 : Nat) : Int), by simp, by unfold I64; omega, ?_⟩
        exact ⟨i + 1, hlt, by omega, Or.inl ⟨⟨rfl, rfl, rfl, rfl, trivial⟩, rfl⟩⟩
      · have e : acrR side (ps.take (i + 1)) = acrR side (ps.take i) := by
          rw [hsn, if_neg, Nat.add_zero]
          cases h1 : side[a]! <;> cases h2 : side[c]! <;> simp [h1, h2] at hd ⊢
        refine Or.inl ⟨((i + 1 : Nat) : Int), by simp, by unfold I64; omega, ?_⟩
        exact ⟨i + 1, hlt, by omega, Or.inl ⟨⟨rfl, rfl, by rw [e]; rfl, rfl, trivial⟩, rfl⟩⟩
    · have : i = ps.length := by simp at hc; omega
      subst this
      rw [List.take_length]
      exact h _ (hs2.pick [] (by decide) rfl)
theorem g36n {H : List Blk} {R : Value → List Blk → Prop} {b : Nat} {wr : Bool} {kind hosts : Int} {sides : List Int} {v : Value} (hs : shapeF kind sides hosts = none) (hb : bget H b = some (.cells wr 1 (ints sides)))
    (h : ∀ H', HS H none' [] H' → R (.tuple ⟨[.int .i64 0, .int .i64 2]⟩) H') : ACall Try.prog 36 [spV kind (sv b sides.length) hosts, v] H R := by
  refine acall_vcg tok Try.call36 Try.func36 rfl Try.ntmps36 rfl (by simp) ?_
  refine new_hs (((HS.start H none').add (c := false) hb (fun i p hi => by simp at hi) (fun h => by cases h))) (fun H1 b1 e1 l1 hs1 => ?_)
  refine rdCells_of (hs1.get 0 rfl) ?_
  refine ⟨_, rfl, _, rfl, _, rfl, ?_⟩
  refine g39n hs (hs1.get 1 rfl) (fun H2 hs2 => ?_)
  have hs2 := hs1.call hs2 rfl
  refine ⟨_, rfl, _, rfl, ?_⟩
  refine And.intro (fun _ => ?_) (fun h => absurd h (by decide))
  exact h _ (hs2.pick [] (by decide) rfl)
end Go.Af.Try
namespace Go.Af.Try
open Go Go.Proofs
attribute [local irreducible] awp ACall ACallX AYield AInvoke

theorem x61' {H : List Blk} {R : Value → List Blk → Prop} {k m : Int} {l : Nat} (hm : m = l) (hk : 2 ≤ k ∧ k ≤ 8) (hl : l ≤ 4) (h : R (.int .i64 (k ^ l)) H) : ACallX Try.prog 61 [.int .i64 k, .int .i64 m] H R := by subst hm; exact x61 hk hl h

theorem l69 (kind hosts k n x v : Int) (N dn : Nat) (hk : 2 ≤ k ∧ k ≤ 8) (hn : 1 ≤ n ∧ n ≤ 4) (hN : (n - 1).toNat = N) (hd : dn < N) (hx : 0 ≤ x ∧ x ≤ 65536) : ACall Try.prog 69 [spV kind (sv 0 2) hosts, .int .i64 x, .int .i64 ((dn + 1 : Nat) : Int), .int .i64 v] [ro [k, n]] (fun r H => r = .bool (sidFa k N dn v x) ∧ H = [ro [k, n]]) := by
  have hW := pow_ok hk (l := N) (by omega)
  have hP := pow_ok hk (l := dn) (by omega)
  have hw0 : 0 ≤ x.tmod (k ^ N) := Int.tmod_nonneg _ hx.1
  have hw1 : x.tmod (k ^ N) < k ^ N := Int.tmod_lt_of_pos _ (by omega)
  have hl0 := Int.tdiv_nonneg (a := x) (b := k ^ N) hx.1 (by omega)
  have hl1 := Int.tdiv_le_self (k ^ N) hx.1
  refine acall_drop (acall_vcg tok Try.call69 Try.func69 rfl Try.ntmps69 rfl (by simp) ?_)
  refine vcg_draw tok mx [0, 0, 2, 7, 0, 31, 63, 127, 127, 383, 1023, 127, 2175, 6271, 14463, 127, 32895, 129919, 262143, 127, 1048575, 2097151, 4194303] [false, false, false, false, true, false, false, false, false, true, true, true, true, true, true, true, true, false, false, true, false, false, false] [0, 1, 4, 2, 3, 5, 6, 7, 8, 11, 12, 13, 14, 15, 16, 19, 9, 10, 17, 18, 20, 21, 22] (by kernel_rfl) ?_
  refine vopsO_gen (fun K0 hK0 => ?_)
  (repeat (first | refine And.intro (fun _ => ?_) (fun h => absurd h (by decide)) | refine And.intro (fun h => absurd h (by decide)) (fun _ => ?_) | refine Exists.intro _ (And.intro rfl ?_) | refine And.intro (by decide) ?_ | refine And.intro (by omega) ?_ | refine Or.inl (Exists.intro _ (And.intro rfl (And.intro (by unfold I64; omega) ?_)))))
  (first | refine c65N hN hk hn rfl ?_ | refine (c65N hN hk hn rfl ?_).call)
  refine ⟨by omega, Or.inl ⟨x.tdiv (k ^ N), rfl, by unfold I64; omega, ?_⟩⟩
  refine And.intro (fun hg => ?_) (fun hg => ?_)
  · (repeat (first | refine And.intro (fun _ => ?_) (fun h => absurd h (by decide)) | refine And.intro (fun h => absurd h (by decide)) (fun _ => ?_) | refine Exists.intro _ (And.intro rfl ?_) | refine And.intro (by decide) ?_ | refine And.intro (by omega) ?_ | refine Or.inl (Exists.intro _ (And.intro rfl (And.intro (by unfold I64; omega) ?_))) | refine And.intro (show (_ : Nat) < _ from by simp) ?_))
    (first | refine c65N hN hk hn rfl ?_ | refine (c65N hN hk hn rfl ?_).call)
    (repeat (first | refine And.intro (fun _ => ?_) (fun h => absurd h (by decide)) | refine And.intro (fun h => absurd h (by decide)) (fun _ => ?_) | refine Exists.intro _ (And.intro rfl ?_) | refine And.intro (by decide) ?_ | refine And.intro (by omega) ?_ | refine Or.inl (Exists.intro _ (And.intro rfl (And.intro (by unfold I64; omega) ?_))) | refine And.intro (show (_ : Nat) < _ from by simp) ?_))
    (first | refine x61' (l := dn) (by omega) hk (by omega) ?_ | refine (x61' (l := dn) (by omega) hk (by omega) ?_).call)
    (repeat (first | refine And.intro (fun _ => ?_) (fun h => absurd h (by decide)) | refine And.intro (fun h => absurd h (by decide)) (fun _ => ?_) | refine Exists.intro _ (And.intro rfl ?_) | refine And.intro (by decide) ?_ | refine And.intro (by omega) ?_ | refine Or.inl (Exists.intro _ (And.intro rfl (And.intro (by unfold I64; omega) ?_))) | refine And.intro (show (_ : Nat) < _ from by simp) ?_))
    refine Or.inl ⟨_, rfl, div_i64 (i64_of (by omega)) hP.1, ?_⟩
    (repeat (first | refine And.intro (fun _ => ?_) (fun h => absurd h (by decide)) | refine And.intro (fun h => absurd h (by decide)) (fun _ => ?_) | refine Exists.intro _ (And.intro rfl ?_) | refine And.intro (by decide) ?_ | refine And.intro (by omega) ?_ | refine Or.inl (Exists.intro _ (And.intro rfl (And.intro (by unfold I64; omega) ?_))) | refine And.intro (show (_ : Nat) < _ from by simp) ?_))
    refine hK0 _ _ ?_
    refine ⟨[(0, 0)], _, [ro ([k, n])], by simp, anch_of rfl, ⟨⟨_, rfl, BRen.ints _ _ _⟩, trivial⟩, rfl, VRen.plain rfl, (by unfold sidFa; rw [show decide (x.tdiv (k ^ N) < ((dn + 1 : Nat) : Int)) = true from hg]; rfl), rfl⟩
  · (repeat (first | refine And.intro (fun _ => ?_) (fun h => absurd h (by decide)) | refine And.intro (fun h => absurd h (by decide)) (fun _ => ?_) | refine Exists.intro _ (And.intro rfl ?_) | refine And.intro (by decide) ?_ | refine And.intro (by omega) ?_ | refine Or.inl (Exists.intro _ (And.intro rfl (And.intro (by unfold I64; omega) ?_))) | refine And.intro (show (_ : Nat) < _ from by simp) ?_))
    refine hK0 _ _ ?_
    refine ⟨[(0, 0)], _, [ro ([k, n])], by simp, anch_of rfl, ⟨⟨_, rfl, BRen.ints _ _ _⟩, trivial⟩, rfl, VRen.plain rfl, (by unfold sidFa; rw [show decide (x.tdiv (k ^ N) < ((dn + 1 : Nat) : Int)) = false from hg]; rfl), rfl⟩
theorem c69 {H : List Blk} {R : Value → List Blk → Prop} {b : Nat} {wr : Bool} {kind hosts k n x v : Int} {N dn : Nat} (hk : 2 ≤ k ∧ k ≤ 8) (hn : 1 ≤ n ∧ n ≤ 4) (hN : (n - 1).toNat = N) (hd : dn < N) (hx : 0 ≤ x ∧ x ≤ 65536) (hb : bget H b = some (.cells wr 1 (ints [k, n]))) (h : R (.bool (sidFa k N dn v x)) H) :
    ACallX Try.prog 69 [spV kind (sv b 2) hosts, .int .i64 x, .int .i64 ((dn + 1 : Nat) : Int), .int .i64 v] H R := acallx_sp (sides := [k, n]) rfl (l69 kind hosts k n x v N dn hk hn hN hd hx) hb (Nat.le_refl _) rfl h
end Go.Af.Try
namespace Go.Af.Try
open Go Go.Proofs
attribute [local irreducible] awp ACall ACallX AYield AInvoke newSlice isCells rdCells wrCells aAppend

theorem gs_tab {gs : List Bool} {f : Int → Bool} {n : Nat} (hl : gs.length = n) (h : ∀ y : Nat, y < n → gs[y]! = f y) : gs = tabF f n := by
  refine List.ext_getElem (by simp [tabF, hl]) (fun y h1 h2 => ?_)
  have := h y (by omega)
  rw [getElem!_pos gs y h1] at this
  rw [this]; simp [tabF]
theorem gs_set {gs : List Bool} {f : Int → Bool} {n i : Nat} (hl : gs.length = n) (hi : i < n) (h : ∀ y : Nat, y < i → gs[y]! = f y) : ∀ y : Nat, y < i + 1 → (gs.set i (f i))[y]! = f y := fun y hy => by
  by_cases e : y = i
  · subst e; rw [getElem!_pos _ y (by simp; omega)]; simp
  · rw [getElem!_pos _ y (by simp; omega), List.getElem_set_ne (by omega), ← getElem!_pos gs y (by omega)]
    exact h y (by omega)

/-- The rows of some sides. -/
def rowsL (n : Nat) : List Nat → List (Int → Bool) → List (Bool × Nat × Blk)
  | k :: ks, f :: fs => (true, k, .cells true 1 (bls (tabF f n))) :: rowsL n ks fs
  | _, _ => []
theorem rowsL_snoc (n j : Nat) (f : Int → Bool) : ∀ (ks : List Nat) (fs : List (Int → Bool)), ks.length = fs.length → rowsL n (ks ++ [j]) (fs ++ [f]) = rowsL n ks fs ++ [(true, j, .cells true 1 (bls (tabF f n)))]
  | [], [], _ => rfl
  | k :: ks, g :: fs, h => by
    have := rowsL_snoc n j f ks fs (by simpa using h)
    simp [rowsL, this]
  | [], _ :: _, h => by simp at h
  | _ :: _, [], h => by simp at h
abbrev heads (n : Nat) (ks : List Nat) : List Value := ks.map fun k => sv k n
abbrev sdL (kind hosts : Int) (b b1 tb n : Nat) (wr : Bool) (sides : List Int) (ks : List Nat) (fs : List (Int → Bool)) : List (Bool × Nat × Blk) :=
  (true, tb, .cells true 1 (heads n ks)) :: (true, b1, .cells true 1 [.int .i64 kind, sv b sides.length, .int .i64 hosts]) :: (false, b, .cells wr 1 (ints sides)) :: rowsL n ks fs
theorem sd_snoc {H0 H : List Blk} {o : Nat → Prop} {kind hosts : Int} {b b1 tb n j : Nat} {wr : Bool} {sides : List Int} {ks : List Nat} {fs : List (Int → Bool)} {f : Int → Bool} (hk : ks.length = fs.length)
    (h : HS H0 o ((true, j, .cells true 1 (bls (tabF f n))) :: (true, tb, .cells true 1 (heads n ks ++ [sv j n])) :: (true, b1, .cells true 1 [.int .i64 kind, sv b sides.length, .int .i64 hosts]) :: (false, b, .cells wr 1 (ints sides)) :: rowsL n ks fs) H) : HS H0 o (sdL kind hosts b b1 tb n wr sides (ks ++ [j]) (fs ++ [f])) H := by
  have e : sdL kind hosts b b1 tb n wr sides (ks ++ [j]) (fs ++ [f]) = ((true, tb, .cells true 1 (heads n ks ++ [sv j n])) :: (true, b1, .cells true 1 [.int .i64 kind, sv b sides.length, .int .i64 hosts]) :: (false, b, .cells wr 1 (ints sides)) :: rowsL n ks fs) ++ [(true, j, .cells true 1 (bls (tabF f n)))] := by
    simp only [sdL, rowsL_snoc n j f ks fs hk, heads, List.map_append, List.map_cons, List.map_nil, List.cons_append]
  rw [e]
  exact h.perm (List.perm_append_singleton _ _).symm

structure FS64 where
  H : List Blk
  gs : List Bool
  x : Nat
structure TS64 where
  H : List Blk
  tb : Nat
  ks : List Nat
  i : Nat


set_option maxHeartbeats 2000000 in
theorem g37 {H : List Blk} {R : Value → List Blk → Prop} {b n : Nat} {wr : Bool} {kind hosts : Int} {sides : List Int} {s : Sh} (hs : shapeF kind sides hosts = some s) (hn : s.sw = n) (hb : bget H b = some (.cells wr 1 (ints sides)))
    (h : ∀ H' tb ks, ks.length = s.sides.length → HS H none' ((true, tb, .cells true 1 (heads n ks)) :: rowsL n ks s.sides) H' → R (.tuple ⟨[sv tb ks.length, .int .i64 0]⟩) H') : ACall Try.prog 37 [spV kind (sv b sides.length) hosts] H R := by
  have hok := shapeF_ok hs
  have hof := shapeF_of hs
  have hbd := sw_bd hok
  have hsl := sides_len hok
  have hsm := nsd_le hok
  refine acall_vcg tok Try.call37 Try.func37 rfl Try.ntmps37 rfl (by simp) ?_
  refine new_hs (((HS.start H none').add (c := false) hb (fun i p hi => by simp at hi) (fun h => by cases h))) (fun H1 b1 e1 l1 hs1 => ?_)
  refine rdCells_of (hs1.get 0 rfl) ?_
  refine ⟨_, rfl, _, rfl, _, rfl, ?_⟩
  (first | refine c25 (hs1.get 1 rfl) (Nat.le_refl _) ?_ | refine (c25 (hs1.get 1 rfl) (Nat.le_refl _) ?_).call)
  rw [hs]
  simp only [eF]
  refine And.intro (fun h => absurd h (by decide)) (fun _ => ?_)
  refine And.intro (by decide) (isCells_of (hs1.get 0 rfl) ?_)
  refine rdCells_of (hs1.get 0 rfl) ?_
  refine ⟨_, rfl, ?_⟩
  have hfin : ∀ H' tb ks, ks.length = s.sides.length → HS H none' (sdL kind hosts b b1 tb n wr sides ks s.sides) H' → R (.tuple ⟨[sv tb ks.length, .int .i64 0]⟩) H' := fun H' tb ks hk hh => h H' tb ks hk (by
    have := (hh.perm (L' := (true, tb, .cells true 1 (heads n ks)) :: ((rowsL n ks s.sides) ++ [(true, b1, .cells true 1 [.int .i64 kind, sv b sides.length, .int .i64 hosts]), (false, b, .cells wr 1 (ints sides))])) (List.Perm.cons _ (by
      have := List.perm_append_comm (l₁ := [(true, b1, Blk.cells true 1 [.int .i64 kind, sv b sides.length, .int .i64 hosts]), (false, b, Blk.cells wr 1 (ints sides))]) (l₂ := rowsL n ks s.sides)
      simpa using this)))
    rw [← List.cons_append] at this
    exact this.left)
  clear h
  have hpre : ∀ {fs : List (Int → Bool)}, fs <+: s.sides → fs.length ≤ 1000000 := fun {fs} hp => by have := hp.length_le; omega
  cases s with
  | grid g =>
    obtain ⟨rfl, rfl⟩ := hof
    have hof : (Sh.grid g).of 1 g := ⟨rfl, rfl⟩
    have hok' := hok
    obtain ⟨hl1, hl2, hm, hp⟩ := hok'
    have hg2 : ∀ m ∈ g, 2 ≤ m := fun m h => (hm m h).1
    refine And.intro (fun _ => ?_) (fun h => absurd h (by decide))
    refine vcg_loopV (α := TS64) tok (fun z => HS H none' (sdL 1 hosts b b1 z.tb n wr g z.ks ((List.range z.i).map (sidG g))) z.H ∧ z.ks.length = z.i ∧ z.i ≤ g.length)
      (fun | ⟨_, tb, ks, i⟩ => [(1, pV b1), (5, sv tb ks.length), (6, .int .i64 (i : Int))]) (fun | ⟨H', _, _, _⟩ => H') (fun z => g.length - z.i)
      ⟨H1 ++ [.cells true 1 []], H1.length, [], 0⟩ ⟨hs1.virt _, rfl, Nat.zero_le _⟩ ⟨⟨_, rfl, .rfl⟩, ⟨_, rfl, WkV.nil _⟩, ⟨_, rfl, .rfl⟩, trivial⟩ (WkH.rfl.app _) ?_
    clear hs1
    rintro ⟨H2, tb, ks, i⟩ ⟨hs2, hki, hi⟩
    simp only at hs2 hki hi
    refine And.intro (by decide) (isCells_of (hs2.get 1 rfl) ?_)
    refine rdCells_of (hs2.get 1 rfl) ?_
    refine ⟨_, rfl, ?_⟩
    refine And.intro (fun hc => ?_) (fun hc => ?_)
    · have hlt : i < g.length := by simpa using hc
      have hgi := hm g[i]! (by rw [getElem!_pos g i hlt]; exact List.getElem_mem hlt)
      refine rdCells_of (hs2.get 1 rfl) ?_
      refine ⟨_, rfl, _, rfl, _, rfl, ?_⟩
      (first | refine c58 hok hof (hs2.get 2 rfl) (Nat.le_refl _) ?_ | refine (c58 hok hof (hs2.get 2 rfl) (Nat.le_refl _) ?_).call)
      rw [hn]
      refine ⟨by decide, n, n, ⟨rfl, rfl⟩, ⟨Nat.le_refl _, by simp only; omega⟩, bls (List.replicate n false), by simp [zeroRep, bls, cellsL], ?_⟩
      refine new_hs hs2 (fun H3 j e3 l3 hs3 => ?_)
      refine vcg_loopR (α := FS64) tok (fun z => HS H none' ((true, j, .cells true 1 (bls z.gs)) :: sdL 1 hosts b b1 tb n wr g ks ((List.range i).map (sidG g))) z.H ∧ z.gs.length = n ∧ (∀ y : Nat, y < z.x → z.gs[y]! = sidG g i y) ∧ z.x ≤ n)
        (fun | ⟨_, _, x⟩ => [(1, pV b1), (5, sv tb ks.length), (6, .int .i64 (i : Int)), (7, sv j n), (8, .int .i64 (x : Int))]) (fun | ⟨H', _, _⟩ => H') (fun z => n - z.x)
        ⟨H3, List.replicate n false, 0⟩ ⟨hs3, by simp, fun y hy => absurd hy (Nat.not_lt_zero y), Nat.zero_le _⟩ (Or.inl ⟨⟨rfl, rfl, rfl, rfl, rfl, trivial⟩, rfl⟩) ?_
      clear hs3 hs2
      rintro ⟨H4, gs, x⟩ ⟨hs4, hg, hgs, hx⟩
      simp only at hs4 hg hgs hx
      refine And.intro (fun hc => ?_) (fun hc => ?_)
      · have hxl : x < n := by simpa using hc
        have hci := coords_in (x := (x : Int)) (by omega) g hg2
        refine vcg_draw tok mx [0, 0, 0, 0, 12, 0, 60, 124, 0, 256, 0, 1792, 3840, 7936, 16380, 32767, 65535] [false, false, false, true, true, true, true, true, true, true, true, true, true, true, false, false, false] [0, 1, 2, 3, 5, 8, 9, 10, 11, 12, 13, 4, 6, 7, 14, 15, 16] (by kernel_rfl) ?_
        refine vopsO_gen (fun K0 hK0 => ?_)
        refine rdCells_of (hs4.get 2 rfl) ?_
        refine ⟨_, rfl, _, rfl, _, rfl, ?_⟩
        refine And.intro (by decide) (isCells_of (hs4.get 2 rfl) ?_)
        refine rdCells_of (hs4.get 2 rfl) ?_
        refine ⟨_, rfl, ?_⟩
        refine isCells_of (hs4.get 3 rfl) ⟨i, rfl, hlt, ?_⟩
        refine rdCells_of (hs4.get 3 rfl) (Ld_ints i g[i]! (by simp) (by simp [hlt]) ?_)
        refine ⟨by decide, Or.inl ⟨g[i]!.tdiv 2, rfl, tdiv_i64 (by unfold I64; omega) (by omega), ?_⟩⟩
        (first | refine c64' hg2 (by omega) (i64_of (x := (x : Int)) (by omega)) (hs4.get 3 rfl) ?_ | refine (c64' hg2 (by omega) (i64_of (x := (x : Int)) (by omega)) (hs4.get 3 rfl) ?_).call)
        refine new_hs hs4 (fun H5 q e5 l5 hs5 => ?_)
        refine isCells_of (hs5.get 0 rfl) ⟨i, rfl, hlt, ?_⟩
        refine rdCells_of (hs5.get 0 rfl) (Ld_ints i (coords g x)[i]! (by simp) (by simp [hci.1, hlt]) ?_)
        refine isCells_of (hs5.get 1 rfl) ⟨x, rfl, hxl, ?_⟩
        simp only [putK, vopsO, opGet, stepQ, bAt, guardK, cstep, Nat.blt]
        refine store_hs hs5 1 rfl (bls (gs.set x (sidG g i x))) rfl rfl (by simp; omega) bls_set (fun H6 l6 hs6 => ?_)
        refine hK0 _ _ ?_
        refine Or.inl ⟨((x + 1 : Nat) : Int), by simp, by unfold I64; omega, ?_⟩
        exact ⟨⟨H6, gs.set x (sidG g i x), x + 1⟩, ⟨hs6.tail, by simp [hg], gs_set hg hxl hgs, hxl⟩, by simp only; omega, Or.inl ⟨⟨rfl, rfl, rfl, rfl, rfl, trivial⟩, rfl⟩⟩
      · have hxe : x = n := by simp at hc; omega
        subst hxe
        have hgt := gs_tab hg hgs
        subst hgt
        have hkl : ks.length = ((List.range i).map (sidG g)).length := by simp [hki]
        refine And.intro (by decide) ?_
        refine newS_hs hs4 (fun H5 j2 e5 l5 hs5 => ?_)
        refine And.intro rfl ?_
        refine app_hs hs5 2 rfl (by decide) (hs5.get 0 rfl) rfl rfl (by simp) (by simp only; omega) (fun H6 tb' e6 l6 hs6 => ?_)
        have hs7 := sd_snoc (f := sidG g i) hkl hs6.tail
        refine Or.inl ⟨((i + 1 : Nat) : Int), by simp, by unfold I64; omega, ?_⟩
        have e : (List.range (i + 1)).map (sidG g) = (List.range i).map (sidG g) ++ [sidG g i] := by rw [List.range_succ, List.map_append]; rfl
        exact ⟨⟨H6, tb', ks ++ [j], i + 1⟩, ⟨by simp only; rw [e]; exact hs7, by simp [hki], hlt⟩, by simp only; omega, Or.inl ⟨⟨rfl, congrArg (fun z => some (sv tb' z)) (by simp), rfl, trivial⟩, rfl⟩⟩
    · have : i = g.length := by simp at hc; omega
      subst this
      refine hfin _ _ _ (by simp [Sh.sides, sidesG, hki]) ?_
      exact hs2
  | fat k m =>
    obtain ⟨rfl, rfl⟩ := hof
    have hof : (Sh.fat k m).of 2 [k, m] := ⟨rfl, rfl⟩
    have hok' := hok
    obtain ⟨hk, hm, _⟩ := hok'
    obtain ⟨N, hN⟩ : ∃ N, (m - 1).toNat = N := ⟨_, rfl⟩
    have es : (Sh.fat k m).sides = preFa k N N := by simp only [Sh.sides, hN]
    rw [es] at hfin hpre
    refine And.intro (fun h => absurd h (by decide)) (fun _ => ?_)
    refine And.intro (fun _ => ?_) (fun h => absurd h (by decide))
    refine And.intro (by decide) (isCells_of (hs1.get 0 rfl) ?_)
    refine rdCells_of (hs1.get 0 rfl) ?_
    refine ⟨_, rfl, ?_⟩
    refine isCells_of (hs1.get 1 rfl) ⟨1, rfl, by simp, ?_⟩
    refine rdCells_of (hs1.get 1 rfl) (Ld_ints 1 m (by simp) rfl ?_)
    refine Or.inl ⟨((N - 0 : Nat) : Int), by omega, by unfold I64; omega, ?_⟩
    refine vcg_loopV (α := TS64) tok (fun z => HS H none' (sdL 2 hosts b b1 z.tb n wr [k, m] z.ks (preFa k N z.i)) z.H ∧ z.ks.length = (preFa k N z.i).length ∧ z.i ≤ N)
      (fun | ⟨_, tb, ks, i⟩ => [(1, pV b1), (5, sv tb ks.length), (9, .int .i64 ((N - i : Nat) : Int))]) (fun | ⟨H', _, _, _⟩ => H') (fun z => N - z.i)
      ⟨H1 ++ [.cells true 1 []], H1.length, [], 0⟩ ⟨hs1.virt _, rfl, Nat.zero_le _⟩ ⟨⟨_, rfl, .rfl⟩, ⟨_, rfl, WkV.nil _⟩, ⟨_, rfl, .rfl⟩, trivial⟩ (WkH.rfl.app _) ?_
    clear hs1
    rintro ⟨H2, tb, ks, i⟩ ⟨hs2, hki, hi⟩
    simp only at hs2 hki hi
    refine And.intro (fun hc => ?_) (fun hc => ?_)
    · have hlt : i < N := by have : (1 : Int) ≤ ((N - i : Nat) : Int) := by simpa using hc
                             omega
      have hP := pow_ok hk (l := i + 1) (by omega)
      have hlen : (preFa k N i).length + (k ^ (i + 1)).toNat = (preFa k N (i + 1)).length := by simp [preFa, lvlFa]
      have hbd2 := hpre (preFa_pre (k := k) (N := N) (j := i + 1) hlt)
      obtain ⟨M, hM⟩ : ∃ M : Nat, k ^ (i + 1) = M := ⟨(k ^ (i + 1)).toNat, by omega⟩
      obtain ⟨dn, hdn⟩ : ∃ dn, N - 1 - i = dn := ⟨_, rfl⟩
      have hlv : N - i = dn + 1 := by omega
      have e2 : preFa k N (i + 1) = preFa k N i ++ (List.range M).map fun v : Nat => sidFa k N dn v := by
        simp only [preFa, lvlFa, hdn, hM, Int.toNat_natCast]
      refine vcg_loopR (α := TS64) tok (fun z => HS H none' (sdL 2 hosts b b1 z.tb n wr [k, m] z.ks (preFa k N i ++ (List.range z.i).map fun v : Nat => sidFa k N dn v)) z.H ∧ z.ks.length = (preFa k N i).length + z.i ∧ z.i ≤ M)
        (fun | ⟨_, tb, ks, v⟩ => [(1, pV b1), (5, sv tb ks.length), (9, .int .i64 ((dn + 1 : Nat) : Int)), (10, .int .i64 (v : Int))]) (fun | ⟨H', _, _, _⟩ => H') (fun z => M - z.i)
        ⟨H2, tb, ks, 0⟩ ⟨by simpa using hs2, by simpa using hki, Nat.zero_le _⟩ (Or.inl ⟨⟨rfl, rfl, congrArg (fun z : Nat => some (Value.int .i64 (z : Int))) hlv, rfl, trivial⟩, rfl⟩) ?_
      clear hs2
      rintro ⟨H2, tb, ks, v⟩ ⟨hs2, hki2, hv⟩
      simp only at hs2 hki2 hv
      refine vcg_draw tok mx [0, 0, 2, 6, 14, 0, 32, 96, 224, 0, 992, 2046, 4095] [false, false, false, false, false, true, true, true, true, true, true, false, false] [0, 1, 2, 3, 4, 5, 6, 7, 8, 9, 10, 11, 12] (by kernel_rfl) ?_
      refine vopsO_gen (fun K0 hK0 => ?_)
      refine And.intro (by decide) (isCells_of (hs2.get 1 rfl) ?_)
      refine rdCells_of (hs2.get 1 rfl) ?_
      refine ⟨_, rfl, ?_⟩
      refine isCells_of (hs2.get 2 rfl) ⟨0, rfl, by simp, ?_⟩
      refine rdCells_of (hs2.get 2 rfl) (Ld_ints 0 k (by simp) rfl ?_)
      refine And.intro (by decide) (isCells_of (hs2.get 1 rfl) ?_)
      refine rdCells_of (hs2.get 1 rfl) ?_
      refine ⟨_, rfl, ?_⟩
      refine isCells_of (hs2.get 2 rfl) ⟨1, rfl, by simp, ?_⟩
      refine rdCells_of (hs2.get 2 rfl) (Ld_ints 1 m (by simp) rfl ?_)
      refine Or.inl ⟨((i + 1 : Nat) : Int), by omega, by unfold I64; omega, ?_⟩
      (first | refine x61 hk (by omega) ?_ | refine (x61 hk (by omega) ?_).call)
      rw [hM]
      refine hK0 _ _ ?_
      clear hK0 K0
      refine And.intro (fun hc => ?_) (fun hc => ?_)
      · have hvl : v < M := by simpa using hc
        refine rdCells_of (hs2.get 1 rfl) ?_
        refine ⟨_, rfl, _, rfl, _, rfl, ?_⟩
        (first | refine c58 hok hof (hs2.get 2 rfl) (Nat.le_refl _) ?_ | refine (c58 hok hof (hs2.get 2 rfl) (Nat.le_refl _) ?_).call)
        rw [hn]
        refine ⟨by decide, n, n, ⟨rfl, rfl⟩, ⟨Nat.le_refl _, by simp only; omega⟩, bls (List.replicate n false), by simp [zeroRep, bls, cellsL], ?_⟩
        refine new_hs hs2 (fun H3 j e3 l3 hs3 => ?_)
        refine vcg_loopR (α := FS64) tok (fun z => HS H none' ((true, j, .cells true 1 (bls z.gs)) :: sdL 2 hosts b b1 tb n wr [k, m] ks (preFa k N i ++ (List.range v).map fun v : Nat => sidFa k N dn v)) z.H ∧ z.gs.length = n ∧ (∀ y : Nat, y < z.x → z.gs[y]! = sidFa k N dn v y) ∧ z.x ≤ n)
          (fun | ⟨_, _, x⟩ => [(1, pV b1), (5, sv tb ks.length), (9, .int .i64 ((dn + 1 : Nat) : Int)), (10, .int .i64 (v : Int)), (11, sv j n), (12, .int .i64 (x : Int))]) (fun | ⟨H', _, _⟩ => H') (fun z => n - z.x)
          ⟨H3, List.replicate n false, 0⟩ ⟨hs3, by simp, fun y hy => absurd hy (Nat.not_lt_zero y), Nat.zero_le _⟩ (Or.inl ⟨⟨rfl, rfl, rfl, rfl, rfl, rfl, trivial⟩, rfl⟩) ?_
        clear hs3 hs2
        rintro ⟨H4, gs, x⟩ ⟨hs4, hg, hgs, hx⟩
        simp only at hs4 hg hgs hx
        refine And.intro (fun hc => ?_) (fun hc => ?_)
        · have hxl : x < n := by simpa using hc
          refine rdCells_of (hs4.get 2 rfl) ?_
          refine ⟨_, rfl, _, rfl, _, rfl, ?_⟩
          (first | refine c69 (N := N) (dn := dn) hk hm hN (by omega) (x := (x : Int)) ⟨by omega, by omega⟩ (hs4.get 3 rfl) ?_ | refine (c69 (N := N) (dn := dn) hk hm hN (by omega) (x := (x : Int)) ⟨by omega, by omega⟩ (hs4.get 3 rfl) ?_).call)
          refine isCells_of (hs4.get 0 rfl) ⟨x, rfl, hxl, ?_⟩
          simp only [putK, vops, guardK, cstep, Nat.blt]
          refine store_hs hs4 0 rfl (bls (gs.set x (sidFa k N dn v x))) rfl rfl (by simp; omega) bls_set (fun H6 l6 hs6 => ?_)
          refine Or.inl ⟨((x + 1 : Nat) : Int), by simp, by unfold I64; omega, ?_⟩
          exact ⟨⟨H6, gs.set x (sidFa k N dn v x), x + 1⟩, ⟨hs6, by simp [hg], gs_set hg hxl hgs, hxl⟩, by simp only; omega, Or.inl ⟨⟨rfl, rfl, rfl, rfl, rfl, rfl, trivial⟩, rfl⟩⟩
        · have hxe : x = n := by simp at hc; omega
          subst hxe
          have hgt := gs_tab hg hgs
          subst hgt
          have hkl : ks.length = (preFa k N i ++ (List.range v).map fun v : Nat => sidFa k N dn v).length := by simp [hki2]
          refine And.intro (by decide) ?_
          refine newS_hs hs4 (fun H5 j2 e5 l5 hs5 => ?_)
          refine And.intro rfl ?_
          refine app_hs hs5 2 rfl (by decide) (hs5.get 0 rfl) rfl rfl (by simp) (by simp only; omega) (fun H6 tb' e6 l6 hs6 => ?_)
          have hs7 := sd_snoc (f := sidFa k N dn v) hkl hs6.tail
          refine Or.inl ⟨((v + 1 : Nat) : Int), by simp, by unfold I64; omega, ?_⟩
          have e : (List.range (v + 1)).map (fun v : Nat => sidFa k N dn v) = (List.range v).map (fun v : Nat => sidFa k N dn v) ++ [sidFa k N dn v] := by rw [List.range_succ, List.map_append]; rfl
          exact ⟨⟨H6, tb', ks ++ [j], v + 1⟩, ⟨by simp only; rw [e, ← List.append_assoc]; exact hs7, by simp [hki2]; omega, hvl⟩, by simp only; omega, Or.inl ⟨⟨rfl, congrArg (fun z => some (sv tb' z)) (by simp), rfl, rfl, trivial⟩, rfl⟩⟩
      · have : v = M := by simp at hc; omega
        subst this
        refine Or.inl ⟨((N - (i + 1) : Nat) : Int), by omega, by unfold I64; omega, ?_⟩
        exact ⟨⟨H2, tb, ks, i + 1⟩, ⟨by simp only; rw [e2]; exact hs2, by simp only; rw [e2]; simp [hki2], hlt⟩, by simp only; omega, Or.inl ⟨⟨rfl, rfl, rfl, trivial⟩, rfl⟩⟩
    · have : i = N := by have : ¬ (1 : Int) ≤ ((N - i : Nat) : Int) := by simpa using hc
                         omega
      subst this
      exact hfin _ _ _ hki hs2
  | fly a e =>
    obtain ⟨rfl, rfl⟩ := hof
    have hof : (Sh.fly a e).of 3 [a, e] := ⟨rfl, rfl⟩
    have hok' := hok
    obtain ⟨ha, hh, _⟩ := hok'
    have hah := mulb (a := a) (b := e) (A := 16) (B := 4) (by omega) (by omega) (by omega) (by omega)
    obtain ⟨M, hM⟩ : ∃ M : Nat, a * e + 1 = M := ⟨(a * e + 1).toNat, by omega⟩
    have es : (Sh.fly a e).sides = (List.range M).map fun g : Nat => sidFl a g := by simp only [Sh.sides, sidesFl, hM, Int.toNat_natCast]
    rw [es] at hfin
    refine And.intro (fun h => absurd h (by decide)) (fun _ => ?_)
    refine And.intro (fun h => absurd h (by decide)) (fun _ => ?_)
    refine vcg_loopV (α := TS64) tok (fun z => HS H none' (sdL 3 hosts b b1 z.tb n wr [a, e] z.ks ((List.range z.i).map fun g : Nat => sidFl a g)) z.H ∧ z.ks.length = z.i ∧ z.i ≤ M)
      (fun | ⟨_, tb, ks, i⟩ => [(1, pV b1), (5, sv tb ks.length), (13, .int .i64 (i : Int))]) (fun | ⟨H', _, _, _⟩ => H') (fun z => M - z.i)
      ⟨H1 ++ [.cells true 1 []], H1.length, [], 0⟩ ⟨hs1.virt _, rfl, Nat.zero_le _⟩ ⟨⟨_, rfl, .rfl⟩, ⟨_, rfl, WkV.nil _⟩, ⟨_, rfl, .rfl⟩, trivial⟩ (WkH.rfl.app _) ?_
    clear hs1
    rintro ⟨H2, tb, ks, i⟩ ⟨hs2, hki, hi⟩
    simp only at hs2 hki hi
    refine rdCells_of (hs2.get 1 rfl) ?_
    refine ⟨_, rfl, _, rfl, _, rfl, ?_⟩
    (first | refine c70 ha hh (hs2.get 2 rfl) ?_ | refine (c70 ha hh (hs2.get 2 rfl) ?_).call)
    rw [hM]
    refine And.intro (fun hc => ?_) (fun hc => ?_)
    · have hlt : i < M := by simpa using hc
      refine rdCells_of (hs2.get 1 rfl) ?_
      refine ⟨_, rfl, _, rfl, _, rfl, ?_⟩
      (first | refine c58 hok hof (hs2.get 2 rfl) (Nat.le_refl _) ?_ | refine (c58 hok hof (hs2.get 2 rfl) (Nat.le_refl _) ?_).call)
      rw [hn]
      refine ⟨by decide, n, n, ⟨rfl, rfl⟩, ⟨Nat.le_refl _, by simp only; omega⟩, bls (List.replicate n false), by simp [zeroRep, bls, cellsL], ?_⟩
      refine new_hs hs2 (fun H3 j e3 l3 hs3 => ?_)
      refine vcg_loopR (α := FS64) tok (fun z => HS H none' ((true, j, .cells true 1 (bls z.gs)) :: sdL 3 hosts b b1 tb n wr [a, e] ks ((List.range i).map fun g : Nat => sidFl a g)) z.H ∧ z.gs.length = n ∧ (∀ y : Nat, y < z.x → z.gs[y]! = sidFl a i y) ∧ z.x ≤ n)
        (fun | ⟨_, _, x⟩ => [(1, pV b1), (5, sv tb ks.length), (13, .int .i64 (i : Int)), (14, sv j n), (15, .int .i64 (x : Int))]) (fun | ⟨H', _, _⟩ => H') (fun z => n - z.x)
        ⟨H3, List.replicate n false, 0⟩ ⟨hs3, by simp, fun y hy => absurd hy (Nat.not_lt_zero y), Nat.zero_le _⟩ (Or.inl ⟨⟨rfl, rfl, rfl, rfl, rfl, trivial⟩, rfl⟩) ?_
      clear hs3 hs2
      rintro ⟨H4, gs, x⟩ ⟨hs4, hg, hgs, hx⟩
      simp only at hs4 hg hgs hx
      refine And.intro (fun hc => ?_) (fun hc => ?_)
      · have hxl : x < n := by simpa using hc
        refine And.intro (by decide) (isCells_of (hs4.get 2 rfl) ?_)
        refine rdCells_of (hs4.get 2 rfl) ?_
        refine ⟨_, rfl, ?_⟩
        refine isCells_of (hs4.get 3 rfl) ⟨0, rfl, by simp, ?_⟩
        refine rdCells_of (hs4.get 3 rfl) (Ld_ints 0 a (by simp) rfl ?_)
        refine ⟨by omega, Or.inl ⟨(x : Int).tdiv a, rfl, div_i64 (i64_of (by omega)) ha.1, ?_⟩⟩
        refine isCells_of (hs4.get 0 rfl) ⟨x, rfl, hxl, ?_⟩
        simp only [putK, vops, guardK, cstep, Nat.blt]
        refine store_hs hs4 0 rfl (bls (gs.set x (sidFl a i x))) rfl rfl (by simp; omega) bls_set (fun H6 l6 hs6 => ?_)
        refine Or.inl ⟨((x + 1 : Nat) : Int), by simp, by unfold I64; omega, ?_⟩
        exact ⟨⟨H6, gs.set x (sidFl a i x), x + 1⟩, ⟨hs6, by simp [hg], gs_set hg hxl hgs, hxl⟩, by simp only; omega, Or.inl ⟨⟨rfl, rfl, rfl, rfl, rfl, trivial⟩, rfl⟩⟩
      · have hxe : x = n := by simp at hc; omega
        subst hxe
        have hgt := gs_tab hg hgs
        subst hgt
        have hkl : ks.length = ((List.range i).map fun g : Nat => sidFl a g).length := by simp [hki]
        refine And.intro (by decide) ?_
        refine newS_hs hs4 (fun H5 j2 e5 l5 hs5 => ?_)
        refine And.intro rfl ?_
        refine app_hs hs5 2 rfl (by decide) (hs5.get 0 rfl) rfl rfl (by simp) (by simp only; omega) (fun H6 tb' e6 l6 hs6 => ?_)
        have hs7 := sd_snoc (f := sidFl a i) hkl hs6.tail
        refine Or.inl ⟨((i + 1 : Nat) : Int), by simp, by unfold I64; omega, ?_⟩
        have e' : (List.range (i + 1)).map (fun g : Nat => sidFl a g) = (List.range i).map (fun g : Nat => sidFl a g) ++ [sidFl a i] := by rw [List.range_succ, List.map_append]; rfl
        exact ⟨⟨H6, tb', ks ++ [j], i + 1⟩, ⟨by simp only; rw [e']; exact hs7, by simp [hki], hlt⟩, by simp only; omega, Or.inl ⟨⟨rfl, congrArg (fun z => some (sv tb' z)) (by simp), rfl, trivial⟩, rfl⟩⟩
    · have : i = M := by simp at hc; omega
      subst this
      refine hfin _ _ _ (by simp [hki]) ?_
      exact hs2
theorem g37n {H : List Blk} {R : Value → List Blk → Prop} {b : Nat} {wr : Bool} {kind hosts : Int} {sides : List Int} (hs : shapeF kind sides hosts = none) (hb : bget H b = some (.cells wr 1 (ints sides)))
    (h : ∀ H', HS H none' [] H' → R (.tuple ⟨[.slice none 0 0, .int .i64 2]⟩) H') : ACall Try.prog 37 [spV kind (sv b sides.length) hosts] H R := by
  refine acall_vcg tok Try.call37 Try.func37 rfl Try.ntmps37 rfl (by simp) ?_
  refine new_hs (((HS.start H none').add (c := false) hb (fun i p hi => by simp at hi) (fun h => by cases h))) (fun H1 b1 e1 l1 hs1 => ?_)
  refine rdCells_of (hs1.get 0 rfl) ?_
  refine ⟨_, rfl, _, rfl, _, rfl, ?_⟩
  (first | refine c25 (hs1.get 1 rfl) (Nat.le_refl _) ?_ | refine (c25 (hs1.get 1 rfl) (Nat.le_refl _) ?_).call)
  rw [hs]
  simp only [eF]
  refine And.intro (fun _ => ?_) (fun h => absurd h (by decide))
  exact h _ (hs1.pick [] (by decide) rfl)
end Go.Af.Try
