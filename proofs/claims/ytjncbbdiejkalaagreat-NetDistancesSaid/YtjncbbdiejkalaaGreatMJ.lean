/-
  When the reference calls two switches linked.
  The neighbours, and the links, as the reference lists them.
  The links as the reference lists them, and how many are across a side.
  Whether a switch lies in a subtree, as the reference says it.
  The standard sides as rows, as the reference makes them.
-/
import Derived.Test.YtjncbbdiejkalaaGreatMI
import Derived.Test.YtjncbbdiejkalaaGreatMX
import Derived.Test.YtjncbbdiejkalaaGreatMC
import Derived.Test.YtjncbbdiejkalaaGreatMT
import Derived.Test.YtjncbbdiejkalaaGreatMG
set_option linter.all false
namespace Go.Af.Tryz
open Go Go.Proofs
attribute [local irreducible] awp ACall ACallX AYield AInvoke

/-- In a grid: in how many of the first dimensions two places differ, and whether they are near in the last one of these. -/
def lnS (g a b : List Int) : Nat → Int × Bool
  | 0 => (0, true)
  | i + 1 => if a[i]! = b[i]! then lnS g a b i else ((lnS g a b i).1 + 1, decide (max (a[i]! - b[i]!) (b[i]! - a[i]!) = 1) || decide (max (a[i]! - b[i]!) (b[i]! - a[i]!) = g[i]! - 1))
theorem lnS_bd (g a b : List Int) : ∀ i : Nat, 0 ≤ (lnS g a b i).1 ∧ (lnS g a b i).1 ≤ i
  | 0 => by simp [lnS]
  | i + 1 => by
    have := lnS_bd g a b i
    simp only [lnS]
    split
    · omega
    · dsimp only; omega
def lnG (g : List Int) (x y : Int) : Bool := decide ((lnS g (coords g x) (coords g y) g.length).1 = 1) && (lnS g (coords g x) (coords g y) g.length).2
def lnFa (k : Int) (N : Nat) (x y : Int) : Bool :=
  decide ((max x y).tdiv (k ^ N) = (min x y).tdiv (k ^ N) + 1) && decide (likF k ((min x y).tmod (k ^ N)) ((min x y).tdiv (k ^ N)).toNat 0 = likF k ((max x y).tmod (k ^ N)) ((min x y).tdiv (k ^ N)).toNat 0)
def lnFl (a h x y : Int) : Bool :=
  decide (x.tdiv a = y.tdiv a) || (decide (porF a h (x.tdiv a) (gapF a h (x.tdiv a) (y.tdiv a)) = x) && decide (porF a h (y.tdiv a) (a * h + 1 - 2 - gapF a h (x.tdiv a) (y.tdiv a)) = y))
def Sh.lnk (s : Sh) (x y : Int) : Bool :=
  if x = y then false else match s with
    | .grid g => lnG g x y
    | .fat k n => lnFa k (n - 1).toNat x y
    | .fly a h => lnFl a h x y

theorem dig0 (k : Int) (l : Nat) : digF k 0 l = 0 := by simp [digF]
theorem c65N {H : List Blk} {R : Value → List Blk → Prop} {b N : Nat} {wr : Bool} {kind hosts k n : Int} (hN : (n - 1).toNat = N) (hk : 2 ≤ k ∧ k ≤ 8) (hn : 1 ≤ n ∧ n ≤ 4) (hb : bget H b = some (.cells wr 1 (ints [k, n]))) (h : R (.int .i64 (k ^ N)) H) :
    ACallX Tryz.prog 93 [spV kind (sv b 2) hosts] H R := by subst hN; exact c65 hk hn hb h
theorem c78z {H : List Blk} {R : Value → List Blk → Prop} {b : Nat} {wr : Bool} {kind hosts k n w : Int} {l : Nat} (hh : LikOk k w l 0) (hb : bget H b = some (.cells wr 1 (ints [k, n]))) (h : R (.int .i64 (likF k w l 0)) H) :
    ACallX Tryz.prog 110 [spV kind (sv b 2) hosts, .int .i64 w, .int .i64 l, .int .i64 0] H R := by
  have e := c78 (kind := kind) (hosts := hosts) (n := n) hh hb h
  rw [dig0] at e
  exact e

set_option maxHeartbeats 4000000 in
theorem l86 (kind hosts x y : Int) (sides : List Int) (s : Sh) (hok : s.ok) (hof : s.of kind sides) (hx : 0 ≤ x ∧ x < s.sw) (hy : 0 ≤ y ∧ y < s.sw) : ACall Tryz.prog 88 [spV kind (sv 0 sides.length) hosts, .int .i64 x, .int .i64 y] [ro sides] (fun v H => v = .bool (s.lnk x y) ∧ H = [ro sides]) := by
  have hbd := sw_bd hok
  refine acall_drop (acall_vcg tok Tryz.call88 Tryz.func88 rfl Tryz.ntmps88 rfl (by simp) ?_)
  refine And.intro (fun he => ?_) (fun he => ?_)
  · have he : x = y := by simpa using he
    refine ⟨[(0, 0)], _, [ro (sides)], by simp, anch_of rfl, ⟨⟨_, rfl, BRen.ints _ _ _⟩, trivial⟩, rfl, VRen.plain rfl, (by rw [show s.lnk x y = false by simp [Sh.lnk, he]]; rfl), rfl⟩
  have hne : ¬ x = y := by simpa using he
  cases s with
  | grid g =>
    obtain ⟨rfl, rfl⟩ := hof
    have hok' := hok
    obtain ⟨hl1, hl2, hm, hp⟩ := hok'
    have hg2 : ∀ m ∈ g, 2 ≤ m := fun m h => (hm m h).1
    have hgi : ∀ i, i < g.length → 2 ≤ g[i]! ∧ g[i]! ≤ 16 := fun i hi => by rw [getElem!_pos g i hi]; exact hm _ (List.getElem_mem hi)
    have ha := coords_in hx.1 g hg2
    have hb := coords_in hy.1 g hg2
    (repeat (first | refine And.intro (fun _ => ?_) (fun h => absurd h (by decide)) | refine And.intro (fun h => absurd h (by decide)) (fun _ => ?_) | refine Exists.intro _ (And.intro rfl ?_) | refine And.intro (by decide) ?_ | refine And.intro (by omega) ?_ | refine Or.inl (Exists.intro _ (And.intro rfl (And.intro (by unfold I64; omega) ?_)))))
    refine vcg_draw tok mx [0, 0, 3, 0, 0, 31, 63, 127] [false, true, true, true, true, false, false, false] [0, 1, 3, 4, 2, 5, 6, 7] (by kernel_rfl) ?_
    refine vopsO_gen (fun K0 hK0 => ?_)
    (repeat (first | refine And.intro (fun _ => ?_) (fun h => absurd h (by decide)) | refine And.intro (fun h => absurd h (by decide)) (fun _ => ?_) | refine Exists.intro _ (And.intro rfl ?_) | refine And.intro (by decide) ?_ | refine And.intro (by omega) ?_ | refine Or.inl (Exists.intro _ (And.intro rfl (And.intro (by unfold I64; omega) ?_)))))
    (first | refine c64' hg2 (by omega) (i64_of (by omega)) rfl ?_ | refine (c64' hg2 (by omega) (i64_of (by omega)) rfl ?_).call)
    (first | refine c64' hg2 (by omega) (i64_of (by omega)) rfl ?_ | refine (c64' hg2 (by omega) (i64_of (by omega)) rfl ?_).call)
    refine hK0 _ _ ?_
    clear hK0 K0
    generalize hA : coords g x = A at *
    generalize hB : coords g y = B at *
    refine vcg_loopR tok (fun i : Nat => i ≤ g.length) (fun i => [(3, .pointer (some ⟨1, 0, none⟩)), (7, sv 2 g.length), (8, sv 3 g.length), (9, .int .i64 (lnS g A B i).1), (10, .bool (lnS g A B i).2), (11, .int .i64 (i : Int))]) (fun _ => [ro g, .cells true 1 [.int .i64 1, sv 0 g.length, .int .i64 hosts], rw' A, rw' B])
      (fun i => g.length - i) 0 (Nat.zero_le _) (Or.inl ⟨⟨rfl, rfl, rfl, rfl, rfl, rfl, trivial⟩, rfl⟩) ?_
    intro i hi
    have hlb := lnS_bd g A B i
    refine And.intro (fun hc => ?_) (fun hc => ?_)
    · have hlt : i < g.length := by simpa using hc
      have hai := ha.2 i hlt
      have hbi := hb.2 i hlt
      have hgb := hgi i hlt
      have hal : A[i]? = some A[i]! := by simp [ha.1, hlt]
      have hbl : B[i]? = some B[i]! := by simp [hb.1, hlt]
      refine vcg_draw tok mx [0, 0, 3, 7, 0, 0, 48, 112, 255] [false, false, false, false, true, true, true, true, false] [0, 1, 2, 3, 4, 5, 6, 7, 8] (by kernel_rfl) ?_
      refine ⟨i, rfl, hlt, ?_⟩
      refine Ld_ints i A[i]! (by simp) hal ?_
      refine ⟨i, rfl, hlt, ?_⟩
      refine Ld_ints i B[i]! (by simp) hbl ?_
      refine And.intro (fun hd => ?_) (fun hd => ?_)
      · have hd : ¬ A[i]! = B[i]! := by simpa using hd
        refine Or.inl ⟨(lnS g A B i).1 + 1, rfl, by unfold I64; omega, ?_⟩
        refine vcg_draw tok mx [0, 0, 3, 7, 0, 0, 48, 112, 255, 0, 0, 1536, 3584, 0, 0, 24576, 57344, 130560, 262143, 524287] [false, false, false, false, true, true, true, true, false, true, true, true, true, true, true, true, true, true, false, false] [0, 1, 2, 3, 4, 5, 6, 7, 8, 9, 10, 11, 12, 13, 14, 15, 16, 17, 18, 19] (by kernel_rfl) ?_
        refine ⟨i, rfl, hlt, ?_⟩
        refine Ld_ints i A[i]! (by simp) hal ?_
        refine ⟨i, rfl, hlt, ?_⟩
        refine Ld_ints i B[i]! (by simp) hbl ?_
        refine Or.inl ⟨A[i]! - B[i]!, rfl, by unfold I64; omega, ?_⟩
        refine ⟨i, rfl, hlt, ?_⟩
        refine Ld_ints i B[i]! (by simp) hbl ?_
        refine ⟨i, rfl, hlt, ?_⟩
        refine Ld_ints i A[i]! (by simp) hal ?_
        refine Or.inl ⟨B[i]! - A[i]!, rfl, by unfold I64; omega, ?_⟩
        refine vops_gen (fun K0 hK0 => ?_)
        refine And.intro (fun h1 => ?_) (fun h1 => ?_)
        · have h1' : decide (max (A[i]! - B[i]!) (B[i]! - A[i]!) = 1) = false := h1
          refine And.intro (fun _ => ?_) (fun h => absurd h (by decide))
          refine And.intro (by decide) ?_
          refine And.intro (fun _ => ?_) (fun h => absurd h (by decide))
          refine ⟨_, rfl, ?_⟩
          refine And.intro (fun _ => ?_) (fun h => absurd h (by decide))
          refine And.intro (fun _ => ?_) (fun h => absurd h (by decide))
          refine ⟨i, rfl, hlt, ?_⟩
          refine And.intro (fun _ => ?_) (fun h => absurd h (by decide))
          refine Ld_ints i g[i]! (by simp) (by simp [hlt]) ?_
          refine And.intro (fun _ => ?_) (fun h => absurd h (by decide))
          refine Or.inl ⟨g[i]! - 1, rfl, by unfold I64; omega, ?_⟩
          refine And.intro (fun _ => ?_) (fun h => absurd h (by decide))
          refine hK0 _ _ ?_
          refine Or.inl ⟨((i + 1 : Nat) : Int), by simp, by unfold I64; omega, ?_⟩
          exact ⟨i + 1, hlt, by omega, Or.inl ⟨⟨rfl, rfl, rfl, congrArg (fun z => some (Value.int .i64 z)) (by simp only [lnS]; rw [if_neg hd]), congrArg (fun z => some (Value.bool z)) (by simp only [lnS]; rw [if_neg hd]; simp only [h1']; rfl), rfl, trivial⟩, rfl⟩⟩
        · have h1' : decide (max (A[i]! - B[i]!) (B[i]! - A[i]!) = 1) = true := h1
          repeat refine And.intro (fun h => absurd h (by decide)) (fun _ => ?_)
          refine hK0 _ _ ?_
          refine Or.inl ⟨((i + 1 : Nat) : Int), by simp, by unfold I64; omega, ?_⟩
          exact ⟨i + 1, hlt, by omega, Or.inl ⟨⟨rfl, rfl, rfl, congrArg (fun z => some (Value.int .i64 z)) (by simp only [lnS]; rw [if_neg hd]), congrArg (fun z => some (Value.bool z)) (by simp only [lnS]; rw [if_neg hd]; simp only [h1']; rfl), rfl, trivial⟩, rfl⟩⟩
      · have hd : A[i]! = B[i]! := by simpa using hd
        refine Or.inl ⟨((i + 1 : Nat) : Int), by simp, by unfold I64; omega, ?_⟩
        exact ⟨i + 1, hlt, by omega, Or.inl ⟨⟨rfl, rfl, rfl, congrArg (fun z => some (Value.int .i64 z)) (by simp only [lnS]; rw [if_pos hd]), congrArg (fun z => some (Value.bool z)) (by simp only [lnS]; rw [if_pos hd]), rfl, trivial⟩, rfl⟩⟩
    · have : i = g.length := by simp at hc; omega
      subst this
      have el : Sh.lnk (.grid g) x y = (decide ((lnS g A B g.length).1 = 1) && (lnS g A B g.length).2) := by simp only [Sh.lnk]; rw [if_neg hne]; simp only [lnG, hA, hB]
      rw [el]
      refine vops_gen (fun K0 hK0 => ?_)
      refine And.intro (fun h1 => ?_) (fun h1 => ?_)
      · have h1' : decide ((lnS g A B g.length).1 = 1) = true := h1
        refine hK0 _ _ ?_
        refine ⟨[(0, 0)], _, [ro (g)], by simp, anch_of rfl, ⟨⟨_, rfl, BRen.ints _ _ _⟩, trivial⟩, rfl, VRen.plain rfl, (by rw [h1']; rfl), rfl⟩
      · have h1' : decide ((lnS g A B g.length).1 = 1) = false := h1
        refine hK0 _ _ ?_
        refine ⟨[(0, 0)], _, [ro (g)], by simp, anch_of rfl, ⟨⟨_, rfl, BRen.ints _ _ _⟩, trivial⟩, rfl, VRen.plain rfl, (by rw [h1']; rfl), rfl⟩
  | fat k n =>
    obtain ⟨rfl, rfl⟩ := hof
    obtain ⟨hk, hn, hkn⟩ := hok
    have hw := powpos (k := k) (by omega) (n - 1).toNat
    simp only [Sh.sw] at hx hy hbd
    obtain ⟨N, hN⟩ : ∃ N, (n - 1).toNat = N := ⟨_, rfl⟩
    have el : Sh.lnk (.fat k n) x y = lnFa k N x y := by simp only [Sh.lnk]; rw [if_neg hne, hN]
    rw [el]
    rw [hN] at hw hx hy hbd
    obtain ⟨lo, hlo⟩ : ∃ lo, min x y = lo := ⟨_, rfl⟩
    obtain ⟨up, hup⟩ : ∃ up, max x y = up := ⟨_, rfl⟩
    have hlo0 : 0 ≤ lo ∧ lo < n * k ^ N := by omega
    have hup0 : 0 ≤ up ∧ up < n * k ^ N := by omega
    have hd0 := Int.tdiv_nonneg (a := lo) (b := k ^ N) hlo0.1 (by omega)
    have hd1 := Int.tdiv_nonneg (a := up) (b := k ^ N) hup0.1 (by omega)
    have hd2 : up.tdiv (k ^ N) < n := by
      rw [Int.tdiv_eq_ediv_of_nonneg hup0.1]
      exact Int.ediv_lt_of_lt_mul (by omega) hup0.2
    have hv0 := Int.tmod_nonneg (a := lo) (k ^ N) hlo0.1
    have hv1 : lo.tmod (k ^ N) < k ^ N := Int.tmod_lt_of_pos _ (by omega)
    have hw0 := Int.tmod_nonneg (a := up) (k ^ N) hup0.1
    have hw1 : up.tmod (k ^ N) < k ^ N := Int.tmod_lt_of_pos _ (by omega)
    obtain ⟨ln, hln⟩ : ∃ ln : Nat, lo.tdiv (k ^ N) = ln := ⟨(lo.tdiv (k ^ N)).toNat, by omega⟩
    have i64s : ∀ {z : Int}, 0 ≤ z ∧ z ≤ 65536 → I64 z := fun h => i64_of h
    have hpk := pow_ok hk (l := N) (by omega)
    have hdl : (ln : Int) ≤ 65536 := by
      have := Int.tdiv_le_self (k ^ N) hlo0.1; omega
    have hdu : up.tdiv (k ^ N) ≤ 65536 := by
      have := Int.tdiv_le_self (k ^ N) hup0.1; omega
    (repeat (first | refine And.intro (fun _ => ?_) (fun h => absurd h (by decide)) | refine And.intro (fun h => absurd h (by decide)) (fun _ => ?_) | refine Exists.intro _ (And.intro rfl ?_) | refine And.intro (by decide) ?_ | refine And.intro (by omega) ?_ | refine Or.inl (Exists.intro _ (And.intro rfl (And.intro (by unfold I64; omega) ?_)))))
    refine vcg_draw tok mx [0, 0, 3, 0, 8, 31, 0, 0, 192, 0, 536, 2008, 1599, 8191] [false, false, false, false, true, true, true, true, true, true, false, false, false, false] [0, 1, 2, 3, 6, 7, 8, 9, 4, 5, 10, 11, 12, 13] (by kernel_rfl) ?_
    refine vopsO_gen (fun K0 hK0 => ?_)
    (repeat (first | refine And.intro (fun _ => ?_) (fun h => absurd h (by decide)) | refine And.intro (fun h => absurd h (by decide)) (fun _ => ?_) | refine Exists.intro _ (And.intro rfl ?_) | refine And.intro (by decide) ?_ | refine And.intro (by omega) ?_ | refine Or.inl (Exists.intro _ (And.intro rfl (And.intro (by unfold I64; omega) ?_)))))
    (first | refine c65N hN hk hn rfl ?_ | refine (c65N hN hk hn rfl ?_).call)
    refine ⟨by omega, Or.inl ⟨(ln : Int), by rw [hlo]; exact hln, i64s (by omega), ?_⟩⟩
    (first | refine c65N hN hk hn rfl ?_ | refine (c65N hN hk hn rfl ?_).call)
    refine ⟨by omega, Or.inl ⟨up.tdiv (k ^ N), by rw [hup], i64s (by omega), ?_⟩⟩
    refine hK0 _ _ ?_
    clear hK0 K0
    refine vcg_draw tok mx [0, 0, 3, 0, 8, 31, 0, 0, 192, 0, 536, 2008, 1599, 8191] [false, false, false, false, true, true, true, true, true, true, false, false, false, false] [0, 1, 2, 3, 6, 7, 8, 9, 4, 5, 10, 11, 12, 13] (by kernel_rfl) ?_
    refine vopsO_gen (fun K0 hK0 => ?_)
    (repeat (first | refine And.intro (fun _ => ?_) (fun h => absurd h (by decide)) | refine And.intro (fun h => absurd h (by decide)) (fun _ => ?_) | refine Exists.intro _ (And.intro rfl ?_) | refine And.intro (by decide) ?_ | refine And.intro (by omega) ?_ | refine Or.inl (Exists.intro _ (And.intro rfl (And.intro (by unfold I64; omega) ?_)))))
    (first | refine c65N hN hk hn rfl ?_ | refine (c65N hN hk hn rfl ?_).call)
    refine ⟨by omega, lo.tmod (k ^ N), by rw [hlo], ?_⟩
    (first | refine c65N hN hk hn rfl ?_ | refine (c65N hN hk hn rfl ?_).call)
    refine ⟨by omega, up.tmod (k ^ N), by rw [hup], ?_⟩
    refine hK0 _ _ ?_
    clear hK0 K0
    have ef : lnFa k N x y = (decide (up.tdiv (k ^ N) = (ln : Int) + 1) && decide (likF k (lo.tmod (k ^ N)) ln 0 = likF k (up.tmod (k ^ N)) ln 0)) := by
      unfold lnFa
      rw [hlo, hup, hln, Int.toNat_natCast]
    rw [ef]
    refine vcg_draw tok mx [0, 0, 2, 7, 15, 31, 31, 31, 255, 31, 31, 31, 4095, 8191, 16383, 32767] [false, false, false, false, false, false, true, true, true, true, true, true, false, false, false, false] [0, 1, 2, 3, 4, 5, 6, 7, 9, 10, 11, 8, 12, 13, 14, 15] (by kernel_rfl) ?_
    refine vopsO_gen (fun K0 hK0 => ?_)
    refine Or.inl ⟨(ln : Int) + 1, rfl, by unfold I64; omega, ?_⟩
    refine And.intro (fun h1 => ?_) (fun h1 => ?_)
    · have h2 : up.tdiv (k ^ N) = (ln : Int) + 1 := by simpa using h1
      have hlN : ln < N := by omega
      (repeat (first | refine And.intro (fun _ => ?_) (fun h => absurd h (by decide)) | refine And.intro (fun h => absurd h (by decide)) (fun _ => ?_) | refine Exists.intro _ (And.intro rfl ?_) | refine And.intro (by decide) ?_ | refine And.intro (by omega) ?_ | refine Or.inl (Exists.intro _ (And.intro rfl (And.intro (by unfold I64; omega) ?_)))))
      (first | refine c78z (likok hk (by omega) hlN hv0 hv1 (Int.le_refl 0) (by decide)) rfl ?_ | refine (c78z (likok hk (by omega) hlN hv0 hv1 (Int.le_refl 0) (by decide)) rfl ?_).call)
      (repeat (first | refine And.intro (fun _ => ?_) (fun h => absurd h (by decide)) | refine And.intro (fun h => absurd h (by decide)) (fun _ => ?_) | refine Exists.intro _ (And.intro rfl ?_) | refine And.intro (by decide) ?_ | refine And.intro (by omega) ?_ | refine Or.inl (Exists.intro _ (And.intro rfl (And.intro (by unfold I64; omega) ?_)))))
      (first | refine c78z (likok hk (by omega) hlN hw0 hw1 (Int.le_refl 0) (by decide)) rfl ?_ | refine (c78z (likok hk (by omega) hlN hw0 hw1 (Int.le_refl 0) (by decide)) rfl ?_).call)
      (repeat (first | refine And.intro (fun _ => ?_) (fun h => absurd h (by decide)) | refine And.intro (fun h => absurd h (by decide)) (fun _ => ?_) | refine Exists.intro _ (And.intro rfl ?_) | refine And.intro (by decide) ?_ | refine And.intro (by omega) ?_ | refine Or.inl (Exists.intro _ (And.intro rfl (And.intro (by unfold I64; omega) ?_)))))
      refine hK0 _ _ ?_
      refine ⟨[(0, 0)], _, [ro ([k, n])], by simp, anch_of rfl, ⟨⟨_, rfl, BRen.ints _ _ _⟩, trivial⟩, rfl, VRen.plain rfl, (by rw [decide_eq_true h2]; rfl), rfl⟩
    · have h2 : ¬ up.tdiv (k ^ N) = (ln : Int) + 1 := by simpa using h1
      (repeat (first | refine And.intro (fun _ => ?_) (fun h => absurd h (by decide)) | refine And.intro (fun h => absurd h (by decide)) (fun _ => ?_) | refine Exists.intro _ (And.intro rfl ?_) | refine And.intro (by decide) ?_ | refine And.intro (by omega) ?_ | refine Or.inl (Exists.intro _ (And.intro rfl (And.intro (by unfold I64; omega) ?_)))))
      refine hK0 _ _ ?_
      refine ⟨[(0, 0)], _, [ro ([k, n])], by simp, anch_of rfl, ⟨⟨_, rfl, BRen.ints _ _ _⟩, trivial⟩, rfl, VRen.plain rfl, (by rw [decide_eq_false h2]; rfl), rfl⟩
  | fly a h =>
    obtain ⟨rfl, rfl⟩ := hof
    obtain ⟨ha, hh, hah⟩ := hok
    simp only [Sh.sw] at hx hy hbd
    have hm := mulb (a := a) (b := h) (A := 16) (B := 4) (by omega) (by omega) (by omega) (by omega)
    have el : Sh.lnk (.fly a h) x y = lnFl a h x y := by simp only [Sh.lnk]; rw [if_neg hne]
    rw [el]
    have hi0 : 0 ≤ x.tdiv a := Int.tdiv_nonneg hx.1 (by omega)
    have hj0 : 0 ≤ y.tdiv a := Int.tdiv_nonneg hy.1 (by omega)
    have hi1 : x.tdiv a < a * h + 1 := by
      rw [Int.tdiv_eq_ediv_of_nonneg hx.1]
      exact Int.ediv_lt_of_lt_mul (by omega) (by rw [Int.mul_comm]; exact hx.2)
    have hj1 : y.tdiv a < a * h + 1 := by
      rw [Int.tdiv_eq_ediv_of_nonneg hy.1]
      exact Int.ediv_lt_of_lt_mul (by omega) (by rw [Int.mul_comm]; exact hy.2)
    unfold lnFl
    (repeat (first | refine And.intro (fun _ => ?_) (fun h => absurd h (by decide)) | refine And.intro (fun h => absurd h (by decide)) (fun _ => ?_) | refine Exists.intro _ (And.intro rfl ?_) | refine And.intro (by decide) ?_ | refine And.intro (by omega) ?_ | refine Or.inl (Exists.intro _ (And.intro rfl (And.intro (by unfold I64; omega) ?_)))))
    refine vcg_draw tok mx [0, 0, 2, 6, 14, 31, 0, 0, 128, 384, 896, 1984, 63, 8191] [false, false, false, false, false, false, true, true, true, true, true, true, true, false] [0, 1, 2, 3, 4, 5, 6, 7, 8, 9, 10, 11, 12, 13] (by kernel_rfl) ?_
    refine vopsO_gen (fun K0 hK0 => ?_)
    (repeat (first | refine And.intro (fun _ => ?_) (fun h => absurd h (by decide)) | refine And.intro (fun h => absurd h (by decide)) (fun _ => ?_) | refine Exists.intro _ (And.intro rfl ?_) | refine And.intro (by decide) ?_ | refine And.intro (by omega) ?_ | refine Or.inl (Exists.intro _ (And.intro rfl (And.intro (by unfold I64; omega) ?_))) | refine And.intro (show (_ : Nat) < _ from by simp) ?_))
    refine hK0 _ _ ?_
    clear hK0 K0
    refine And.intro (fun he => ?_) (fun he => ?_)
    · have he : x.tdiv a = y.tdiv a := by simpa using he
      refine ⟨[(0, 0)], _, [ro ([a, h])], by simp, anch_of rfl, ⟨⟨_, rfl, BRen.ints _ _ _⟩, trivial⟩, rfl, VRen.plain rfl, (by rw [decide_eq_true he]; rfl), rfl⟩
    · have he : ¬ x.tdiv a = y.tdiv a := by simpa using he
      obtain ⟨d, hd⟩ : ∃ d, gapF a h (x.tdiv a) (y.tdiv a) = d := ⟨_, rfl⟩
      have hg := gap_in hi0 hi1 hj0 hj1 he
      rw [hd] at hg
      rw [hd, decide_eq_false he, Bool.false_or]
      refine vcg_draw tok mx [0, 0, 3, 7, 0, 16, 63, 0, 176, 511, 1023] [false, false, false, false, false, true, true, true, false, false, false] [0, 1, 2, 3, 4, 7, 5, 6, 8, 9, 10] (by kernel_rfl) ?_
      refine vopsO_gen (fun K0 hK0 => ?_)
      (repeat (first | refine And.intro (fun _ => ?_) (fun h => absurd h (by decide)) | refine And.intro (fun h => absurd h (by decide)) (fun _ => ?_) | refine Exists.intro _ (And.intro rfl ?_) | refine And.intro (by decide) ?_ | refine And.intro (by omega) ?_ | refine Or.inl (Exists.intro _ (And.intro rfl (And.intro (by unfold I64; omega) ?_)))))
      (first | refine c70 ha hh rfl ?_ | refine (c70 ha hh rfl ?_).call)
      (repeat (first | refine And.intro (fun _ => ?_) (fun h => absurd h (by decide)) | refine And.intro (fun h => absurd h (by decide)) (fun _ => ?_) | refine Exists.intro _ (And.intro rfl ?_) | refine And.intro (by decide) ?_ | refine And.intro (by omega) ?_ | refine Or.inl (Exists.intro _ (And.intro rfl (And.intro (by unfold I64; omega) ?_)))))
      (first | refine c70 ha hh rfl ?_ | refine (c70 ha hh rfl ?_).call)
      refine ⟨by omega, d, hd, ?_⟩
      refine hK0 _ _ ?_
      clear hK0 K0
      refine vcg_draw tok mx [0, 0, 0, 7, 0, 31, 63, 127, 127, 127, 639, 1663, 127, 7807, 16383, 127, 65535, 131071, 262143] [false, true, true, false, true, false, false, false, true, true, true, true, true, true, false, true, false, false, false] [0, 1, 2, 4, 3, 5, 6, 7, 8, 9, 12, 15, 10, 11, 13, 14, 16, 17, 18] (by kernel_rfl) ?_
      refine vopsO_gen (fun K0 hK0 => ?_)
      (repeat (first | refine And.intro (fun _ => ?_) (fun h => absurd h (by decide)) | refine And.intro (fun h => absurd h (by decide)) (fun _ => ?_) | refine Exists.intro _ (And.intro rfl ?_) | refine And.intro (by decide) ?_ | refine And.intro (by omega) ?_ | refine Or.inl (Exists.intro _ (And.intro rfl (And.intro (by unfold I64; omega) ?_)))))
      (first | refine c80 ha hh (by omega) (by omega) rfl ?_ | refine (c80 ha hh (by omega) (by omega) rfl ?_).call)
      refine And.intro (fun h1 => ?_) (fun h1 => ?_)
      · (repeat (first | refine And.intro (fun _ => ?_) (fun h => absurd h (by decide)) | refine And.intro (fun h => absurd h (by decide)) (fun _ => ?_) | refine Exists.intro _ (And.intro rfl ?_) | refine And.intro (by decide) ?_ | refine And.intro (by omega) ?_ | refine Or.inl (Exists.intro _ (And.intro rfl (And.intro (by unfold I64; omega) ?_)))))
        (first | refine c70 ha hh rfl ?_ | refine (c70 ha hh rfl ?_).call)
        (repeat (first | refine And.intro (fun _ => ?_) (fun h => absurd h (by decide)) | refine And.intro (fun h => absurd h (by decide)) (fun _ => ?_) | refine Exists.intro _ (And.intro rfl ?_) | refine And.intro (by decide) ?_ | refine And.intro (by omega) ?_ | refine Or.inl (Exists.intro _ (And.intro rfl (And.intro (by unfold I64; omega) ?_)))))
        (first | refine c80 ha hh (by omega) (by omega) rfl ?_ | refine (c80 ha hh (by omega) (by omega) rfl ?_).call)
        (repeat (first | refine And.intro (fun _ => ?_) (fun h => absurd h (by decide)) | refine And.intro (fun h => absurd h (by decide)) (fun _ => ?_) | refine Exists.intro _ (And.intro rfl ?_) | refine And.intro (by decide) ?_ | refine And.intro (by omega) ?_ | refine Or.inl (Exists.intro _ (And.intro rfl (And.intro (by unfold I64; omega) ?_)))))
        refine hK0 _ _ ?_
        refine ⟨[(0, 0)], _, [ro ([a, h])], by simp, anch_of rfl, ⟨⟨_, rfl, BRen.ints _ _ _⟩, trivial⟩, rfl, VRen.plain rfl, (by rw [show decide (porF a h (x.tdiv a) d = x) = true from h1]; rfl), rfl⟩
      · (repeat (first | refine And.intro (fun _ => ?_) (fun h => absurd h (by decide)) | refine And.intro (fun h => absurd h (by decide)) (fun _ => ?_) | refine Exists.intro _ (And.intro rfl ?_) | refine And.intro (by decide) ?_ | refine And.intro (by omega) ?_ | refine Or.inl (Exists.intro _ (And.intro rfl (And.intro (by unfold I64; omega) ?_)))))
        refine hK0 _ _ ?_
        refine ⟨[(0, 0)], _, [ro ([a, h])], by simp, anch_of rfl, ⟨⟨_, rfl, BRen.ints _ _ _⟩, trivial⟩, rfl, VRen.plain rfl, (by rw [show decide (porF a h (x.tdiv a) d = x) = false from h1]; rfl), rfl⟩
end Go.Af.Tryz
namespace Go.Af.Tryz
open Go Go.Proofs
attribute [local irreducible] awp ACall ACallX AYield AInvoke newSlice isCells rdCells wrCells aAppend

abbrev none' : Nat → Prop := fun _ => False
def lnkL (s : Sh) (x : Int) (m : Nat) : List Int := ((List.range m).map fun y : Nat => (y : Int)).filter (s.lnk x)
theorem lnkL_succ (s : Sh) (x : Int) (m : Nat) : lnkL s x (m + 1) = lnkL s x m ++ (if s.lnk x m then [(m : Int)] else []) := by
  simp only [lnkL, List.range_succ, List.map_append, List.filter_append, List.map_cons, List.map_nil, List.filter_cons, List.filter_nil]
theorem lnkL_len (s : Sh) (x : Int) (m : Nat) : (lnkL s x m).length ≤ m := by
  have := List.length_filter_le (s.lnk x) ((List.range m).map fun y : Nat => (y : Int))
  simpa [lnkL] using this
theorem lnkL_mem {s : Sh} {x y : Int} {m : Nat} : y ∈ lnkL s x m ↔ (0 ≤ y ∧ y < m) ∧ s.lnk x y = true := by
  simp only [lnkL, List.mem_filter, List.mem_map, List.mem_range]
  constructor
  · rintro ⟨⟨k, hk, rfl⟩, h⟩; exact ⟨⟨by omega, by omega⟩, h⟩
  · rintro ⟨⟨h0, h1⟩, h⟩; exact ⟨⟨y.toNat, by omega, by omega⟩, h⟩

theorem c86 {H : List Blk} {R : Value → List Blk → Prop} {b c : Nat} {wr : Bool} {kind hosts x y : Int} {sides : List Int} {s : Sh} (hok : s.ok) (hof : s.of kind sides) (hx : 0 ≤ x ∧ x < s.sw) (hy : 0 ≤ y ∧ y < s.sw) (hb : bget H b = some (.cells wr 1 (ints sides))) (hl : sides.length ≤ c) (h : R (.bool (s.lnk x y)) H) :
    ACallX Tryz.prog 88 [spV kind (.slice (some ⟨b, 0, none⟩) sides.length c) hosts, .int .i64 x, .int .i64 y] H R := acallx_sp rfl (l86 kind hosts x y sides s hok hof hx hy) hb hl rfl h


set_option maxHeartbeats 1000000 in
theorem g72 {H : List Blk} {R : Value → List Blk → Prop} {b n : Nat} {wr : Bool} {kind hosts x : Int} {sides : List Int} {s : Sh} (hok : s.ok) (hof : s.of kind sides) (hn : s.sw = n) (hx : 0 ≤ x ∧ x < s.sw) (hb : bget H b = some (.cells wr 1 (ints sides)))
    (h : ∀ H' k, HS H none' [(true, k, rw' (lnkL s x n))] H' → R (sv k (lnkL s x n).length) H') : ACall Tryz.prog 49 [spV kind (sv b sides.length) hosts, .int .i64 x] H R := by
  have hbd := sw_bd hok
  refine acall_vcg tok Tryz.call49 Tryz.func49 rfl Tryz.ntmps49 rfl (by simp) ?_
  refine new_hs (((HS.start H none').add (c := false) hb (fun i p hi => by simp at hi) (fun h => by cases h))) (fun H1 b1 e1 l1 hs1 => ?_)
  refine vcg_loopV (α := List Blk × Nat × Nat) tok (fun z => HS H none' [(true, z.2.1, rw' (lnkL s x z.2.2)), (true, b1, .cells true 1 [.int .i64 kind, sv b sides.length, .int .i64 hosts]), (false, b, .cells wr 1 (ints sides))] z.1 ∧ z.2.2 ≤ n)
    (fun | (_, k, y) => [(1, .int .i64 x), (2, pV b1), (5, sv k (lnkL s x y).length), (6, .int .i64 (y : Int))]) (fun | (H', _, _) => H') (fun z => n - z.2.2)
    (H1 ++ [rw' []], H1.length, 0) ⟨hs1.virt _, Nat.zero_le _⟩ ⟨⟨_, rfl, .rfl⟩, ⟨_, rfl, .rfl⟩, ⟨_, rfl, WkV.nil _⟩, ⟨_, rfl, .rfl⟩, trivial⟩ (WkH.rfl.app _) ?_
  clear hs1
  rintro ⟨H2, k, y⟩ ⟨hs, hy⟩
  simp only at hs hy
  have hlen := lnkL_len s x y
  refine rdCells_of (hs.get 1 rfl) ?_
  refine ⟨_, rfl, _, rfl, _, rfl, ?_⟩
  (first | refine c58 hok hof (hs.get 2 rfl) (Nat.le_refl _) ?_ | refine (c58 hok hof (hs.get 2 rfl) (Nat.le_refl _) ?_).call)
  rw [hn]
  refine And.intro (fun hc => ?_) (fun hc => ?_)
  · have hlt : y < n := by simpa using hc
    refine rdCells_of (hs.get 1 rfl) ?_
    refine ⟨_, rfl, _, rfl, _, rfl, ?_⟩
    (first | refine c86 hok hof hx ⟨by omega, by omega⟩ (hs.get 2 rfl) (Nat.le_refl _) ?_ | refine (c86 hok hof hx ⟨by omega, by omega⟩ (hs.get 2 rfl) (Nat.le_refl _) ?_).call)
    refine And.intro (fun hc => ?_) (fun hc => ?_)
    · have hc : s.lnk x y = true := hc
      refine And.intro (by decide) ?_
      refine newS_hs hs (fun H3 j e3 l3 hs3 => ?_)
      refine And.intro rfl ?_
      refine app_hs hs3 1 rfl (by decide) (hs3.get 0 rfl) rfl rfl (by simp) (by simp only; omega) (fun H4 k' e4 l4 hs4 => ?_)
      have e : lnkL s x (y + 1) = lnkL s x y ++ [(y : Int)] := by rw [lnkL_succ, if_pos hc]
      refine Or.inl ⟨((y + 1 : Nat) : Int), by simp, by unfold I64; omega, ?_⟩
      refine ⟨(H4, k', y + 1), ⟨?_, hlt⟩, by simp only; omega, Or.inl ⟨⟨rfl, rfl, ?_, rfl, trivial⟩, rfl⟩⟩
      · simp only [e, rw', ints_append]
        exact hs4.tail
      · rw [e]; simp [look]
    · have hc : s.lnk x y = false := hc
      have e : lnkL s x (y + 1) = lnkL s x y := by rw [lnkL_succ, if_neg (by rw [hc]; decide), List.append_nil]
      refine Or.inl ⟨((y + 1 : Nat) : Int), by simp, by unfold I64; omega, ?_⟩
      exact ⟨(H2, k, y + 1), ⟨by simp only [e]; exact hs, hlt⟩, by simp only; omega, Or.inl ⟨⟨rfl, rfl, by rw [e]; rfl, rfl, trivial⟩, rfl⟩⟩
  · have : y = n := by simp at hc; omega
    subst this
    exact h _ _ (hs.pick [0] (by decide) rfl)
end Go.Af.Tryz
namespace Go.Af.Tryz
open Go Go.Proofs
attribute [local irreducible] awp ACall ACallX AYield AInvoke newSlice isCells rdCells wrCells aAppend

/-! ### Across -/
end Go.Af.Tryz
namespace Go.Af.Tryz
open Go Go.Proofs
attribute [local irreducible] awp ACall ACallX AYield AInvoke

end Go.Af.Tryz
namespace Go.Af.Tryz
open Go Go.Proofs
attribute [local irreducible] awp ACall ACallX AYield AInvoke newSlice isCells rdCells wrCells aAppend

end Go.Af.Tryz
