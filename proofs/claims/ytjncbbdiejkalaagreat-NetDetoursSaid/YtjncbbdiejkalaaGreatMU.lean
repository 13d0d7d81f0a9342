/-
  Routes in a torus: plain functions. No program is in sight.
  Routes in a tree: plain functions. No program is in sight.
-/
import Derived.Test.YtjncbbdiejkalaaGreatMT
set_option linter.all false
namespace Go.Af.Tryz
open Go

/-- One step around a ring. -/
def stepF (m d a : Int) : Int := (a + d + m).tmod m
theorem step_up {m a : Int} (hm : 2 ≤ m) (h0 : 0 ≤ a) (h1 : a < m) : stepF m 1 a = if a = m - 1 then 0 else a + 1 := by
  unfold stepF
  rw [Int.tmod_eq_emod_of_nonneg (by omega), Int.add_emod_right]
  split
  · rename_i h; subst h; rw [show m - 1 + 1 = m by omega, Int.emod_self]
  · rw [Int.emod_eq_of_lt (by omega) (by omega)]
theorem step_dn {m a : Int} (hm : 2 ≤ m) (h0 : 0 ≤ a) (h1 : a < m) : stepF m (-1) a = if a = 0 then m - 1 else a - 1 := by
  unfold stepF
  rw [Int.tmod_eq_emod_of_nonneg (by omega)]
  split
  · rename_i h; subst h; rw [Int.emod_eq_of_lt (by omega) (by omega)]; omega
  · rw [Int.add_emod_right, Int.emod_eq_of_lt (by omega) (by omega)]; omega

/-- The steps along one side. -/
def inn (g : List Int) (i : Nat) (m d : Int) : Nat → List Int → Int → List Int → List Int → List Int × List Int × List Int
  | 0, e, _, p, q => (e, p, q)
  | k + 1, e, c, p, q =>
    inn g i m d k (e.set i (stepF m d e[i]!)) (if stepF m d e[i]! - e[i]! ≠ d then 1 else c) (p ++ [numF g (e.set i (stepF m d e[i]!))]) (q ++ [if stepF m d e[i]! - e[i]! ≠ d then 1 else c])
/-- Coordinates are within their sides. -/
def InR (g e : List Int) : Prop := e.length = g.length ∧ ∀ i, i < g.length → 0 ≤ e[i]! ∧ e[i]! < g[i]!
theorem quo_nn {x : Int} (hx : 0 ≤ x) : ∀ (g : List Int) (_ : ∀ m ∈ g, 2 ≤ m), 0 ≤ quoF g x
  | [], _ => hx
  | m :: r, hg => Int.tdiv_nonneg (quo_nn hx r (fun m hm => hg m (by simp [hm]))) (by have := hg m (by simp); omega)
theorem coords_in {x : Int} (hx : 0 ≤ x) : ∀ (g : List Int) (_ : ∀ m ∈ g, 2 ≤ m), InR g (coords g x)
  | [], _ => ⟨rfl, fun i hi => by simp at hi⟩
  | m :: r, hg => by
    obtain ⟨h1, h2⟩ := coords_in hx r (fun m hm => hg m (by simp [hm]))
    have hm := hg m (by simp)
    refine ⟨by simp [coords, h1], fun i hi => ?_⟩
    cases i with
    | zero =>
      have hq := quo_nn hx r (fun m hm => hg m (by simp [hm]))
      simp only [coords, List.getElem!_cons_zero]
      exact ⟨Int.tmod_nonneg m hq, Int.tmod_lt_of_pos _ (by omega)⟩
    | succ i =>
      simp only [coords, List.getElem!_cons_succ]
      exact h2 i (by simpa using hi)
theorem InR.set {g e : List Int} (h : InR g e) {i : Nat} (hi : i < g.length) {a : Int} (h0 : 0 ≤ a) (h1 : a < g[i]!) : InR g (e.set i a) := by
  refine ⟨by simp [h.1], fun j hj => ?_⟩
  have hle : j < (e.set i a).length := by simp [h.1, hj]
  rw [getElem!_pos _ j hle, List.getElem_set]
  split
  · rename_i hij; subst hij; exact ⟨h0, h1⟩
  · have := h.2 j hj
    rw [getElem!_pos e j (by rw [h.1]; exact hj)] at this; exact this
theorem num_snoc {g e : List Int} {i : Nat} (hi : i < g.length) (hl : e.length = g.length) : numF (g.take (i + 1)) (e.take (i + 1)) = numF (g.take i) (e.take i) * g[i]! + e[i]! := by
  unfold numF
  rw [List.take_succ_eq_append_getElem hi, List.take_succ_eq_append_getElem (show i < e.length by omega), List.zip_append (by simp; omega), getElem!_pos g i hi, getElem!_pos e i (by omega)]
  simp
/-- Numbers are less than the product of the sides. -/
theorem num_lt {g e : List Int} (h : InR g e) : ∀ i, i ≤ g.length → 0 ≤ numF (g.take i) (e.take i) ∧ numF (g.take i) (e.take i) < prodF (g.take i)
  | 0, _ => by simp [numF, prodF]
  | i + 1, hi => by
    obtain ⟨h1, h2⟩ := num_lt h i (by omega)
    obtain ⟨h3, h4⟩ := h.2 i (by omega)
    rw [num_snoc (by omega) h.1, prodF_snoc g i (by omega)]
    have h5 := Int.mul_nonneg h1 (show 0 ≤ g[i]! by omega)
    have h6 := Int.mul_le_mul_of_nonneg_right (show numF (g.take i) (e.take i) + 1 ≤ prodF (g.take i) by omega) (show 0 ≤ g[i]! by omega)
    rw [Int.add_mul] at h6
    omega
theorem num_i64 {g e : List Int} (h : InR g e) (hg : ∀ i, 1 ≤ prodF (g.take i) ∧ prodF (g.take i) ≤ 256) (i : Nat) (hi : i < g.length) : I64 (numF (g.take i) (e.take i) * g[i]!) ∧ I64 (numF (g.take (i + 1)) (e.take (i + 1))) := by
  obtain ⟨h1, h2⟩ := num_lt h i (by omega)
  obtain ⟨h3, h4⟩ := num_lt h (i + 1) (by omega)
  have h5 := hg (i + 1)
  obtain ⟨k1, k2⟩ := h.2 i hi
  have h6 := Int.mul_nonneg h1 (show 0 ≤ g[i]! by omega)
  rw [num_snoc hi h.1] at h3 h4
  rw [num_snoc hi h.1]
  unfold I64; omega
end Go.Af.Tryz
namespace Go.Af
open Go
end Go.Af
namespace Go.Af.Tryz
open Go Go.Proofs
attribute [local irreducible] awp ACall ACallX AYield AInvoke

theorem c137 {H : List Blk} {R : Value → List Blk → Prop} {b : Nat} {wr : Bool} {g : List Int} (i : Nat) (hi : i < g.length) (c d : Int) (h1 : I64 (c + d)) (h2 : I64 (c + d + g[i]!)) (h3 : g[i]! ≠ 0) (hb : bget H b = some (.cells wr 1 (ints g))) (h : R (.int .i64 (stepF g[i]! d c)) H) :
    ACallX Tryz.prog 155 [sv b g.length, .int .i64 i, .int .i64 c, .int .i64 d] H R :=
  acallx_s (l137 g i hi c d h1 h2 h3) [(b, 0)] rfl (.cons (VRen.slice rfl rfl (Nat.le_refl _)) (.cons (.int _ _) (.cons (.int _ _) (.cons (.int _ _) .nil))))
    ⟨⟨_, hb, BRen.seg fun i x hx => by rw [Nat.zero_add, ints_get, hx]; rfl⟩, trivial⟩ rfl h
theorem c66 {H : List Blk} {R : Value → List Blk → Prop} {b : Nat} {wr : Bool} {g : List Int} {x : Int} (hg : ∀ m ∈ g, 2 ≤ m) (hl : g.length ≤ 1000) (hx : I64 x) (hb : bget H b = some (.cells wr 1 (ints g)))
    (h : bsnocK H 0 (rw' (coords g x)) (fun i H' => R (.slice (some ⟨i, 0, none⟩) g.length g.length) H')) : ACallX Tryz.prog 76 [sv b g.length, .int .i64 x] H R :=
  acallx_r (H2 := [ro g]) (l66 g hg hl x hx) [(b, 0)] rfl (.cons (VRen.slice rfl rfl (Nat.le_refl _)) (.cons (.int _ _) .nil)) ⟨⟨_, hb, BRen.seg fun i x hx => by rw [Nat.zero_add, ints_get, hx]; rfl⟩, trivial⟩ h
theorem c67 {H : List Blk} {R : Value → List Blk → Prop} {b j : Nat} {wr wr2 : Bool} {g e : List Int} (hl : e.length = g.length) (hL : g.length ≤ 1000) (hn : ∀ i, i < g.length → I64 (numF (g.take i) (e.take i) * g[i]!) ∧ I64 (numF (g.take (i + 1)) (e.take (i + 1)))) (hb : bget H b = some (.cells wr 1 (ints g)))
    (hj : bget H j = some (.cells wr2 1 (ints e))) (h : R (.int .i64 (numF g e)) H) : ACallX Tryz.prog 77 [sv b g.length, sv j g.length] H R :=
  acallx_s (l67 g e hl.symm (by omega) hn) [(b, 0), (j, 0)] rfl (.cons (VRen.slice rfl rfl (Nat.le_refl _)) (.cons (by rw [← hl]; exact VRen.slice rfl rfl (Nat.le_refl _)) .nil))
    ⟨⟨_, hb, BRen.seg fun i x hx => by rw [Nat.zero_add, ints_get, hx]; rfl⟩, ⟨_, hj, BRen.seg fun i x hx => by rw [Nat.zero_add, ints_get, hx]; rfl⟩, trivial⟩ rfl h

theorem set_int (e : List Int) (i : Nat) (a : Int) : setSeg (ints e) (0 + i * 1) (cellsL (.int .i64 a)) = ints (e.set i a) := by
  rw [Nat.zero_add, Nat.mul_one]; simp [cellsL, setSeg_one, ints_set]
end Go.Af.Tryz
namespace Go.Af.Tryz
open Go

def digF (k w : Int) (i : Nat) : Int := (w.tdiv (k ^ i)).tmod k
def likF (k w : Int) (i : Nat) (o : Int) : Int := w + (digF k o i - digF k w i) * k ^ i
theorem lik_in {k : Int} (hk : 2 ≤ k) {w o : Int} {i N : Nat} (hi : i < N) (h0 : 0 ≤ w) (h1 : w < k ^ N) (ho : 0 ≤ o) : (0 ≤ likF k w i o ∧ likF k w i o < k ^ N) ∧ (0 ≤ digF k o i ∧ digF k o i < k) ∧ (0 ≤ digF k w i ∧ digF k w i < k) := by
  obtain ⟨K, rfl⟩ : ∃ K : Nat, k = K := ⟨k.toNat, by omega⟩
  obtain ⟨W, rfl⟩ : ∃ W : Nat, w = W := ⟨w.toNat, by omega⟩
  obtain ⟨O, rfl⟩ : ∃ O : Nat, o = O := ⟨o.toNat, by omega⟩
  have hd : ∀ X : Nat, digF (K : Int) (X : Int) i = ((X / K ^ i % K : Nat) : Int) := fun X => by
    unfold digF
    rw [← Int.natCast_pow, ← Int.ofNat_tdiv, ← Int.ofNat_tmod]
  have hb : ∀ X : Nat, X / K ^ i % K < K := fun X => Nat.mod_lt _ (by omega)
  have hpw : 0 < K ^ i := Nat.pow_pos (by omega)
  refine ⟨?_, by rw [hd]; have := hb O; omega, by rw [hd]; have := hb W; omega⟩
  have h1' : W < K ^ N := by rw [← Int.natCast_pow] at h1; omega
  -- the word by its parts
  have e1 : W = K ^ i * (W / K ^ i) + W % K ^ i := (Nat.div_add_mod _ _).symm
  have e2 : W / K ^ i = K * (W / K ^ i / K) + W / K ^ i % K := (Nat.div_add_mod _ _).symm
  have hr : W % K ^ i < K ^ i := Nat.mod_lt _ hpw
  obtain ⟨M, hM⟩ : ∃ M, N = i + 1 + M := ⟨N - (i + 1), by omega⟩
  have e3 : K ^ N = K ^ i * (K * K ^ M) := by rw [hM, Nat.pow_add, Nat.pow_add, Nat.pow_one, Nat.mul_assoc]
  have hq : W / K ^ i / K < K ^ M := by
    rw [Nat.div_div_eq_div_mul]
    refine Nat.div_lt_of_lt_mul ?_
    rw [Nat.mul_assoc, ← e3]; exact h1'
  have ev : likF (K : Int) (W : Int) i (O : Int) = ((K ^ i * (K * (W / K ^ i / K) + O / K ^ i % K) + W % K ^ i : Nat) : Int) := by
    unfold likF
    rw [hd, hd, ← Int.natCast_pow]
    have e4 : (W : Int) = ((K ^ i * (K * (W / K ^ i / K) + W / K ^ i % K) + W % K ^ i : Nat) : Int) := by rw [← e2, ← e1]
    rw [e4]
    simp only [Int.natCast_add, Int.natCast_mul, Int.mul_add, Int.sub_mul]
    rw [Int.mul_comm ((O / K ^ i % K : Nat) : Int), Int.mul_comm ((W / K ^ i % K : Nat) : Int)]
    omega
  rw [ev]
  refine ⟨Int.natCast_nonneg _, ?_⟩
  rw [← Int.natCast_pow]
  refine Int.ofNat_lt.2 ?_
  have hO := hb O
  have h5 : K * (W / K ^ i / K) + O / K ^ i % K + 1 ≤ K * K ^ M := by
    have : K * (W / K ^ i / K + 1) ≤ K * K ^ M := Nat.mul_le_mul_left _ hq
    rw [Nat.mul_add, Nat.mul_one] at this; omega
  have h6 := Nat.mul_le_mul_left (K ^ i) h5
  rw [Nat.mul_add, Nat.mul_one, ← e3] at h6
  omega

end Go.Af.Tryz
namespace Go.Af.Tryz
open Go Go.Proofs
attribute [local irreducible] awp ACall ACallX AYield AInvoke

theorem pow_ok {k : Int} (hk : 2 ≤ k ∧ k ≤ 8) {l : Nat} (hl : l ≤ 4) : 1 ≤ k ^ l ∧ k ^ l ≤ 65536 := ⟨powpos (by omega) l, (powle (by omega) (by omega) l hl).2⟩
theorem x82 {H : List Blk} {R : Value → List Blk → Prop} {k : Int} (hk : 2 ≤ k ∧ k ≤ 8) {l : Nat} (hl : l ≤ 4) (h : R (.int .i64 (k ^ l)) H) : ACallX Tryz.prog 90 [.int .i64 k, .int .i64 l] H R :=
  c82 k l (fun i hi => i64_of (by have := pow_ok hk (l := i) (by omega); omega)) (by omega) (by simpa using h)
/-- What is asked of a word, a digit's place and a goal. -/
structure LikOk (k w : Int) (l : Nat) (o : Int) : Prop where
  hk : 2 ≤ k ∧ k ≤ 8
  hl : l ≤ 4
  hw : 0 ≤ w ∧ w ≤ 65536
  ho : 0 ≤ o ∧ o ≤ 65536
  hr : 0 ≤ likF k w l o ∧ likF k w l o ≤ 65536
  d1 : 0 ≤ digF k o l ∧ digF k o l < k
  d2 : 0 ≤ digF k w l ∧ digF k w l < k
theorem likok {k : Int} (hk : 2 ≤ k ∧ k ≤ 8) {w o : Int} {i N : Nat} (hN : N ≤ 4) (hi : i < N) (h0 : 0 ≤ w) (h1 : w < k ^ N) (ho : 0 ≤ o) (ho1 : o ≤ 65536) : LikOk k w i o := by
  obtain ⟨⟨a, b⟩, c, d⟩ := lik_in hk.1 hi h0 h1 ho
  have := pow_ok hk hN
  exact ⟨hk, by omega, by omega, ⟨ho, ho1⟩, by omega, c, d⟩

theorem l148 (k n w o : Int) (l : Nat) (h : LikOk k w l o) : ACall Tryz.prog 164 [twoV k n, .int .i64 w, .int .i64 l, .int .i64 o] [] (fun v H => v = .int .i64 (likF k w l o) ∧ H = []) := by
  obtain ⟨hk, hl, hw, ho, hr, h1, h2⟩ := h
  have hp := pow_ok hk hl
  have e : likF k w l o = w + (digF k o l - digF k w l) * k ^ l := rfl
  refine acall_drop (acall_vcg tok Tryz.call164 Tryz.func164 rfl Tryz.ntmps164 rfl (by simp) ?_)
  (repeat (first | refine And.intro (fun _ => ?_) (fun h => absurd h (by decide)) | refine And.intro (fun h => absurd h (by decide)) (fun _ => ?_) | refine Exists.intro _ (And.intro rfl ?_) | refine And.intro (by decide) ?_ | refine And.intro (by omega) ?_ | refine Or.inl (Exists.intro _ (And.intro rfl (And.intro (by unfold I64; omega) ?_)))))
  (first | refine x82 hk hl ?_ | refine (x82 hk hl ?_).call)
  refine vcg_draw tok mx [0, 0, 0, 6, 0, 16, 62, 0, 0, 384, 0, 1024, 3968, 8190, 0, 32766, 65535, 131071] [false, false, false, false, false, false, false, true, true, true, true, true, true, false, true, false, false, false] [0, 1, 2, 3, 4, 5, 6, 7, 8, 9, 10, 11, 12, 13, 14, 15, 16, 17] (by kernel_rfl) ?_
  (repeat (first | refine And.intro (fun _ => ?_) (fun h => absurd h (by decide)) | refine And.intro (fun h => absurd h (by decide)) (fun _ => ?_) | refine Exists.intro _ (And.intro rfl ?_) | refine And.intro (by decide) ?_ | refine And.intro (by omega) ?_ | refine Or.inl (Exists.intro _ (And.intro rfl (And.intro (by unfold I64; omega) ?_)))))
  refine Or.inl ⟨_, rfl, div_i64 (i64_of ho) hp.1, ?_⟩
  (repeat (first | refine And.intro (fun _ => ?_) (fun h => absurd h (by decide)) | refine And.intro (fun h => absurd h (by decide)) (fun _ => ?_) | refine Exists.intro _ (And.intro rfl ?_) | refine And.intro (by decide) ?_ | refine And.intro (by omega) ?_ | refine Or.inl (Exists.intro _ (And.intro rfl (And.intro (by unfold I64; omega) ?_)))))
  refine Or.inl ⟨_, rfl, div_i64 (i64_of hw) hp.1, ?_⟩
  (repeat (first | refine And.intro (fun _ => ?_) (fun h => absurd h (by decide)) | refine And.intro (fun h => absurd h (by decide)) (fun _ => ?_) | refine Exists.intro _ (And.intro rfl ?_) | refine And.intro (by decide) ?_ | refine And.intro (by omega) ?_ | refine Or.inl (Exists.intro _ (And.intro rfl (And.intro (by unfold I64; omega) ?_)))))
  refine Or.inl ⟨digF k o l - digF k w l, rfl, by unfold I64; omega, ?_⟩
  refine Or.inl ⟨(digF k o l - digF k w l) * k ^ l, rfl, by unfold I64; omega, ?_⟩
  refine Or.inl ⟨likF k w l o, e.symm, by unfold I64; omega, ?_⟩
  exact ⟨[], _, [], by simp, anch_of rfl, trivial, rfl, VRen.plain rfl, rfl, rfl⟩
theorem c148 {H : List Blk} {R : Value → List Blk → Prop} {k n w o : Int} {l : Nat} (hh : LikOk k w l o) (h : R (.int .i64 (likF k w l o)) H) : ACallX Tryz.prog 164 [twoV k n, .int .i64 w, .int .i64 l, .int .i64 o] H R :=
  acallx_s (l148 k n w o l hh) [] rfl (.cons lren_two (.cons (.int _ _) (.cons (.int _ _) (.cons (.int _ _) .nil)))) trivial rfl h
theorem c142 {H : List Blk} {R : Value → List Blk → Prop} {k n x : Int} (hk : 2 ≤ k ∧ k ≤ 8) (hn : 1 ≤ n ∧ n ≤ 4) (hx : I64 x) (h : bsnocK H 0 (rw' [x.tdiv (k ^ (n - 1).toNat), x.tmod (k ^ (n - 1).toNat)]) (fun i H' => R (.slice (some ⟨i, 0, none⟩) 2 2) H')) :
    ACallX Tryz.prog 158 [twoV k n, .int .i64 x] H R := acallx_r (H2 := []) (l142 k n x hk hn hx) [] rfl (.cons lren_two (.cons (.int _ _) .nil)) trivial h

end Go.Af.Tryz
namespace Go.Af.Tryz
open Go Go.Proofs
attribute [local irreducible] awp ACall ACallX AYield AInvoke

end Go.Af.Tryz
namespace Go.Af.Tryz
open Go Go.Proofs
attribute [local irreducible] awp ACall ACallX AYield AInvoke

end Go.Af.Tryz
