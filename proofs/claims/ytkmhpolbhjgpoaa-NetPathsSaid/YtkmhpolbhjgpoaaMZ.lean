/-
  Routes never go back to a channel of a lower rank. No program is in sight.
  Routes never go back to a channel of a lower rank: trees and dragonflies. No program is in sight.
  Waiting channels: a struct with a row of triples and a row of rows, in a heap whose blocks have no literal numbers.
  A path is noted: the channels that wait have lower ranks than those that they wait for.
-/
import Derived.Test.YtkmhpolbhjgpoaaMX
import Derived.Test.YtkmhpolbhjgpoaaMT
import Derived.Test.YtkmhpolbhjgpoaaMC
import Derived.Laws.StructEq
set_option linter.all false
namespace Go.Af.Try
open Go

/-- A path whose channels, with their classes, have greater and greater ranks, all below B. -/
inductive Up (rk : Int → Int → Int → Nat) : List Int → List Int → Nat → Prop
  | one (x : Int) (B : Nat) : Up rk [x] [] B
  | snoc {p q : List Int} {B B' : Nat} {u v c : Int} (h : Up rk p q B) (hu : p.getLast? = some u) (h1 : B ≤ rk u v c) (h2 : rk u v c < B') : Up rk (p ++ [v]) (q ++ [c]) B'
theorem Up.le {rk : Int → Int → Int → Nat} {p q : List Int} {B B' : Nat} (h : Up rk p q B) (hb : B ≤ B') : Up rk p q B' := by
  cases h with
  | one x _ => exact .one x _
  | snoc h hu h1 h2 => exact .snoc h hu h1 (by omega)
theorem last_get {p : List Int} {u : Int} (h : p.getLast? = some u) : 0 < p.length ∧ p[p.length - 1]! = u := by
  rw [List.getLast?_eq_getElem?] at h
  have := (List.getElem?_eq_some_iff.1 h).1
  refine ⟨by omega, ?_⟩
  rw [getElem!_pos p _ this]
  exact (List.getElem?_eq_some_iff.1 h).2
theorem app_lt {p : List Int} {v : Int} {i : Nat} (h : i < p.length) : (p ++ [v])[i]! = p[i]! := by
  rw [getElem!_pos (p ++ [v]) i (by simp; omega), getElem!_pos p i h, List.getElem_append_left h]
theorem app_eq (p : List Int) (v : Int) : (p ++ [v])[p.length]! = v := by
  rw [getElem!_pos (p ++ [v]) _ (by simp)]; simp
theorem Up.idx {rk : Int → Int → Int → Nat} {p q : List Int} {B : Nat} (h : Up rk p q B) : q.length + 1 = p.length ∧ (∀ i, i + 1 < q.length → rk p[i]! p[i + 1]! q[i]! < rk p[i + 1]! p[i + 2]! q[i + 1]!) ∧ (∀ i, i + 1 = q.length → rk p[i]! p[i + 1]! q[i]! < B) := by
  induction h with
  | one x B => exact ⟨rfl, fun i hi => by simp at hi, fun i hi => by simp at hi⟩
  | @snoc p q B B' u v c h hu h1 h2 ih =>
    obtain ⟨i1, i2, i3⟩ := ih
    obtain ⟨l1, l2⟩ := last_get hu
    have new : rk (p ++ [v])[p.length - 1]! (p ++ [v])[p.length]! (q ++ [c])[q.length]! = rk u v c := by
      rw [app_lt (by omega), l2, app_eq, app_eq]
    refine ⟨by simp; omega, fun i hi => ?_, fun i hi => ?_⟩
    · simp only [List.length_append, List.length_singleton] at hi
      by_cases he : i + 1 = q.length
      · have e1 : p.length = i + 2 := by omega
        have := i3 i he
        rw [app_lt (p := p) (i := i) (by omega), app_lt (p := p) (i := i + 1) (by omega), app_lt (p := q) (i := i) (by omega)]
        rw [e1, ← he] at new
        have e2 : i + 2 - 1 = i + 1 := by omega
        rw [e2, app_lt (p := p) (i := i + 1) (by omega)] at new
        rw [new]; omega
      · rw [app_lt (by omega), app_lt (by omega), app_lt (by omega), app_lt (by omega), app_lt (by omega)]
        exact i2 i (by omega)
    · simp only [List.length_append, List.length_singleton] at hi
      have e1 : i = q.length := by omega
      have e2 : i = p.length - 1 := by omega
      have e3 : i + 1 = p.length := by omega
      rw [e3, e1, show q.length = p.length - 1 by omega, ← show q.length = p.length - 1 by omega]
      rw [show q.length = p.length - 1 by omega] at new ⊢
      rw [show p.length - 1 = q.length by omega] at new ⊢
      rw [new]; exact h2

/-! ### A torus -/

def numA (a : Int) (g e : List Int) : Int := (g.zip e).foldl (fun x p => x * p.1 + p.2) a
theorem inr_cons {m a : Int} {g e : List Int} (h : InR (m :: g) (a :: e)) : (0 ≤ a ∧ a < m) ∧ InR g e := by
  have h0 := h.2 0 (by simp)
  refine ⟨by simpa using h0, by have := h.1; simpa using this, fun i hi => ?_⟩
  have := h.2 (i + 1) (by simp; omega)
  simpa using this
theorem numA_back : ∀ (g e : List Int) (a : Int), 0 ≤ a → InR g e → quoF g (numA a g e) = a ∧ coords g (numA a g e) = e
  | [], [], a, _, _ => ⟨rfl, rfl⟩
  | [], _ :: _, _, _, h => by have := h.1; simp at this
  | _ :: _, [], _, _, h => by have := h.1; simp at this
  | m :: g, b :: e, a, ha, h => by
    obtain ⟨hb, h⟩ := inr_cons h
    have hm := Int.mul_nonneg ha (show 0 ≤ m by omega)
    obtain ⟨i1, i2⟩ := numA_back g e (a * m + b) (by omega) h
    have e1 : numA a (m :: g) (b :: e) = numA (a * m + b) g e := rfl
    have e2 : quoF (m :: g) (numA (a * m + b) g e) = (quoF g (numA (a * m + b) g e)).tdiv m := rfl
    have e3 : coords (m :: g) (numA (a * m + b) g e) = (quoF g (numA (a * m + b) g e)).tmod m :: coords g (numA (a * m + b) g e) := rfl
    rw [e1, e2, e3, i1, i2]
    have k1 : (a * m + b).tdiv m = a := by
      rw [Int.tdiv_eq_ediv_of_nonneg (by omega), Int.add_comm, Int.add_mul_ediv_right _ _ (by omega), Int.ediv_eq_zero_of_lt hb.1 hb.2, Int.zero_add]
    have k2 : (a * m + b).tmod m = b := by
      rw [Int.tmod_eq_emod_of_nonneg (by omega), Int.add_comm, Int.add_mul_emod_self_right, Int.emod_eq_of_lt hb.1 hb.2]
    rw [k1, k2]; exact ⟨rfl, rfl⟩
theorem coords_num {g e : List Int} (h : InR g e) : coords g (numF g e) = e := (numA_back g e 0 (by omega) h).2
theorem numA_coords : ∀ (g : List Int) (x : Int), 0 ≤ x → (∀ m ∈ g, 2 ≤ m) → numA (quoF g x) g (coords g x) = x
  | [], x, _, _ => rfl
  | m :: g, x, hx, hg => by
    have hq := quo_nn hx g (fun m hm => hg m (by simp [hm]))
    have e1 : numA (quoF (m :: g) x) (m :: g) (coords (m :: g) x) = numA ((quoF g x).tdiv m * m + (quoF g x).tmod m) g (coords g x) := rfl
    rw [e1, Int.mul_comm, Int.mul_tdiv_add_tmod]
    exact numA_coords g x hx (fun m hm => hg m (by simp [hm]))
theorem foldl_mul (g : List Int) : ∀ a : Int, g.foldl (fun n m => n * m) a = a * prodF g := by
  unfold prodF
  induction g with
  | nil => intro a; simp
  | cons m g ih => intro a; simp only [List.foldl_cons]; rw [ih (a * m), ih (1 * m), Int.one_mul, Int.mul_assoc]
theorem prodF_cons (m : Int) (g : List Int) : prodF (m :: g) = m * prodF g := by
  show g.foldl (fun n m => n * m) (1 * m) = _
  rw [foldl_mul, Int.one_mul]
theorem quo_mul : ∀ (g : List Int) (x : Int), 0 ≤ x → (∀ m ∈ g, 2 ≤ m) → 1 ≤ prodF g ∧ quoF g x * prodF g ≤ x
  | [], x, _, _ => by simp [quoF, prodF]
  | m :: g, x, hx, hg => by
    have hm := hg m (by simp)
    have hg' : ∀ m ∈ g, 2 ≤ m := fun m hm => hg m (by simp [hm])
    have hq := quo_nn hx g hg'
    obtain ⟨i1, i2⟩ := quo_mul g x hx hg'
    rw [prodF_cons]
    have h1 := Int.mul_le_mul_of_nonneg_right hm (show 0 ≤ prodF g by omega)
    refine ⟨by omega, ?_⟩
    have e1 : quoF (m :: g) x = (quoF g x).tdiv m := rfl
    rw [e1, ← Int.mul_assoc]
    have h2 : (quoF g x).tdiv m * m ≤ quoF g x := by
      rw [Int.tdiv_eq_ediv_of_nonneg hq]; exact Int.ediv_mul_le _ (by omega)
    exact Int.le_trans (Int.mul_le_mul_of_nonneg_right h2 (by omega)) i2
theorem num_coords {g : List Int} {x : Int} (hx : 0 ≤ x ∧ x < prodF g) (hg : ∀ m ∈ g, 2 ≤ m) : numF g (coords g x) = x := by
  have h1 := numA_coords g x hx.1 hg
  have h2 := quo_mul g x hx.1 hg
  have h3 := quo_nn hx.1 g hg
  have : quoF g x = 0 := by
    by_cases h : quoF g x = 0
    · exact h
    · have := Int.mul_le_mul_of_nonneg_right (show 1 ≤ quoF g x by omega) (show 0 ≤ prodF g by omega)
      omega
  rw [this] at h1
  exact h1

def posF (m a b c : Int) : Nat := if b = stepF m 1 a then (c * m + b).toNat else (c * m + (m - 1 - b)).toNat
def rkT : List Int → List Int → List Int → Int → Nat → Nat
  | m :: g, a :: e, b :: f, c, i => if a = b then rkT g e f c (i + 1) else i * 64 + posF m a b c
  | _, _, _, _, _ => 0
theorem rkT_set : ∀ (g e : List Int) (i j : Nat) (b c : Int), e.length = g.length → i < g.length → b ≠ e[i]! → rkT g e (e.set i b) c j = (j + i) * 64 + posF g[i]! e[i]! b c
  | [], _, _, _, _, _, _, hi, _ => by simp at hi
  | _ :: _, [], _, _, _, _, hl, _, _ => by simp at hl
  | m :: g, a :: e, 0, j, b, c, _, _, hb => by
    have hb : ¬ a = b := fun h => hb (by simp [h])
    simp [rkT, hb]
  | m :: g, a :: e, i + 1, j, b, c, hl, hi, hb => by
    have := rkT_set g e i (j + 1) b c (by simpa using hl) (by simpa using hi) (by simpa using hb)
    simp only [List.set_cons_succ, rkT, if_true, List.getElem!_cons_succ]
    rw [this]; congr 2; omega
def rkG (g : List Int) (u v c : Int) : Nat := rkT g (coords g u) (coords g v) c 0
/-- The rank of the next channel along a ring. -/
def bndF (m d a c : Int) : Nat := if d = 1 then (c * m + a + 1).toNat else (c * m + (m - a)).toNat

theorem inn_up {g : List Int} {i : Nat} {d t : Int} (hi : i < g.length) (hm : 2 ≤ g[i]! ∧ g[i]! ≤ 16) (hd : d = 1 ∨ d = -1) (hd2 : g[i]! = 2 → d = 1) (ht : 0 ≤ t ∧ t < g[i]!) :
    ∀ (k : Nat) (e : List Int) (c : Int) (p q : List Int) (B : Nat), Up (rkG g) p q B → p.getLast? = some (numF g e) → InR g e → B ≤ i * 64 + bndF g[i]! d e[i]! c → (c = 0 ∨ (c = 1 ∧ ((d = 1 ∧ e[i]! ≤ t) ∨ (d = -1 ∧ t ≤ e[i]!)))) → k = distF g[i]! d e[i]! t →
      Up (rkG g) (inn g i g[i]! d k e c p q).2.1 (inn g i g[i]! d k e c p q).2.2 (i * 64 + 64) ∧ (inn g i g[i]! d k e c p q).2.1.getLast? = some (numF g (inn g i g[i]! d k e c p q).1)
  | 0, e, c, p, q, B, hu, hl, hin, hB, hc, hk => by
    have ha := hin.2 i hi
    refine ⟨hu.le ?_, hl⟩
    have : bndF g[i]! d e[i]! c ≤ 32 := by
      unfold bndF
      rcases hc with rfl | ⟨rfl, _⟩ <;> split <;> omega
    omega
  | k + 1, e, c, p, q, B, hu, hl, hin, hB, hc, hk => by
    have ha := hin.2 i hi
    have hne : e[i]! ≠ t := fun h => by
      have := (dist_zero (d := d) ha.1 ha.2 ht.1 ht.2).2 h
      omega
    have hs := dist_step hm.1 hd ha.1 ha.2 ht.1 ht.2 hne
    have hw := wrap_iff hm.1 hd ha.1 ha.2
    have hset := hin.set hi hs.2.1 hs.2.2
    have hget : (e.set i (stepF g[i]! d e[i]!))[i]! = stepF g[i]! d e[i]! := by
      rw [getElem!_pos _ i (by simp [hin.1, hi])]; simp
    have hstep : stepF g[i]! d e[i]! ≠ e[i]! := by
      rcases hd with rfl | rfl
      · rw [step_up hm.1 ha.1 ha.2]; split <;> omega
      · rw [step_dn hm.1 ha.1 ha.2]; split <;> omega
    obtain ⟨c', hc'⟩ : ∃ c', (if stepF g[i]! d e[i]! - e[i]! ≠ d then 1 else c) = c' := ⟨_, rfl⟩
    have hrk : rkG g (numF g e) (numF g (e.set i (stepF g[i]! d e[i]!))) c' = i * 64 + posF g[i]! e[i]! (stepF g[i]! d e[i]!) c' := by
      unfold rkG
      rw [coords_num hin, coords_num hset, rkT_set g e i 0 _ c' hin.1 hi hstep, Nat.zero_add]
    -- the rank is the bound, and the new bound is one more
    have key : posF g[i]! e[i]! (stepF g[i]! d e[i]!) c' = bndF g[i]! d e[i]! c ∧ bndF g[i]! d (stepF g[i]! d e[i]!) c' = bndF g[i]! d e[i]! c + 1 ∧ (c' = 0 ∨ (c' = 1 ∧ ((d = 1 ∧ stepF g[i]! d e[i]! ≤ t) ∨ (d = -1 ∧ t ≤ stepF g[i]! d e[i]!)))) := by
      unfold posF bndF
      rcases hd with rfl | rfl
      · rw [if_pos rfl, if_pos rfl, if_pos rfl]
        by_cases hwr : e[i]! = g[i]! - 1
        · have hc1 : c' = 1 := by rw [← hc', if_pos (hw.2 (.inl ⟨rfl, hwr⟩))]
          have hs1 : stepF g[i]! 1 e[i]! = 0 := by rw [step_up hm.1 ha.1 ha.2, if_pos hwr]
          have hc0 : c = 0 := by rcases hc with h | ⟨_, h⟩; exact h; omega
          rw [hs1, hc1, hc0]
          omega
        · have hc1 : c' = c := by rw [← hc', if_neg (fun h => by have := hw.1 h; omega)]
          have hs1 : stepF g[i]! 1 e[i]! = e[i]! + 1 := by rw [step_up hm.1 ha.1 ha.2, if_neg hwr]
          rw [hs1, hc1]
          rcases hc with h | ⟨h, h'⟩
          · rw [h]; omega
          · rw [h]; omega
      · have hm3 : 3 ≤ g[i]! := by
          by_cases h : g[i]! = 2
          · have := hd2 h; omega
          · omega
        have hnu : ¬ stepF g[i]! (-1) e[i]! = stepF g[i]! 1 e[i]! := by
          rw [step_up hm.1 ha.1 ha.2, step_dn hm.1 ha.1 ha.2]; split <;> split <;> omega
        rw [if_neg hnu, if_neg (by decide), if_neg (by decide)]
        by_cases hwr : e[i]! = 0
        · have hc1 : c' = 1 := by rw [← hc', if_pos (hw.2 (.inr ⟨rfl, hwr⟩))]
          have hs1 : stepF g[i]! (-1) e[i]! = g[i]! - 1 := by rw [step_dn hm.1 ha.1 ha.2, if_pos hwr]
          have hc0 : c = 0 := by rcases hc with h | ⟨_, h⟩; exact h; omega
          rw [hs1, hc1, hc0]
          omega
        · have hc1 : c' = c := by rw [← hc', if_neg (fun h => by have := hw.1 h; omega)]
          have hs1 : stepF g[i]! (-1) e[i]! = e[i]! - 1 := by rw [step_dn hm.1 ha.1 ha.2, if_neg hwr]
          rw [hs1, hc1]
          rcases hc with h | ⟨h, h'⟩
          · rw [h]; omega
          · rw [h]; omega
    obtain ⟨key1, key2, key3⟩ := key
    simp only [inn]
    rw [hc']
    refine inn_up hi hm hd hd2 ht k (e.set i (stepF g[i]! d e[i]!)) c' _ _ (i * 64 + bndF g[i]! d e[i]! c + 1) (.snoc hu hl (by rw [hrk, key1]; exact hB) (by rw [hrk, key1]; omega)) (by simp) hset (by rw [hget, key2]; omega) (by rw [hget]; exact key3) (by rw [hget]; omega)
theorem outr_up {g ts : List Int} (hg : ∀ i, i < g.length → 2 ≤ g[i]! ∧ g[i]! ≤ 16) (ht : InR g ts) : ∀ (k i : Nat) (e p q : List Int), i + k = g.length → InR g e → p.getLast? = some (numF g e) → Up (rkG g) p q (i * 64) →
    ∃ B, Up (rkG g) (outr g ts k i e p q).1 (outr g ts k i e p q).2 B
  | 0, _, _, _, _, _, _, _, h => ⟨_, h⟩
  | k + 1, i, e, p, q, h, hin, hl, hu => by
    have hi : i < g.length := by omega
    have hd := dirF_two g[i]! e[i]! ts[i]!
    have ha := hin.2 i hi
    have htt := ht.2 i hi
    have hd2 : g[i]! = 2 → dirF g[i]! e[i]! ts[i]! = 1 := fun h => by
      have h1 : (ts[i]! + -e[i]! + g[i]!).tmod g[i]! < g[i]! := Int.tmod_lt_of_pos _ (by omega)
      unfold dirF
      rw [if_neg (by omega)]
    have h1 := inn_up hi (hg i hi) hd hd2 htt (distF g[i]! (dirF g[i]! e[i]! ts[i]!) e[i]! ts[i]!) e 0 p q (i * 64) hu hl hin (by omega) (.inl rfl) rfl
    have h2 := inn_in hi (hg i hi).1 hd (distF g[i]! (dirF g[i]! e[i]! ts[i]!) e[i]! ts[i]!) e 0 p q hin
    simp only [outr]
    exact outr_up hg ht k (i + 1) _ _ _ (by omega) h2 h1.2 (h1.1.le (by omega))
theorem torF_up {g : List Int} (hok : (Sh.grid g).ok) {x y : Int} (hx : 0 ≤ x ∧ x < prodF g) (hy : 0 ≤ y) : ∃ B, Up (rkG g) (torF g x y).1 (torF g x y).2 B := by
  obtain ⟨h1, h2, h3, h4⟩ := hok
  have hg : ∀ i, i < g.length → 2 ≤ g[i]! ∧ g[i]! ≤ 16 := fun i hi => by rw [getElem!_pos g i hi]; exact h3 _ (List.getElem_mem hi)
  have hg2 : ∀ m ∈ g, 2 ≤ m := fun m h => (h3 m h).1
  exact outr_up hg (coords_in hy g hg2) g.length 0 (coords g x) [x] [] (by omega) (coords_in hx.1 g hg2) (by rw [num_coords hx hg2]; rfl) (.one x _)
end Go.Af.Try
namespace Go.Af.Try
open Go

def rkK (W : Int) (u v _ : Int) : Nat := if u.tdiv W < v.tdiv W then (u.tdiv W).toNat else (20 - v.tdiv W).toNat
theorem lvl_of {W w : Int} {l : Int} (hl : 0 ≤ l) (h0 : 0 ≤ w) (h1 : w < W) : (l * W + w).tdiv W = l := by
  have hm := Int.mul_nonneg hl (show 0 ≤ W by omega)
  rw [Int.tdiv_eq_ediv_of_nonneg (by omega), Int.add_comm, Int.add_mul_ediv_right _ _ (by omega), Int.ediv_eq_zero_of_lt h0 h1, Int.zero_add]
theorem zeros_snoc {p : List Int} (v : Int) (hp : 1 ≤ p.length) : List.replicate (p.length - 1) (0 : Int) ++ [0] = List.replicate ((p ++ [v]).length - 1) 0 := by
  rw [← List.replicate_succ']; congr 1; simp; omega

theorem upF_up {k y : Int} {N : Nat} (hk : 2 ≤ k ∧ k ≤ 8) (hN : N ≤ 3) (hy : 0 ≤ y ∧ y < k ^ N) : ∀ (f l : Nat) (w : Int) (p : List Int), l + f = N → (0 ≤ w ∧ w < k ^ N) → p.getLast? = some ((l : Int) * k ^ N + w) → Up (rkK (k ^ N)) p (List.replicate (p.length - 1) 0) l →
    ((upF k y (k ^ N) f l w p).1 ≤ N ∧ (0 ≤ (upF k y (k ^ N) f l w p).2.1 ∧ (upF k y (k ^ N) f l w p).2.1 < k ^ N)) ∧ (upF k y (k ^ N) f l w p).2.2.getLast? = some (((upF k y (k ^ N) f l w p).1 : Int) * k ^ N + (upF k y (k ^ N) f l w p).2.1) ∧
      Up (rkK (k ^ N)) (upF k y (k ^ N) f l w p).2.2 (List.replicate ((upF k y (k ^ N) f l w p).2.2.length - 1) 0) 10
  | 0, l, w, p, h, hw, hl, hu => ⟨⟨(by omega : l ≤ N), hw⟩, hl, hu.le (by omega)⟩
  | f + 1, l, w, p, h, hw, hl, hu => by
    simp only [upF]
    split
    · exact ⟨⟨by omega, hw⟩, hl, hu.le (by omega)⟩
    · have hli := (lik_in (k := k) hk.1 (w := w) (o := y) (i := l) (N := N) (by omega) hw.1 hw.2 hy.1).1
      have hp := (last_get hl).1
      have hr : rkK (k ^ N) ((l : Int) * k ^ N + w) (((l + 1 : Nat) : Int) * k ^ N + likF k w l y) 0 = l := by
        unfold rkK
        rw [lvl_of (by omega) hw.1 hw.2, lvl_of (by omega) hli.1 hli.2, if_pos (by omega)]; omega
      have h2 : Up (rkK (k ^ N)) (p ++ [((l + 1 : Nat) : Int) * k ^ N + likF k w l y]) (List.replicate (p.length - 1) 0 ++ [0]) (l + 1) := .snoc hu hl (by rw [hr]; omega) (by rw [hr]; omega)
      rw [zeros_snoc _ (by omega)] at h2
      exact upF_up hk hN hy f (l + 1) _ _ (by omega) hli (by simp) h2
theorem dnF_up {k y : Int} {N : Nat} (hk : 2 ≤ k ∧ k ≤ 8) (hN : N ≤ 3) (hy : 0 ≤ y ∧ y < k ^ N) : ∀ (l : Nat) (w : Int) (p : List Int) (B : Nat), l ≤ N → (0 ≤ w ∧ w < k ^ N) → p.getLast? = some ((l : Int) * k ^ N + w) → B + l ≤ 21 → Up (rkK (k ^ N)) p (List.replicate (p.length - 1) 0) B →
    ∃ B', Up (rkK (k ^ N)) (dnF k y (k ^ N) l w p) (List.replicate ((dnF k y (k ^ N) l w p).length - 1) 0) B'
  | 0, w, p, B, _, _, _, _, hu => ⟨B, hu⟩
  | l + 1, w, p, B, hlN, hw, hl, hB, hu => by
    simp only [dnF]
    have hli := (lik_in (k := k) hk.1 (w := w) (o := y) (i := l) (N := N) (by omega) hw.1 hw.2 hy.1).1
    have hp := (last_get hl).1
    have hr : rkK (k ^ N) (((l + 1 : Nat) : Int) * k ^ N + w) ((l : Int) * k ^ N + likF k w l y) 0 = 20 - l := by
      unfold rkK
      rw [lvl_of (by omega) hw.1 hw.2, lvl_of (by omega) hli.1 hli.2, if_neg (by omega)]; omega
    have h2 : Up (rkK (k ^ N)) (p ++ [(l : Int) * k ^ N + likF k w l y]) (List.replicate (p.length - 1) 0 ++ [0]) (21 - l) := .snoc hu hl (by rw [hr]; omega) (by rw [hr]; omega)
    rw [zeros_snoc _ (by omega)] at h2
    exact dnF_up hk hN hy l _ _ (21 - l) (by omega) hli (by simp) (by omega) h2
theorem treF_up {k n x y : Int} (hk : 2 ≤ k ∧ k ≤ 8) (hn : 1 ≤ n ∧ n ≤ 4) (hx : 0 ≤ x ∧ x < n * k ^ (n - 1).toNat) (hy : 0 ≤ y ∧ y < k ^ (n - 1).toNat) :
    ∃ B, Up (rkK (k ^ (n - 1).toNat)) (treF k (n - 1).toNat x y) (List.replicate ((treF k (n - 1).toNat x y).length - 1) 0) B := by
  obtain ⟨N, hN⟩ : ∃ N, (n - 1).toNat = N := ⟨_, rfl⟩
  rw [hN] at hx hy ⊢
  have hW := powpos (k := k) (by omega) N
  have h1 : 0 ≤ x.tdiv (k ^ N) := Int.tdiv_nonneg hx.1 (by omega)
  have h2 : x.tdiv (k ^ N) < n := by
    rw [Int.tdiv_eq_ediv_of_nonneg hx.1]
    exact Int.ediv_lt_of_lt_mul (by omega) hx.2
  have hw0 : 0 ≤ x.tmod (k ^ N) ∧ x.tmod (k ^ N) < k ^ N := ⟨Int.tmod_nonneg _ hx.1, Int.tmod_lt_of_pos _ (by omega)⟩
  have hxe : ((x.tdiv (k ^ N)).toNat : Int) * k ^ N + x.tmod (k ^ N) = x := by
    rw [Int.toNat_of_nonneg h1, Int.mul_comm, Int.mul_tdiv_add_tmod]
  obtain ⟨⟨r1, r2⟩, r3, r4⟩ := upF_up (k := k) (y := y) hk (by omega) hy (N - (x.tdiv (k ^ N)).toNat) (x.tdiv (k ^ N)).toNat (x.tmod (k ^ N)) [x] (by omega) hw0 (by rw [hxe]; rfl) (.one x _)
  unfold treF
  exact dnF_up hk (by omega) hy _ _ _ 10 r1 r2 r3 (by omega) r4

def rkY (a : Int) (u v c : Int) : Nat := if u.tdiv a = v.tdiv a then (if c = 0 then 0 else 2) else 1
theorem flyF_up {a h x g : Int} (ha : 1 ≤ a) (hh : 1 ≤ h) (hx : 0 ≤ x ∧ x < a * (a * h + 1)) (hg : 0 ≤ g ∧ g < a * (a * h + 1)) : ∃ B, Up (rkY a) (flyF a h x g).1 (flyF a h x g).2 B := by
  have hi := fly_grp (h := h) ha hx
  have hj := fly_grp (h := h) ha hg
  unfold flyF flyL
  obtain ⟨i, hi'⟩ : ∃ i, x.tdiv a = i := ⟨_, rfl⟩
  obtain ⟨j, hj'⟩ : ∃ i, g.tdiv a = i := ⟨_, rfl⟩
  rw [hi', hj']
  rw [hi'] at hi
  rw [hj'] at hj
  by_cases hc : i = j
  · rw [if_pos hc]
    by_cases hxg : x = g
    · subst hxg
      have e : ddF [x, x] = [x] := by simp [ddF]
      rw [e]; exact ⟨0, .one x 0⟩
    · have e : ddF [x, g] = [x, g] := by simp [ddF, hxg]
      rw [e]
      have e2 : clsF a i [x, g].dropLast = [0] := by simp [clsF, hi']
      rw [e2]
      exact ⟨1, .snoc (p := [x]) (u := x) (q := []) (B := 0) (.one x 0) rfl (by omega) (by unfold rkY; rw [if_pos (by rw [hi', hj', hc])]; decide)⟩
  · rw [if_neg hc]
    obtain ⟨d, hd⟩ : ∃ d, gapF a h i j = d := ⟨_, rfl⟩
    have hgap := gap_in hi.1 hi.2 hj.1 hj.2 hc
    rw [hd] at hgap ⊢
    obtain ⟨e, he⟩ : ∃ e, a * h + 1 - 2 - d = e := ⟨_, rfl⟩
    rw [he]
    have hu := por_grp (a := a) (h := h) (g := i) (d := d) ha hh hi.1 (by omega)
    have hw := por_grp (a := a) (h := h) (g := j) (d := e) ha hh hj.1 (by omega)
    have huw : porF a h i d ≠ porF a h j e := fun eq => hc (by rw [← hu, eq, hw])
    generalize porF a h i d = u at hu huw ⊢
    generalize porF a h j e = w at hw huw ⊢
    have r0 : ∀ z, z.tdiv a = i → rkY a z u 0 = 0 := fun z hz => by unfold rkY; rw [if_pos (by rw [hz, hu])]; rfl
    have r1 : ∀ c, rkY a u w c = 1 := fun c => by unfold rkY; rw [if_neg (by rw [hu, hw]; exact hc)]
    have r2 : rkY a w g 1 = 2 := by unfold rkY; rw [if_pos (by rw [hw, hj'])]; rfl
    by_cases h1 : x = u <;> by_cases h2 : w = g
    · subst h1; subst h2
      have e1 : ddF [x, x, w, w] = [x, w] := by simp [ddF, huw]
      have e2 : clsF a i [x, w].dropLast = [0] := by simp [clsF, hi']
      rw [e1, e2]
      exact ⟨2, .snoc (p := [x]) (u := x) (q := []) (B := 0) (.one x 0) rfl (by omega) (by rw [r1]; omega)⟩
    · subst h1
      have e1 : ddF [x, x, w, g] = [x, w, g] := by simp [ddF, huw, h2]
      have e2 : clsF a i [x, w, g].dropLast = [0, 1] := by simp [clsF, hi', hw, Ne.symm hc]
      rw [e1, e2]
      exact ⟨3, .snoc (p := [x, w]) (u := w) (q := [0]) (B := 2) (.snoc (p := [x]) (u := x) (q := []) (B := 0) (.one x 0) rfl (by omega) (by rw [r1]; omega)) rfl (by rw [r2]; omega) (by rw [r2]; omega)⟩
    · subst h2
      have e1 : ddF [x, u, w, w] = [x, u, w] := by simp [ddF, huw, h1]
      have e2 : clsF a i [x, u, w].dropLast = [0, 0] := by simp [clsF, hi', hu]
      rw [e1, e2]
      exact ⟨2, .snoc (p := [x, u]) (u := u) (q := [0]) (B := 1) (.snoc (p := [x]) (u := x) (q := []) (B := 0) (.one x 0) rfl (by omega) (by rw [r0 x hi']; omega)) rfl (by rw [r1]; omega) (by rw [r1]; omega)⟩
    · have e1 : ddF [x, u, w, g] = [x, u, w, g] := by simp [ddF, huw, h1, h2]
      have e2 : clsF a i [x, u, w, g].dropLast = [0, 0, 1] := by simp [clsF, hi', hu, hw, Ne.symm hc]
      rw [e1, e2]
      exact ⟨3, .snoc (p := [x, u, w]) (u := w) (q := [0, 0]) (B := 2) (.snoc (p := [x, u]) (u := u) (q := [0]) (B := 1) (.snoc (p := [x]) (u := x) (q := []) (B := 0) (.one x 0) rfl (by omega) (by rw [r0 x hi']; omega)) rfl (by rw [r1]; omega) (by rw [r1]; omega)) rfl (by rw [r2]; omega) (by rw [r2]; omega)⟩

/-- The rank of a channel with a class. -/
def rkS (s : Sh) : Int → Int → Int → Nat :=
  match s with
  | .grid g => rkG g
  | .fat k n => rkK (k ^ (n - 1).toNat)
  | .fly a _ => rkY a
theorem route_up {s : Sh} (hok : s.ok) {x y : Int} (hx : 0 ≤ x ∧ x < s.sw) (hy : 0 ≤ y ∧ y < s.hm) : ∃ B, Up (rkS s) (routeF s x y).1 (routeF s x y).2 B := by
  cases s with
  | grid g => exact torF_up hok hx hy.1
  | fat k n => exact treF_up hok.1 hok.2.1 hx hy
  | fly a h => exact flyF_up hok.1.1 hok.2.1.1 hx hy
end Go.Af.Try
namespace Go.Af.Try
open Go Go.Proofs
attribute [local irreducible] awp ACall ACallX AYield AInvoke newSlice isCells rdCells wrCells aAppend

end Go.Af.Try
namespace Go.Af.Try
open Go Go.Proofs
attribute [local irreducible] awp ACall ACallX AYield AInvoke

theorem l42 (xs : List Int) (z : Int) (hl : xs.length ≤ 1000000000) : ACall Try.prog 42 [sv 0 xs.length, .int .i64 z] [ro xs] (fun v H => v = .bool (decide (z ∈ xs)) ∧ H = [ro xs]) := by
  refine acall_vcg tok Try.call42 Try.func42 rfl Try.ntmps42 rfl (by simp) ?_
  refine vcg_loopR tok (fun i : Nat => i ≤ xs.length ∧ z ∉ xs.take i) (fun i => [(0, sv 0 xs.length), (1, .int .i64 z), (5, .int .i64 i)]) (fun _ => [ro xs]) (fun i => xs.length - i) 0 ⟨Nat.zero_le _, by simp⟩ ?_ ?_
  · exact Or.inl ⟨⟨rfl, rfl, rfl, trivial⟩, rfl⟩
  rintro i ⟨hi, hn⟩
  refine And.intro (fun hc => ?_) (fun hc => ?_)
  · have hlt : i < xs.length := by simpa using hc
    refine ⟨i, rfl, hlt, ?_⟩
    refine Ld_ints i xs[i]! (by simp) (by simp [hlt]) ?_
    refine And.intro (fun he => ?_) (fun he => ?_)
    · have he : xs[i]! = z := by simpa using he
      have hm : z ∈ xs := by rw [← he, getElem!_pos xs i hlt]; exact List.getElem_mem _
      exact ⟨by rw [decide_eq_true hm]; rfl, rfl⟩
    · have he : ¬ xs[i]! = z := by simpa using he
      refine Or.inl ⟨((i + 1 : Nat) : Int), by simp, by unfold I64; omega, ?_⟩
      refine ⟨i + 1, ⟨hlt, ?_⟩, by omega, Or.inl ⟨⟨rfl, rfl, rfl, trivial⟩, rfl⟩⟩
      rw [List.take_succ_eq_append_getElem hlt, List.mem_append]
      rintro (h | h)
      · exact hn h
      · simp only [List.mem_singleton] at h
        exact he (by rw [h, getElem!_pos xs i hlt])
  · have hge : ¬ i < xs.length := by simpa using hc
    rw [List.take_of_length_le (by omega)] at hn
    exact ⟨by rw [decide_eq_false hn]; rfl, rfl⟩
theorem c42 {H : List Blk} {R : Value → List Blk → Prop} {v : Value} {xs : List Int} {z : Int} (h1 : Rd H v xs) (hl : xs.length ≤ 1000000000) (h : R (.bool (decide (z ∈ xs))) H) : ACallX Try.prog 42 [v, .int .i64 z] H R := by
  obtain ⟨j1, s1, b1, r1⟩ := h1.ren
  exact acallx_s (l42 xs z hl) [(j1, s1)] rfl (.cons (r1 _ 0 rfl) (.cons (.int _ _) .nil)) ⟨b1 _, trivial⟩ rfl h

section
attribute [local irreducible] newSlice isCells rdCells wrCells aAppend
end
end Go.Af.Try
