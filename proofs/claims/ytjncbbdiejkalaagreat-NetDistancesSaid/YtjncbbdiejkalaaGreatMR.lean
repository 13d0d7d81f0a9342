/-
  Links go both ways. No program is in sight.
  A dragonfly's routes: each hop is a link; at most three, and at most one more than the shortest. No program is in sight.
  How far two coordinates lie apart on a ring: one link changes it by one at most. No program is in sight.
  A grid's route: each hop is a link, and it is as long as the places lie apart. No program is in sight.
  A fat tree's words, by their digits. No program is in sight.
  A fat tree's links, by levels and words. No program is in sight.
  Up a fat tree. No program is in sight.
  A fat tree's route is a way; its length changes by one along a link. No program is in sight.
  Routes against the shortest ways. No program is in sight.
  A route is a way, and how long it is against the shortest one. No program is in sight.
  The law NetPaths, as a call.
-/
import Derived.Test.YtjncbbdiejkalaaGreatMO
import Derived.Test.YtjncbbdiejkalaaGreatMZ
import Derived.Test.YtjncbbdiejkalaaGreatMN
set_option linter.all false
namespace Go.Af.Tryz
open Go

theorem lnS_comm (g a b : List Int) : ∀ i, lnS g a b i = lnS g b a i
  | 0 => rfl
  | i + 1 => by
    have ih := lnS_comm g a b i
    simp only [lnS]
    by_cases h : a[i]! = b[i]!
    · rw [if_pos h, if_pos h.symm, ih]
    · rw [if_neg h, if_neg (fun e => h e.symm), ih, Int.max_comm (a[i]! - b[i]!) (b[i]! - a[i]!)]
theorem gap_comm {a h gx gy : Int} (h0 : 0 ≤ gx) (h1 : gx < a * h + 1) (h2 : 0 ≤ gy) (h3 : gy < a * h + 1) (hne : gx ≠ gy) : gapF a h gy gx = a * h + 1 - 2 - gapF a h gx gy := by
  unfold gapF
  generalize a * h = m at h1 h3 ⊢
  rw [Int.tmod_eq_emod_of_nonneg (by omega), Int.tmod_eq_emod_of_nonneg (by omega)]
  by_cases hlt : gx < gy
  · rw [Int.emod_eq_of_lt (a := gx - gy - 1 + (m + 1)) (by omega) (by omega), Int.add_emod_right, Int.emod_eq_of_lt (by omega) (by omega)]; omega
  · rw [Int.emod_eq_of_lt (a := gy - gx - 1 + (m + 1)) (by omega) (by omega), Int.add_emod_right, Int.emod_eq_of_lt (by omega) (by omega)]; omega
theorem lnk_sym {s : Sh} (hok : s.ok) {x y : Int} (hx : 0 ≤ x ∧ x < s.sw) (hy : 0 ≤ y ∧ y < s.sw) : s.lnk x y = s.lnk y x := by
  simp only [Sh.lnk]
  by_cases e : x = y
  · rw [if_pos e, if_pos e.symm]
  · rw [if_neg e, if_neg (fun h => e h.symm)]
    cases s with
    | grid g => simp only [lnG, lnS_comm g (coords g x) (coords g y)]
    | fat k n => simp only [lnFa, Int.max_comm x y, Int.min_comm x y]
    | fly a h =>
      obtain ⟨ha, hh, _⟩ := hok
      have h1 := fly_grp (h := h) ha.1 hx
      have h2 := fly_grp (h := h) ha.1 hy
      simp only [lnFl]
      by_cases eg : x.tdiv a = y.tdiv a
      · rw [decide_eq_true eg, decide_eq_true eg.symm]; rfl
      · have eg' : ¬ y.tdiv a = x.tdiv a := fun e => eg e.symm
        rw [show decide (x.tdiv a = y.tdiv a) = false from decide_eq_false eg, show decide (y.tdiv a = x.tdiv a) = false from decide_eq_false eg', Bool.false_or, Bool.false_or, gap_comm h1.1 h1.2 h2.1 h2.2 eg, Bool.and_comm,
          show a * h + 1 - 2 - (a * h + 1 - 2 - gapF a h (x.tdiv a) (y.tdiv a)) = gapF a h (x.tdiv a) (y.tdiv a) by omega]
end Go.Af.Tryz
namespace Go.Af.Tryz
open Go

theorem ddF2 (x y : Int) : ddF [x, y] = if x = y then [x] else [x, y] := by
  simp only [ddF, List.foldl, List.getLast?_nil, List.nil_append, List.getLast?_singleton, Option.some.injEq, reduceCtorEq, if_false]
  by_cases h : x = y
  · rw [if_pos h, if_pos h]
  · rw [if_neg h, if_neg h]; rfl
theorem ddF4 {x p q y : Int} (h : p ≠ q) : ddF [x, p, q, y] = (if x = p then [x] else [x, p]) ++ (if q = y then [q] else [q, y]) := by
  by_cases h1 : x = p
  · by_cases h2 : q = y
    · simp [ddF, h1, h2, h]; subst h2; simp [h]
    · simp [ddF, h1, h2, h]
  · by_cases h2 : q = y
    · simp [ddF, h1, h2, h]; subst h2; simp [h]
    · simp [ddF, h1, h2, h]
theorem way1 {s : Sh} {n : Nat} {x : Int} (hx : 0 ≤ x ∧ x < n) : WayOk s n [x] x x where
  pos := by simp
  hd := rfl
  last := rfl
  inn := fun i hi => by
    have : i = 0 := by simpa using hi
    subst this; exact hx
  lnk := fun i hi => by simp at hi
theorem way_cons {s : Sh} {n : Nat} {a b y : Int} {l : List Int} (h : WayOk s n (b :: l) b y) (ha : 0 ≤ a ∧ a < n) (hl : s.lnk a b = true) : WayOk s n (a :: b :: l) a y where
  pos := by simp
  hd := rfl
  last := by
    have := h.last
    simp only [List.length_cons, Nat.add_sub_cancel] at this ⊢
    rw [List.getElem!_cons_succ]; exact this
  inn := fun i hi => by
    cases i with
    | zero => exact ha
    | succ i => rw [List.getElem!_cons_succ]; exact h.inn i (by simpa using hi)
  lnk := fun i hi => by
    cases i with
    | zero => exact hl
    | succ i => rw [List.getElem!_cons_succ, List.getElem!_cons_succ]; exact h.lnk i (by simpa using hi)
theorem por_rng {a h g d : Int} (ha : 1 ≤ a) (hh : 1 ≤ h) (hg : 0 ≤ g ∧ g < a * h + 1) (hd : 0 ≤ d ∧ d < a * h) : 0 ≤ porF a h g d ∧ porF a h g d < a * (a * h + 1) := by
  unfold porF
  have h1 : 0 ≤ d.tdiv h := Int.tdiv_nonneg hd.1 (by omega)
  have h2 : d.tdiv h < a := by
    rw [Int.tdiv_eq_ediv_of_nonneg hd.1]
    exact Int.ediv_lt_of_lt_mul (by omega) hd.2
  have h3 : 0 ≤ g * a := Int.mul_nonneg hg.1 (by omega)
  have h4 : g * a ≤ (a * h) * a := Int.mul_le_mul_of_nonneg_right (by omega) (by omega)
  have h5 : a * (a * h + 1) = (a * h) * a + a := by rw [Int.mul_add, Int.mul_one, Int.mul_comm a (a * h)]
  omega
theorem fly_lnk_in {a h x y : Int} (hne : x ≠ y) (hg : x.tdiv a = y.tdiv a) : (Sh.fly a h).lnk x y = true := by
  simp only [Sh.lnk]; rw [if_neg hne]; simp only [lnFl]; rw [decide_eq_true hg]; rfl
theorem fly_way {a h x y : Int} (hok : (Sh.fly a h).ok) {n : Nat} (hn : (Sh.fly a h).sw = n) (hx : 0 ≤ x ∧ x < n) (hy : 0 ≤ y ∧ y < n) :
    WayOk (.fly a h) n (flyF a h x y).1 x y ∧ (flyF a h x y).1.length ≤ 4 ∧ (flyF a h x y).2.length + 1 = (flyF a h x y).1.length ∧ (x = y → (flyF a h x y).1.length = 1) ∧ ((Sh.fly a h).lnk x y = true → (flyF a h x y).1.length ≤ 2) := by
  obtain ⟨ha, hh, _⟩ := hok
  have hn : a * (a * h + 1) = n := hn
  have h1 := fly_grp (h := h) ha.1 (x := x) (by omega)
  have h2 := fly_grp (h := h) ha.1 (x := y) (by omega)
  have hcl : ∀ l : List Int, 0 < l.length → (clsF a (x.tdiv a) l.dropLast).length + 1 = l.length := fun l hl => by simp [clsF]; omega
  have hc : (flyF a h x y).2.length + 1 = (flyF a h x y).1.length := by
    have h3 := flyL_len a h x y
    exact hcl _ (ddF_pos (fun e => by rw [e] at h3; simp at h3))
  by_cases hg : x.tdiv a = y.tdiv a
  · have e : (flyF a h x y).1 = if x = y then [x] else [x, y] := by
      show ddF (flyL a h x y) = _
      rw [show flyL a h x y = [x, y] from if_pos hg, ddF2]
    rw [e] at hc ⊢
    by_cases hxy : x = y
    · rw [if_pos hxy] at hc ⊢
      subst hxy
      exact ⟨way1 hx, by simp, hc, fun _ => rfl, fun _ => by simp⟩
    · rw [if_neg hxy] at hc ⊢
      exact ⟨way_cons (way1 hy) hx (fly_lnk_in hxy hg), by simp, hc, fun h => absurd h hxy, fun _ => by simp⟩
  · have hgap := gap_in h1.1 h1.2 h2.1 h2.2 hg
    obtain ⟨d, hd⟩ : ∃ d, gapF a h (x.tdiv a) (y.tdiv a) = d := ⟨_, rfl⟩
    rw [hd] at hgap
    have hu := por_grp (a := a) (h := h) (g := x.tdiv a) (d := d) ha.1 hh.1 h1.1 (by omega)
    have hw := por_grp (a := a) (h := h) (g := y.tdiv a) (d := a * h + 1 - 2 - d) ha.1 hh.1 h2.1 (by omega)
    have ru := por_rng (a := a) (h := h) (g := x.tdiv a) (d := d) ha.1 hh.1 h1 (by omega)
    have rw' := por_rng (a := a) (h := h) (g := y.tdiv a) (d := a * h + 1 - 2 - d) ha.1 hh.1 h2 (by omega)
    obtain ⟨p, hp⟩ : ∃ p, porF a h (x.tdiv a) d = p := ⟨_, rfl⟩
    obtain ⟨q, hq⟩ : ∃ q, porF a h (y.tdiv a) (a * h + 1 - 2 - d) = q := ⟨_, rfl⟩
    rw [hp] at hu ru
    rw [hq] at hw rw'
    have hpq : p ≠ q := fun e => hg (by rw [← hu, ← hw, e])
    have hxy : x ≠ y := fun e => hg (by rw [e])
    have e : (flyF a h x y).1 = (if x = p then [x] else [x, p]) ++ (if q = y then [q] else [q, y]) := by
      show ddF (flyL a h x y) = _
      rw [show flyL a h x y = [x, p, q, y] by unfold flyL; rw [if_neg hg, hd, hp, hq], ddF4 hpq]
    have lpq : (Sh.fly a h).lnk p q = true := by
      simp only [Sh.lnk]; rw [if_neg hpq]; simp only [lnFl]
      rw [hu, hw, hd, hp, hq]; simp
    have lxy : (Sh.fly a h).lnk x y = true → x = p ∧ q = y := fun hl => by
      simp only [Sh.lnk] at hl; rw [if_neg hxy] at hl; simp only [lnFl] at hl
      rw [hd, hp, hq, show decide (x.tdiv a = y.tdiv a) = false from decide_eq_false hg] at hl
      simp at hl
      exact ⟨hl.1.symm, hl.2⟩
    have tl : WayOk (.fly a h) n (if q = y then [q] else [q, y]) q y := by
      by_cases hqy : q = y
      · rw [if_pos hqy]; subst hqy; exact way1 hy
      · rw [if_neg hqy]; exact way_cons (way1 hy) (by omega) (fly_lnk_in hqy hw)
    obtain ⟨l, hl⟩ : ∃ l, (if q = y then [q] else [q, y]) = q :: l := by by_cases hqy : q = y <;> simp [hqy]
    have hll : l.length ≤ 1 ∧ (q = y → l = []) := by
      by_cases hqy : q = y
      · rw [if_pos hqy] at hl; simp at hl; subst hl; simp
      · rw [if_neg hqy] at hl; simp at hl; exact ⟨by simp [← hl], fun h => absurd h hqy⟩
    rw [hl] at tl e
    rw [e] at hc ⊢
    by_cases hxp : x = p
    · rw [if_pos hxp] at hc ⊢
      refine ⟨way_cons tl hx (by rw [hxp]; exact lpq), by simp; omega, hc, fun h => absurd h hxy, fun h => ?_⟩
      rw [hll.2 (lxy h).2]; simp
    · rw [if_neg hxp] at hc ⊢
      refine ⟨way_cons (way_cons tl (by omega) lpq) hx (fly_lnk_in hxp hu.symm), by simp; omega, hc, fun h => absurd h hxy, fun h => absurd (lxy h).1 hxp⟩
end Go.Af.Tryz
namespace Go.Af.Tryz
open Go

/-- The steps along one side. -/
def mdF (m a t : Int) : Nat := distF m (dirF m a t) a t
/-- How far two places of a grid lie apart. -/
def gdF (g c t : List Int) : Nat := sumN g.length (fun i => mdF g[i]! c[i]! t[i]!)
end Go.Af.Tryz
namespace Go.Af.Tryz
open Go

theorem way_snoc {s : Sh} {n : Nat} {p : List Int} {x y z : Int} (h : WayOk s n p x y) (hz : 0 ≤ z ∧ z < n) (hl : s.lnk y z = true) : WayOk s n (p ++ [z]) x z := by
  have hp := h.pos
  have lt : ∀ {i : Nat}, i < (p ++ [z]).length → i < p.length ∨ (i = p.length ∧ (p ++ [z])[i]! = z) := fun {i} hi => by
    by_cases h1 : i < p.length
    · exact .inl h1
    · have : i = p.length := by simp at hi; omega
      subst this; exact .inr ⟨rfl, app_at!⟩
  refine ⟨by simp, by rw [app_get! hp]; exact h.hd, by simp only [List.length_append, List.length_singleton, Nat.add_sub_cancel]; exact app_at!, fun i hi => ?_, fun i hi => ?_⟩
  · rcases lt hi with h1 | ⟨_, h2⟩
    · rw [app_get! h1]; exact h.inn i h1
    · rw [h2]; exact hz
  · rcases lt hi with h1 | ⟨h1, h2⟩
    · rw [app_get! h1, app_get! (by omega)]; exact h.lnk i h1
    · rw [h2, app_get! (by omega), show i = p.length - 1 by omega, h.last]; exact hl
theorem step_hop {m d a t : Int} (hm : 2 ≤ m) (hd : d = 1 ∨ d = -1) (h0 : 0 ≤ a) (h1 : a < m) (k0 : 0 ≤ t) (k1 : t < m) (hne : a ≠ t) : a ≠ stepF m d a ∧ nrB m a (stepF m d a) = true := by
  have hs := (dist_step hm hd h0 h1 k0 k1 hne).1
  have hn : a ≠ stepF m d a := fun e => by rw [← e] at hs; omega
  refine ⟨hn, ?_⟩
  have : max (a - stepF m d a) (stepF m d a - a) = 1 ∨ max (a - stepF m d a) (stepF m d a - a) = m - 1 := by
    rcases hd with rfl | rfl
    · rw [step_up hm h0 h1] at hn ⊢; split <;> omega
    · rw [step_dn hm h0 h1] at hn ⊢; split <;> omega
  simpa [nrB] using this
theorem set_in {g e : List Int} (he : InR g e) {i : Nat} (hi : i < g.length) {a : Int} (h0 : 0 ≤ a ∧ a < g[i]!) : InR g (e.set i a) := he.set hi h0.1 h0.2
theorem grid_hop {g e : List Int} (he : InR g e) {i : Nat} (hi : i < g.length) {a : Int} (h0 : 0 ≤ a ∧ a < g[i]!) (hne : e[i]! ≠ a) (hnr : nrB g[i]! e[i]! a = true) : (Sh.grid g).lnk (numF g e) (numF g (e.set i a)) = true := by
  have hl := he.1
  have hs := set_in he hi h0
  have c1 : coords g (numF g e) = e := coords_num he
  have c2 : coords g (numF g (e.set i a)) = e.set i a := coords_num hs
  have hsi : (e.set i a)[i]! = a := set_get_self (by rw [hl]; exact hi)
  have hn : numF g e ≠ numF g (e.set i a) := fun h => by
    have : e = e.set i a := c1.symm.trans ((congrArg (coords g) h).trans c2)
    exact hne ((congrArg (fun l : List Int => l[i]!) this).trans hsi)
  simp only [Sh.lnk]
  rw [if_neg hn]
  unfold lnG
  rw [c1, c2, lnS_one (g := g) (i := i) (by rw [hsi]; exact hne) hi (fun j hj hji => by rw [set_get_ne hji])]
  rw [hsi, hnr]; rfl
theorem inn_way {g : List Int} {i : Nat} {d t x : Int} {n : Nat} (hn : (Sh.grid g).sw = n) (hi : i < g.length) (hm : 2 ≤ g[i]!) (hd : d = 1 ∨ d = -1) (ht : 0 ≤ t ∧ t < g[i]!) :
    ∀ (k : Nat) (e : List Int) (c : Int) (p q : List Int), InR g e → distF g[i]! d e[i]! t = k → WayOk (.grid g) n p x (numF g e) →
      (inn g i g[i]! d k e c p q).1 = e.set i t ∧ WayOk (.grid g) n (inn g i g[i]! d k e c p q).2.1 x (numF g (e.set i t))
  | 0, e, c, p, q, he, hk, hw => by
    have h1 := he.2 i hi
    have : e[i]! = t := (dist_zero h1.1 h1.2 ht.1 ht.2).1 hk
    have es : e.set i t = e := by rw [← this, getElem!_pos e i (by rw [he.1]; exact hi)]; exact List.set_getElem_self _
    rw [es]
    exact ⟨rfl, hw⟩
  | k + 1, e, c, p, q, he, hk, hw => by
    have h1 := he.2 i hi
    have hne : e[i]! ≠ t := fun h => by
      have := (dist_zero (d := d) h1.1 h1.2 ht.1 ht.2).2 h
      omega
    obtain ⟨d1, d2, d3⟩ := dist_step hm hd h1.1 h1.2 ht.1 ht.2 hne
    obtain ⟨s1, s2⟩ := step_hop hm hd h1.1 h1.2 ht.1 ht.2 hne
    have he' := set_in he hi ⟨d2, d3⟩
    have hsi : (e.set i (stepF g[i]! d e[i]!))[i]! = stepF g[i]! d e[i]! := set_get_self (by rw [he.1]; exact hi)
    have hin := num_lt he' g.length (Nat.le_refl _)
    rw [List.take_length, List.take_of_length_le (by rw [he'.1]; exact Nat.le_refl _)] at hin
    have hn : prodF g = n := hn
    have ih := inn_way (x := x) (n := n) hn hi hm hd ht k (e.set i (stepF g[i]! d e[i]!)) (if stepF g[i]! d e[i]! - e[i]! ≠ d then 1 else c) (p ++ [numF g (e.set i (stepF g[i]! d e[i]!))]) (q ++ [if stepF g[i]! d e[i]! - e[i]! ≠ d then 1 else c]) he'
      (by rw [hsi]; omega) (way_snoc hw (by omega) (grid_hop he hi ⟨d2, d3⟩ s1 s2))
    rw [List.set_set] at ih
    exact ih
theorem dirF_d (m a t : Int) : dirF m a t = 1 ∨ dirF m a t = -1 := by unfold dirF; split <;> simp
theorem outr_way {g ts : List Int} {x : Int} {n : Nat} (hn : (Sh.grid g).sw = n) (hg : ∀ i, i < g.length → 2 ≤ g[i]!) (ht : InR g ts) :
    ∀ (k i : Nat) (e p q : List Int), i + k = g.length → InR g e → (∀ j, j < i → e[j]! = ts[j]!) → WayOk (.grid g) n p x (numF g e) →
      WayOk (.grid g) n (outr g ts k i e p q).1 x (numF g ts) ∧ (outr g ts k i e p q).1.length = p.length + sumN k (fun r => mdF g[i + r]! e[i + r]! ts[i + r]!)
  | 0, i, e, p, q, hk, he, hj, hw => by
    have : e = ts := ext! (by rw [he.1, ht.1]) (fun j hjl => hj j (by rw [he.1] at hjl; omega))
    subst this
    exact ⟨hw, rfl⟩
  | k + 1, i, e, p, q, hk, he, hj, hw => by
    have hi : i < g.length := by omega
    have hti := ht.2 i hi
    obtain ⟨w1, w2⟩ := inn_way (x := x) (n := n) hn hi (hg i hi) (dirF_d g[i]! e[i]! ts[i]!) hti _ e 0 p q he rfl hw
    have wl := (inn_len g i g[i]! (dirF g[i]! e[i]! ts[i]!) (distF g[i]! (dirF g[i]! e[i]! ts[i]!) e[i]! ts[i]!) e 0 p q).1
    have ih := outr_way (x := x) (n := n) hn hg ht k (i + 1) (e.set i ts[i]!) (inn g i g[i]! (dirF g[i]! e[i]! ts[i]!) (distF g[i]! (dirF g[i]! e[i]! ts[i]!) e[i]! ts[i]!) e 0 p q).2.1
      (inn g i g[i]! (dirF g[i]! e[i]! ts[i]!) (distF g[i]! (dirF g[i]! e[i]! ts[i]!) e[i]! ts[i]!) e 0 p q).2.2 (by omega) (set_in he hi hti) (fun j hji => by
        by_cases e' : j = i
        · subst e'; exact set_get_self (by rw [he.1]; exact hi)
        · rw [set_get_ne e']; exact hj j (by omega)) w2
    simp only [outr]
    rw [w1]
    refine ⟨ih.1, ih.2.trans ?_⟩
    rw [wl, show k + 1 = 1 + k by omega, sumN_split]
    have e2 : sumN k (fun r => mdF g[i + 1 + r]! (e.set i ts[i]!)[i + 1 + r]! ts[i + 1 + r]!) = sumN k (fun r => mdF g[i + (1 + r)]! e[i + (1 + r)]! ts[i + (1 + r)]!) := sumN_congr (fun r _ => by
      rw [set_get_ne (by omega), Nat.add_assoc])
    have e3 : sumN 1 (fun r => mdF g[i + r]! e[i + r]! ts[i + r]!) = mdF g[i]! e[i]! ts[i]! := Nat.zero_add _
    rw [e2, e3]
    exact Nat.add_assoc _ _ _
theorem tor_way {g : List Int} (hok : (Sh.grid g).ok) {n : Nat} (hn : (Sh.grid g).sw = n) {x y : Int} (hx : 0 ≤ x ∧ x < n) (hy : 0 ≤ y ∧ y < n) :
    WayOk (.grid g) n (torF g x y).1 x y ∧ (torF g x y).1.length = gdF g (coords g x) (coords g y) + 1 := by
  have hg : ∀ m ∈ g, 2 ≤ m := fun m h => (hok.2.2.1 m h).1
  have hg' : ∀ i, i < g.length → 2 ≤ g[i]! := fun i hi => by rw [getElem!_pos g i hi]; exact hg _ (List.getElem_mem hi)
  have hp : prodF g = n := hn
  have ex : numF g (coords g x) = x := num_coords ⟨hx.1, by omega⟩ hg
  have ey : numF g (coords g y) = y := num_coords ⟨hy.1, by omega⟩ hg
  have h := outr_way (x := x) (n := n) hn hg' (coords_in hy.1 g hg) g.length 0 (coords g x) [x] [] (by omega) (coords_in hx.1 g hg) (fun j hj => absurd hj (Nat.not_lt_zero j)) (by rw [ex]; exact way1 hx)
  rw [ey] at h
  refine ⟨h.1, h.2.trans ?_⟩
  simp only [List.length_singleton, Nat.zero_add, gdF]
  omega
end Go.Af.Tryz
namespace Go.Af.Tryz
open Go

/-- The word w with its digit i as G has it. -/
def likN (K w i G : Nat) : Nat := (w / K ^ i / K * K + G / K ^ i % K) * K ^ i + w % K ^ i
theorem lik_likN {K W i G : Nat} (hK : 0 < K) : likF (K : Int) (W : Int) i (G : Int) = (likN K W i G : Int) := by
  have h := lik_nat (K := K) (W := W) (i := i) (d := G / K ^ i % K) (Nat.mod_lt _ hK)
  unfold likN
  rw [← h]
  unfold likF
  have hp : 0 < K ^ i := Nat.pow_pos hK
  rw [show ((G / K ^ i % K : Nat) : Int) * (K : Int) ^ i = ((G / K ^ i % K * K ^ i : Nat) : Int) by simp, dig_nat, dig_nat, dig_nat, Nat.mul_div_cancel _ hp, Nat.mod_mod]
theorem likN_div {K w i G : Nat} (hK : 0 < K) : likN K w i G / K ^ i = w / K ^ i / K * K + G / K ^ i % K := by
  have hp : 0 < K ^ i := Nat.pow_pos hK
  unfold likN
  rw [Nat.mul_comm _ (K ^ i), Nat.mul_add_div hp, Nat.div_eq_of_lt (Nat.mod_lt _ hp), Nat.add_zero]
theorem likN_mod {K w i G : Nat} : likN K w i G % K ^ i = w % K ^ i := by
  unfold likN
  rw [Nat.mul_comm _ (K ^ i), Nat.mul_add_mod, Nat.mod_mod]
theorem likN_up {K w i G : Nat} (hK : 0 < K) : likN K w i G / K ^ (i + 1) = w / K ^ (i + 1) := by
  rw [Nat.pow_succ, ← Nat.div_div_eq_div_mul, likN_div hK, ← Nat.div_div_eq_div_mul, Nat.mul_comm, Nat.mul_add_div hK, Nat.div_eq_of_lt (Nat.mod_lt _ hK), Nat.add_zero]
/-- What a link asks of two words. -/
theorem lik0_iff {K w w' i : Nat} (hK : 0 < K) : likF (K : Int) (w : Int) i 0 = likF (K : Int) (w' : Int) i 0 ↔ w / K ^ (i + 1) = w' / K ^ (i + 1) ∧ w % K ^ i = w' % K ^ i := by
  have e0 : ∀ v : Nat, likF (K : Int) (v : Int) i 0 = (likN K v i 0 : Int) := fun v => lik_likN (G := 0) hK
  rw [e0, e0]
  constructor
  · intro h
    have h : likN K w i 0 = likN K w' i 0 := by omega
    exact ⟨by rw [← likN_up (G := 0) hK, h, likN_up hK], by rw [← likN_mod (K := K) (G := 0), h, likN_mod]⟩
  · rintro ⟨h1, h2⟩
    have : likN K w i 0 = likN K w' i 0 := by
      unfold likN
      rw [Nat.pow_succ, ← Nat.div_div_eq_div_mul, ← Nat.div_div_eq_div_mul] at h1
      rw [h1, h2]
    rw [this]
end Go.Af.Tryz
namespace Go.Af.Tryz
open Go

theorem fa_up {K N l w w' : Nat} {n : Int} (hn : (n - 1).toNat = N) (hK : 2 ≤ K) (hw : w < K ^ N) (hw' : w' < K ^ N) (h1 : w / K ^ (l + 1) = w' / K ^ (l + 1)) (h2 : w % K ^ l = w' % K ^ l) :
    (Sh.fat K n).lnk ((l * K ^ N + w : Nat) : Int) (((l + 1) * K ^ N + w' : Nat) : Int) = true := by
  have hp : 0 < K ^ N := Nat.pow_pos (by omega)
  have hlt : l * K ^ N + w < (l + 1) * K ^ N + w' := by rw [Nat.add_mul, Nat.one_mul]; omega
  simp only [Sh.lnk]
  rw [if_neg (by omega)]
  simp only [lnFa, hn]
  rw [show max ((l * K ^ N + w : Nat) : Int) (((l + 1) * K ^ N + w' : Nat) : Int) = (((l + 1) * K ^ N + w' : Nat) : Int) by omega,
    show min ((l * K ^ N + w : Nat) : Int) (((l + 1) * K ^ N + w' : Nat) : Int) = ((l * K ^ N + w : Nat) : Int) by omega]
  have q : ∀ a v : Nat, v < K ^ N → ((a * K ^ N + v : Nat) : Int).tdiv ((K : Int) ^ N) = (a : Int) ∧ ((a * K ^ N + v : Nat) : Int).tmod ((K : Int) ^ N) = (v : Int) := fun a v hv => by
    rw [← Int.natCast_pow, ← Int.ofNat_tdiv, ← Int.ofNat_tmod, Nat.mul_comm, Nat.mul_add_div hp, Nat.mul_add_mod, Nat.div_eq_of_lt hv, Nat.mod_eq_of_lt hv, Nat.add_zero]
    exact ⟨rfl, rfl⟩
  rw [(q _ _ hw).1, (q _ _ hw).2, (q _ _ hw').1, (q _ _ hw').2, Int.toNat_natCast, decide_eq_true ((lik0_iff (by omega)).2 ⟨h1, h2⟩), Bool.and_true]
  exact decide_eq_true (Int.natCast_add l 1)
theorem likN_lt {K N w i G : Nat} (hK : 2 ≤ K) (hi : i < N) (hw : w < K ^ N) : likN K w i G < K ^ N := by
  have h := (lik_in (k := (K : Int)) (w := (w : Int)) (o := (G : Int)) (i := i) (N := N) (by omega) hi (by omega) (by rw [← Int.natCast_pow]; omega) (by omega)).1
  rw [lik_likN (by omega), ← Int.natCast_pow] at h
  omega
theorem fat_in {K N l w n' : Nat} {n : Int} (hn : (n - 1).toNat = N) (hn1 : 1 ≤ n) (hsw : (Sh.fat K n).sw = n') (hl : l ≤ N) (hw : w < K ^ N) : l * K ^ N + w < n' := by
  have e : n = ((N + 1 : Nat) : Int) := by omega
  have h : n * (K : Int) ^ (n - 1).toNat = n' := hsw
  rw [hn, e, ← Int.natCast_pow, ← Int.natCast_mul] at h
  have h : (N + 1) * K ^ N = n' := by omega
  have := Nat.mul_le_mul_right (K ^ N) hl
  rw [Nat.add_mul, Nat.one_mul] at h
  omega
theorem dn_way {K N G n' : Nat} {n x : Int} (hok : (Sh.fat K n).ok) (hn : (n - 1).toNat = N) (hsw : (Sh.fat K n).sw = n') (hG : G < K ^ N) :
    ∀ (l w : Nat) (p : List Int), l ≤ N → w < K ^ N → w / K ^ l = G / K ^ l → WayOk (.fat K n) n' p x ((l * K ^ N + w : Nat) : Int) →
      WayOk (.fat K n) n' (dnF K G ((K : Int) ^ N) l w p) x (G : Int) ∧ (dnF K G ((K : Int) ^ N) l w p).length = p.length + l
  | 0, w, p, _, hw, he, hp => by
    rw [Nat.pow_zero, Nat.div_one, Nat.div_one] at he
    subst he
    rw [Nat.zero_mul, Nat.zero_add] at hp
    exact ⟨hp, rfl⟩
  | l + 1, w, p, hl, hw, he, hp => by
    have hK : 2 ≤ K := by have := hok.1.1; omega
    have hn1 : 1 ≤ n := hok.2.1.1
    have hw' := likN_lt (G := G) hK (show l < N by omega) hw
    have b1 := fat_in hn hn1 hsw (show l ≤ N by omega) hw'
    have b2 := fat_in hn hn1 hsw hl hw
    have hlk := fa_up hn hK hw' hw (l := l) (likN_up (by omega)) likN_mod
    rw [lnk_sym hok (by omega) (by omega)] at hlk
    have hd : likN K w l G / K ^ l = G / K ^ l := by
      rw [likN_div (by omega)]
      rw [Nat.pow_succ, ← Nat.div_div_eq_div_mul, ← Nat.div_div_eq_div_mul] at he
      rw [he, Nat.mul_comm, Nat.div_add_mod]
    have ih := dn_way (x := x) hok hn hsw hG l (likN K w l G) (p ++ [((l * K ^ N + likN K w l G : Nat) : Int)]) (by omega) hw' hd (way_snoc hp (by omega) hlk)
    have e : dnF K G ((K : Int) ^ N) (l + 1) w p = dnF K G ((K : Int) ^ N) l (likN K w l G : Nat) (p ++ [((l * K ^ N + likN K w l G : Nat) : Int)]) := by
      simp only [dnF]
      rw [lik_likN (by omega)]
      simp
    rw [e]
    refine ⟨ih.1, ih.2.trans ?_⟩
    simp; omega
end Go.Af.Tryz
namespace Go.Af.Tryz
open Go

theorem div_hi {K a b l m : Nat} (h : a / K ^ l = b / K ^ l) (hm : l ≤ m) : a / K ^ m = b / K ^ m := by
  obtain ⟨d, rfl⟩ : ∃ d, m = l + d := ⟨m - l, by omega⟩
  rw [Nat.pow_add, ← Nat.div_div_eq_div_mul, ← Nat.div_div_eq_div_mul, h]
theorem up_way {K N G n' : Nat} {n x : Int} (hok : (Sh.fat K n).ok) (hn : (n - 1).toNat = N) (hsw : (Sh.fat K n).sw = n') (hG : G < K ^ N) :
    ∀ (f l w : Nat) (p : List Int), l + f = N → w < K ^ N → WayOk (.fat K n) n' p x ((l * K ^ N + w : Nat) : Int) →
      ∃ (L w' : Nat) (q : List Int), upF K G ((K : Int) ^ N) f l w p = (L, (w' : Int), q) ∧ l ≤ L ∧ L ≤ N ∧ w' < K ^ N ∧ w' / K ^ L = G / K ^ L ∧ WayOk (.fat K n) n' q x ((L * K ^ N + w' : Nat) : Int) ∧
        q.length = p.length + (L - l) ∧ w / K ^ L = G / K ^ L ∧ ∀ m, l ≤ m → m < L → w / K ^ m ≠ G / K ^ m
  | 0, l, w, p, hl, hw, hp => by
    have : l = N := by omega
    subst this
    have e : w / K ^ l = G / K ^ l := by rw [Nat.div_eq_of_lt hw, Nat.div_eq_of_lt hG]
    exact ⟨l, w, p, rfl, Nat.le_refl _, Nat.le_refl _, hw, e, hp, by omega, e, fun m h1 h2 => by omega⟩
  | f + 1, l, w, p, hl, hw, hp => by
    have hK : 2 ≤ K := by have := hok.1.1; omega
    have hn1 : 1 ≤ n := hok.2.1.1
    have hc : ((w : Int).tdiv ((K : Int) ^ l) = (G : Int).tdiv ((K : Int) ^ l)) ↔ w / K ^ l = G / K ^ l := by
      rw [← Int.natCast_pow, ← Int.ofNat_tdiv, ← Int.ofNat_tdiv]; omega
    by_cases h : w / K ^ l = G / K ^ l
    · refine ⟨l, w, p, by simp only [upF]; rw [if_pos (hc.2 h)], Nat.le_refl _, by omega, hw, h, hp, by omega, h, fun m h1 h2 => by omega⟩
    · have hw' := likN_lt (G := G) hK (show l < N by omega) hw
      have b2 := fat_in hn hn1 hsw (show l + 1 ≤ N by omega) hw'
      have hlk := fa_up hn hK hw hw' (l := l) (likN_up (by omega)).symm likN_mod.symm
      obtain ⟨L, w', q, h1, h2, h3, h4, h5, h6, h7, h8, h9⟩ := up_way (x := x) hok hn hsw hG f (l + 1) (likN K w l G) (p ++ [(((l + 1) * K ^ N + likN K w l G : Nat) : Int)]) (by omega) hw' (way_snoc hp (by omega) hlk)
      have hu : ∀ m, l + 1 ≤ m → likN K w l G / K ^ m = w / K ^ m := fun m hm => div_hi (likN_up (by omega)) hm
      refine ⟨L, w', q, ?_, by omega, h3, h4, h5, h6, by rw [h7]; simp; omega, by rw [← hu L h2]; exact h8, fun m m1 m2 => ?_⟩
      · simp only [upF]
        rw [if_neg (fun e => h (hc.1 e)), lik_likN (by omega), ← h1]
        simp
      · by_cases e : m = l
        · subst e; exact h
        · rw [← hu m (by omega)]; exact h9 m (by omega) m2
end Go.Af.Tryz
namespace Go.Af.Tryz
open Go

/-- The level at which the way turns. -/
structure TopOk (K N G l w L : Nat) : Prop where
  h1 : l ≤ L
  h2 : L ≤ N
  h3 : w / K ^ L = G / K ^ L
  h4 : ∀ m, l ≤ m → m < L → w / K ^ m ≠ G / K ^ m
theorem tre_way {K N G n' l w : Nat} {n : Int} (hok : (Sh.fat K n).ok) (hn : (n - 1).toNat = N) (hsw : (Sh.fat K n).sw = n') (hG : G < K ^ N) (hl : l ≤ N) (hw : w < K ^ N) :
    ∃ L, TopOk K N G l w L ∧ WayOk (.fat K n) n' (treF K N ((l * K ^ N + w : Nat) : Int) G) ((l * K ^ N + w : Nat) : Int) (G : Int) ∧ (treF K N ((l * K ^ N + w : Nat) : Int) G).length = 1 + (L - l) + L := by
  have hK : 2 ≤ K := by have := hok.1.1; omega
  have hn1 : 1 ≤ n := hok.2.1.1
  have hp : 0 < K ^ N := Nat.pow_pos (by omega)
  have b := fat_in hn hn1 hsw hl hw
  obtain ⟨L, w', q, h1, h2, h3, h4, h5, h6, h7, h8, h9⟩ := up_way (x := ((l * K ^ N + w : Nat) : Int)) hok hn hsw hG (N - l) l w [((l * K ^ N + w : Nat) : Int)] (by omega) hw (way1 (by omega))
  obtain ⟨d1, d2⟩ := dn_way (x := ((l * K ^ N + w : Nat) : Int)) hok hn hsw hG L w' q h3 h4 h5 h6
  have e : treF K N ((l * K ^ N + w : Nat) : Int) G = dnF K G ((K : Int) ^ N) L w' q := by
    unfold treF
    have q1 : ((l * K ^ N + w : Nat) : Int).tdiv ((K : Int) ^ N) = (l : Int) ∧ ((l * K ^ N + w : Nat) : Int).tmod ((K : Int) ^ N) = (w : Int) := by
      rw [← Int.natCast_pow, ← Int.ofNat_tdiv, ← Int.ofNat_tmod, Nat.mul_comm, Nat.mul_add_div hp, Nat.mul_add_mod, Nat.div_eq_of_lt hw, Nat.mod_eq_of_lt hw, Nat.add_zero]
      exact ⟨rfl, rfl⟩
    rw [q1.1, q1.2, Int.toNat_natCast, h1]
  rw [e]
  exact ⟨L, ⟨h2, h3, h8, h9⟩, d1, by rw [d2, h7]; rfl⟩
end Go.Af.Tryz
namespace Go.Af.Tryz
open Go

theorem fat_lv {K N n' : Nat} {n : Int} (hok : (Sh.fat K n).ok) (hn : (n - 1).toNat = N) (hsw : (Sh.fat K n).sw = n') {z : Nat} (hz : z < n') : z / K ^ N ≤ N ∧ z % K ^ N < K ^ N ∧ z / K ^ N * K ^ N + z % K ^ N = z := by
  have hK : 2 ≤ K := by have := hok.1.1; omega
  have hn1 : 1 ≤ n := hok.2.1.1
  have hp : 0 < K ^ N := Nat.pow_pos (by omega)
  have e : n = ((N + 1 : Nat) : Int) := by omega
  have h : n * (K : Int) ^ (n - 1).toNat = n' := hsw
  rw [hn, e, ← Int.natCast_pow, ← Int.natCast_mul] at h
  have h : (N + 1) * K ^ N = n' := by omega
  refine ⟨?_, Nat.mod_lt _ hp, by rw [Nat.mul_comm]; exact Nat.div_add_mod _ _⟩
  have : z / K ^ N < N + 1 := Nat.div_lt_of_lt_mul (by rw [Nat.mul_comm]; omega)
  omega
end Go.Af.Tryz
namespace Go.Af.Tryz
open Go

end Go.Af.Tryz
namespace Go.Af.Tryz
open Go Go.Proofs
attribute [local irreducible] awp ACall ACallX AYield AInvoke newSlice isCells rdCells wrCells aAppend rangeEnd roundBegin roundEnd


end Go.Af.Tryz
