/-
  Routes never go back to a channel of a lower rank. No program is in sight.
  Routes never go back to a channel of a lower rank: trees and dragonflies. No program is in sight.
  Waiting channels: a struct with a row of triples and a row of rows, in a heap whose blocks have no literal numbers.
  A path is noted: the channels that wait have lower ranks than those that they wait for.
-/
import Derived.Test.YtjncbbdiejkalaaGreatMX
import Derived.Test.YtjncbbdiejkalaaGreatMT
import Derived.Test.YtjncbbdiejkalaaGreatMC
import Derived.Laws.StructEq
set_option linter.all false
namespace Go.Af.Tryz
open Go

/-- A path whose channels, with their classes, have greater and greater ranks, all below B. -/
inductive Up (rk : Int → Int → Int → Nat) : List Int → List Int → Nat → Prop
  | one (x : Int) (B : Nat) : Up rk [x] [] B
  | snoc {p q : List Int} {B B' : Nat} {u v c : Int} (h : Up rk p q B) (hu : p.getLast? = some u) (h1 : B ≤ rk u v c) (h2 : rk u v c < B') : Up rk (p ++ [v]) (q ++ [c]) B'
theorem last_get {p : List Int} {u : Int} (h : p.getLast? = some u) : 0 < p.length ∧ p[p.length - 1]! = u := by
  rw [List.getLast?_eq_getElem?] at h
  have := (List.getElem?_eq_some_iff.1 h).1
  refine ⟨by omega, ?_⟩
  rw [getElem!_pos p _ this]
  exact (List.getElem?_eq_some_iff.1 h).2
theorem app_lt {p : List Int} {v : Int} {i : Nat} (h : i < p.length) : (p ++ [v])[i]! = p[i]! := by
  rw [getElem!_pos (p ++ [v]) i (by simp; omega), getElem!_pos p i h, List.getElem_append_left h]
theorem app_eq (p : List Int) (v : Int) : (p ++ [v])[p.length]! = v := by
  rw [getElem!_pos (p ++ [v]) _ (by simp)]; simp
theorem Up.idx {rk : Int → Int → Int → Nat} {p q : List Int} {B : Nat} (h : Up rk p q B) : q.length + 1 = p.length ∧ (∀ i, i + 1 < q.length → rk p[i]! p[i + 1]! q[i]! < rk p[i + 1]! p[i + 2]! q[i + 1]!) ∧ (∀ i, i + 1 = q.length → rk p[i]! p[i + 1]! q[i]! < B) := by
  induction h with
  | one x B => exact ⟨rfl, fun i hi => by simp at hi, fun i hi => by simp at hi⟩
  | @snoc p q B B' u v c h hu h1 h2 ih =>
    obtain ⟨i1, i2, i3⟩ := ih
    obtain ⟨l1, l2⟩ := last_get hu
    have new : rk (p ++ [v])[p.length - 1]! (p ++ [v])[p.length]! (q ++ [c])[q.length]! = rk u v c := by
      rw [app_lt (by omega), l2, app_eq, app_eq]
    refine ⟨by simp; omega, fun i hi => ?_, fun i hi => ?_⟩
    · simp only [List.length_append, List.length_singleton] at hi
      by_cases he : i + 1 = q.length
      · have e1 : p.length = i + 2 := by omega
        have := i3 i he
        rw [app_lt (p := p) (i := i) (by omega), app_lt (p := p) (i := i + 1) (by omega), app_lt (p := q) (i := i) (by omega)]
        rw [e1, ← he] at new
        have e2 : i + 2 - 1 = i + 1 := by omega
        rw [e2, app_lt (p := p) (i := i + 1) (by omega)] at new
        rw [new]; omega
      · rw [app_lt (by omega), app_lt (by omega), app_lt (by omega), app_lt (by omega), app_lt (by omega)]
        exact i2 i (by omega)
    · simp only [List.length_append, List.length_singleton] at hi
      have e1 : i = q.length := by omega
      have e2 : i = p.length - 1 := by omega
      have e3 : i + 1 = p.length := by omega
      rw [e3, e1, show q.length = p.length - 1 by omega, ← show q.length = p.length - 1 by omega]
      rw [show q.length = p.length - 1 by omega] at new ⊢
      rw [show p.length - 1 = q.length by omega] at new ⊢
      rw [new]; exact h2

/-! ### A torus -/

def numA (a : Int) (g e : List Int) : Int := (g.zip e).foldl (fun x p => x * p.1 + p.2) a
theorem inr_cons {m a : Int} {g e : List Int} (h : InR (m :: g) (a :: e)) : (0 ≤ a ∧ a < m) ∧ InR g e := by
  have h0 := h.2 0 (by simp)
  refine ⟨by simpa using h0, by have := h.1; simpa using this, fun i hi => ?_⟩
  have := h.2 (i + 1) (by simp; omega)
  simpa using this
theorem numA_back : ∀ (g e : List Int) (a : Int), 0 ≤ a → InR g e → quoF g (numA a g e) = a ∧ coords g (numA a g e) = e
  | [], [], a, _, _ => ⟨rfl, rfl⟩
  | [], _ :: _, _, _, h => by have := h.1; simp at this
  | _ :: _, [], _, _, h => by have := h.1; simp at this
  | m :: g, b :: e, a, ha, h => by
    obtain ⟨hb, h⟩ := inr_cons h
    have hm := Int.mul_nonneg ha (show 0 ≤ m by omega)
    obtain ⟨i1, i2⟩ := numA_back g e (a * m + b) (by omega) h
    have e1 : numA a (m :: g) (b :: e) = numA (a * m + b) g e := rfl
    have e2 : quoF (m :: g) (numA (a * m + b) g e) = (quoF g (numA (a * m + b) g e)).tdiv m := rfl
    have e3 : coords (m :: g) (numA (a * m + b) g e) = (quoF g (numA (a * m + b) g e)).tmod m :: coords g (numA (a * m + b) g e) := rfl
    rw [e1, e2, e3, i1, i2]
    have k1 : (a * m + b).tdiv m = a := by
      rw [Int.tdiv_eq_ediv_of_nonneg (by omega), Int.add_comm, Int.add_mul_ediv_right _ _ (by omega), Int.ediv_eq_zero_of_lt hb.1 hb.2, Int.zero_add]
    have k2 : (a * m + b).tmod m = b := by
      rw [Int.tmod_eq_emod_of_nonneg (by omega), Int.add_comm, Int.add_mul_emod_self_right, Int.emod_eq_of_lt hb.1 hb.2]
    rw [k1, k2]; exact ⟨rfl, rfl⟩
theorem coords_num {g e : List Int} (h : InR g e) : coords g (numF g e) = e := (numA_back g e 0 (by omega) h).2
theorem numA_coords : ∀ (g : List Int) (x : Int), 0 ≤ x → (∀ m ∈ g, 2 ≤ m) → numA (quoF g x) g (coords g x) = x
  | [], x, _, _ => rfl
  | m :: g, x, hx, hg => by
    have hq := quo_nn hx g (fun m hm => hg m (by simp [hm]))
    have e1 : numA (quoF (m :: g) x) (m :: g) (coords (m :: g) x) = numA ((quoF g x).tdiv m * m + (quoF g x).tmod m) g (coords g x) := rfl
    rw [e1, Int.mul_comm, Int.mul_tdiv_add_tmod]
    exact numA_coords g x hx (fun m hm => hg m (by simp [hm]))
theorem foldl_mul (g : List Int) : ∀ a : Int, g.foldl (fun n m => n * m) a = a * prodF g := by
  unfold prodF
  induction g with
  | nil => intro a; simp
  | cons m g ih => intro a; simp only [List.foldl_cons]; rw [ih (a * m), ih (1 * m), Int.one_mul, Int.mul_assoc]
theorem prodF_cons (m : Int) (g : List Int) : prodF (m :: g) = m * prodF g := by
  show g.foldl (fun n m => n * m) (1 * m) = _
  rw [foldl_mul, Int.one_mul]
theorem quo_mul : ∀ (g : List Int) (x : Int), 0 ≤ x → (∀ m ∈ g, 2 ≤ m) → 1 ≤ prodF g ∧ quoF g x * prodF g ≤ x
  | [], x, _, _ => by simp [quoF, prodF]
  | m :: g, x, hx, hg => by
    have hm := hg m (by simp)
    have hg' : ∀ m ∈ g, 2 ≤ m := fun m hm => hg m (by simp [hm])
    have hq := quo_nn hx g hg'
    obtain ⟨i1, i2⟩ := quo_mul g x hx hg'
    rw [prodF_cons]
    have h1 := Int.mul_le_mul_of_nonneg_right hm (show 0 ≤ prodF g by omega)
    refine ⟨by omega, ?_⟩
    have e1 : quoF (m :: g) x = (quoF g x).tdiv m := rfl
    rw [e1, ← Int.mul_assoc]
    have h2 : (quoF g x).tdiv m * m ≤ quoF g x := by
      rw [Int.tdiv_eq_ediv_of_nonneg hq]; exact Int.ediv_mul_le _ (by omega)
    exact Int.le_trans (Int.mul_le_mul_of_nonneg_right h2 (by omega)) i2
theorem num_coords {g : List Int} {x : Int} (hx : 0 ≤ x ∧ x < prodF g) (hg : ∀ m ∈ g, 2 ≤ m) : numF g (coords g x) = x := by
  have h1 := numA_coords g x hx.1 hg
  have h2 := quo_mul g x hx.1 hg
  have h3 := quo_nn hx.1 g hg
  have : quoF g x = 0 := by
    by_cases h : quoF g x = 0
    · exact h
    · have := Int.mul_le_mul_of_nonneg_right (show 1 ≤ quoF g x by omega) (show 0 ≤ prodF g by omega)
      omega
  rw [this] at h1
  exact h1

end Go.Af.Tryz
namespace Go.Af.Tryz
open Go

end Go.Af.Tryz
namespace Go.Af.Tryz
open Go Go.Proofs
attribute [local irreducible] awp ACall ACallX AYield AInvoke newSlice isCells rdCells wrCells aAppend

theorem und118 : Tryz.prog.underlying 139 = some (.array 3 3) := by kernel_rfl
theorem und3 : Tryz.prog.underlying 3 = some (.int .i64) := by kernel_rfl
theorem eqi3 (d : Nat) (a b : Int) (w : World) : (Op.equalIn (d + 1) 3 (.int .i64 a) (.int .i64 b)).run Tryz.prog w = .ok (decide (a = b)) w := by
  rw [Op.equalIn]; simp [run_und und3]
  by_cases h : a = b <;> simp [h]
theorem ag118 : Tryz.prog.eqGuardType Tryz.prog.depth 139 = false := by kernel_rfl
theorem size3 (w : World) : (sizeOf 3).run Tryz.prog w = .ok 1 w := by kernel_rfl
theorem part3 (xs : Array Value) (i : Nat) (v : Value) (h : xs[i]? = some v) (w : World) : (part 3 xs i).run Tryz.prog w = .ok v w := by
  simp [part, isAgg, run_und und3, h]
theorem aggEq118 : AggEq Tryz.prog 139 [.i64, .i64, .i64] := by
  intro xs ys ha hb w
  obtain ⟨a0, a1, a2, rfl⟩ : ∃ a0 a1 a2, xs = [a0, a1, a2] := by
    match xs, ha with
    | [a, b, c], _ => exact ⟨a, b, c, rfl⟩
  obtain ⟨b0, b1, b2, rfl⟩ : ∃ a0 a1 a2, ys = [a0, a1, a2] := by
    match ys, hb with
    | [a, b, c], _ => exact ⟨a, b, c, rfl⟩
  refine ⟨?_, fun op x y => run_eqGuard_agg (P := Tryz.prog) w op 139 x y _ _ ag118⟩
  unfold Op.equal Op.maxDepth
  rw [Op.equalIn]
  have p0 : ∀ (a b c : Int), (part 3 ⟨[.int .i64 a, .int .i64 b, .int .i64 c]⟩ 0).run Tryz.prog w = .ok (.int .i64 a) w := fun a b c => part3 _ 0 _ rfl w
  have p1 : ∀ (a b c : Int), (part 3 ⟨[.int .i64 a, .int .i64 b, .int .i64 c]⟩ 1).run Tryz.prog w = .ok (.int .i64 b) w := fun a b c => part3 _ 1 _ rfl w
  have p2 : ∀ (a b c : Int), (part 3 ⟨[.int .i64 a, .int .i64 b, .int .i64 c]⟩ 2).run Tryz.prog w = .ok (.int .i64 c) w := fun a b c => part3 _ 2 _ rfl w
  have e3 : ∀ (a b : Int), (Op.equalIn 9999 3 (.int .i64 a) (.int .i64 b)).run Tryz.prog w = .ok (decide (a = b)) w := fun a b => eqi3 9998 a b w
  simp only [Sem.run_bind, run_und und118, Result.andThen_ok, size3]
  simp [List.range', p0, p1, p2, e3]
  by_cases h0 : a0 = b0 <;> by_cases h1 : a1 = b1 <;> by_cases h2 : a2 = b2 <;> simp [h0, h1, h2, p0, p1, p2, e3]

abbrev Tri := Int × Int × Int
def triC (t : Tri) : List Value := [.int .i64 t.1, .int .i64 t.2.1, .int .i64 t.2.2]
def flatC : List Tri → List Value
  | [] => []
  | t :: r => triC t ++ flatC r
theorem flatC_len : ∀ ns : List Tri, (flatC ns).length = ns.length * 3
  | [] => rfl
  | t :: r => by simp [flatC, triC, flatC_len r]; omega
theorem flatC_snoc (t : Tri) : ∀ ns : List Tri, flatC (ns ++ [t]) = flatC ns ++ triC t
  | [] => by simp [flatC]
  | u :: r => by simp [flatC, flatC_snoc t r]
theorem flatC_get : ∀ (ns : List Tri) (i : Nat) (t : Tri), ns[i]? = some t → (flatC ns)[0 + i * 3]? = some (.int .i64 t.1) ∧ (flatC ns)[0 + i * 3 + 1]? = some (.int .i64 t.2.1) ∧ (flatC ns)[0 + i * 3 + 1 + 1]? = some (.int .i64 t.2.2)
  | [], _, _, h => by simp at h
  | u :: r, 0, t, h => by simp at h; subst h; exact ⟨rfl, rfl, rfl⟩
  | u :: r, i + 1, t, h => by
    obtain ⟨h1, h2, h3⟩ := flatC_get r i t (by simpa using h)
    have e : ∀ k, (flatC (u :: r))[k + 3]? = (flatC r)[k]? := fun k => by
      show (triC u ++ flatC r)[k + 3]? = _
      rw [List.getElem?_append_right (by simp [triC])]; simp [triC]
    refine ⟨?_, ?_, ?_⟩
    · rw [show 0 + (i + 1) * 3 = (0 + i * 3) + 3 by omega, e]; exact h1
    · rw [show 0 + (i + 1) * 3 + 1 = (0 + i * 3 + 1) + 3 by omega, e]; exact h2
    · rw [show 0 + (i + 1) * 3 + 1 + 1 = (0 + i * 3 + 1 + 1) + 3 by omega, e]; exact h3

def rowVs (kf : Nat → Nat) (es : List (List Int)) : List Value := (List.range es.length).map (fun i => slV (kf i) es[i]!.length)
theorem rowVs_len (kf : Nat → Nat) (es : List (List Int)) : (rowVs kf es).length = es.length := by simp [rowVs]
theorem rowVs_get {kf : Nat → Nat} {es : List (List Int)} {i : Nat} (hi : i < es.length) : (rowVs kf es)[i]? = some (slV (kf i) es[i]!.length) := by simp [rowVs, hi]

/-- The struct b: its triples lie in block nb, its rows' heads in block tb, row i in block kf i. -/
structure WAt (H : List Blk) (b nb tb : Nat) (kf : Nat → Nat) (ns : List Tri) (es : List (List Int)) : Prop where
  w : bget H b = some (.cells true 1 [slV nb ns.length, slV tb es.length])
  n : 0 < ns.length → bget H nb = some (.cells true 3 (flatC ns))
  t : 0 < es.length → bget H tb = some (.cells true 1 (rowVs kf es))
  r : ∀ i, i < es.length → 0 < es[i]!.length → bget H (kf i) = some (rw' es[i]!)
  bn : 0 < ns.length → b ≠ nb
  bt : 0 < es.length → b ≠ tb ∧ nb ≠ tb
  br : ∀ i, i < es.length → 0 < es[i]!.length → kf i ≠ b ∧ kf i ≠ nb ∧ kf i ≠ tb
  rr : ∀ i j, i < es.length → j < es.length → 0 < es[i]!.length → 0 < es[j]!.length → kf i = kf j → i = j
  ln : es.length = ns.length
  nl : nb < H.length
  tl : tb < H.length
/-- A block that is none of the struct's. -/
def Out (b nb tb : Nat) (kf : Nat → Nat) (es : List (List Int)) (i : Nat) : Prop := i ≠ b ∧ i ≠ nb ∧ i ≠ tb ∧ ∀ j, j < es.length → 0 < es[j]!.length → kf j ≠ i

theorem app_lt' {α : Type} [Inhabited α] {p : List α} {v : α} {i : Nat} (h : i < p.length) : (p ++ [v])[i]! = p[i]! := by
  rw [getElem!_pos (p ++ [v]) i (by simp; omega), getElem!_pos p i h, List.getElem_append_left h]
theorem app_eq' {α : Type} [Inhabited α] (p : List α) (v : α) : (p ++ [v])[p.length]! = v := by
  rw [getElem!_pos (p ++ [v]) _ (by simp)]; simp
theorem rowVs_snoc (kf : Nat → Nat) (es : List (List Int)) : rowVs kf (es ++ [[]]) = rowVs kf es ++ [.slice none 0 0] := by
  unfold rowVs
  rw [List.length_append, List.length_singleton, List.range_succ, List.map_append]
  congr 1
  · refine List.map_congr_left fun i hi => ?_
    rw [List.mem_range] at hi
    rw [app_lt' hi]
  · simp only [List.map_cons, List.map_nil]
    rw [app_eq']; rfl

set_option maxHeartbeats 4000000 in
theorem g56 {H : List Blk} {b nb tb : Nat} {kf : Nat → Nat} {ns : List Tri} {es : List (List Int)} (hw : WAt H b nb tb kf ns es) (hl : ns.length ≤ 1000000000) (x y c : Int) {R : Value → List Blk → Prop}
    (h1 : ∀ i : Nat, ns[i]? = some (x, y, c) → R (.int .i64 (i : Int)) H)
    (h2 : ∀ (H' : List Blk) (nb' tb' : Nat), WAt H' b nb' tb' kf (ns ++ [(x, y, c)]) (es ++ [[]]) → H.length ≤ nb' → H.length ≤ tb' → H.length ≤ H'.length → (∀ i, i < H.length → Out b nb tb kf es i → bget H' i = bget H i) → R (.int .i64 (ns.length : Int)) H') :
    ACall Tryz.prog 61 [.pointer (some ⟨b, 0, none⟩), .int .i64 x, .int .i64 y, .int .i64 c] H R := by
  have hwb := hw.w
  refine acall_vcg tok Tryz.call61 Tryz.func61 rfl Tryz.ntmps61 rfl (by simp) ?_
  refine vcg_loopR tok (fun i : Nat => i ≤ ns.length ∧ ∀ j, j < i → ns[j]? ≠ some (x, y, c)) (fun i => [(0, .pointer (some ⟨b, 0, none⟩)), (1, .int .i64 x), (2, .int .i64 y), (3, .int .i64 c), (9, .int .i64 i)]) (fun _ => H) (fun i => ns.length - i) 0 ⟨Nat.zero_le _, fun j hj => by omega⟩ ?_ ?_
  · exact Or.inl ⟨⟨rfl, rfl, rfl, rfl, rfl, trivial⟩, rfl⟩
  rintro i ⟨hi, hn⟩
  refine And.intro (by decide) (isCells_of hwb ?_)
  refine rdCells_of hwb ?_
  refine ⟨_, rfl, ?_⟩
  refine And.intro (fun hc => ?_) (fun hc => ?_)
  · have hlt : i < ns.length := by simpa using hc
    have hwb' := hwb
    rw [slV_pos (k := nb) (n := ns.length) (by omega)] at hwb'
    have hnb := hw.n (by omega)
    obtain ⟨f1, f2, f3⟩ := flatC_get ns i ns[i] (List.getElem?_eq_getElem hlt)
    refine And.intro (by decide) (isCells_of hwb' ?_)
    refine rdCells_of hwb' ?_
    refine ⟨_, rfl, ?_⟩
    refine isCells_of hnb ⟨i, rfl, hlt, ?_⟩
    refine rdCells_of hnb ?_
    refine ⟨_, f1, _, f2, _, f3, ?_⟩
    refine ⟨_, aggEq118, ?_⟩
    refine And.intro (fun he => ?_) (fun he => ?_)
    · have he : ns[i] = (x, y, c) := by
        have := of_decide_eq_true he
        simp only [List.cons.injEq, and_true] at this
        exact Prod.ext this.1 (Prod.ext this.2.1 this.2.2)
      exact h1 i (by rw [List.getElem?_eq_getElem hlt, he])
    · have he : ns[i] ≠ (x, y, c) := by
        have := of_decide_eq_false he
        intro e
        rw [e] at this
        exact this rfl
      refine Or.inl ⟨((i + 1 : Nat) : Int), by simp, by unfold I64; omega, ?_⟩
      refine ⟨i + 1, ⟨hlt, fun j hj => ?_⟩, by omega, Or.inl ⟨⟨rfl, rfl, rfl, rfl, rfl, trivial⟩, rfl⟩⟩
      by_cases hji : j = i
      · subst hji; rw [List.getElem?_eq_getElem hlt]; exact fun e => he (Option.some.inj e)
      · exact hn j (by omega)
  · have hge : ¬ i < ns.length := by simpa using hc
    have hbl := bget_lt hwb
    refine And.intro (by decide) (isCells_of hwb ?_)
    refine rdCells_of hwb ?_
    refine ⟨_, rfl, ?_⟩
    refine And.intro (by decide) ?_
    refine newS_of fun H1 a1 a2 a3 => ?_
    refine And.intro rfl ?_
    refine app_gen (size := 3) (bytes := 24) (by decide) a2 rfl rfl (xs := flatC ns) (fun h => by rw [a3 _ (bget_lt (hw.n h))]; exact hw.n h) (flatC_len ns) (by omega) ?_
    intro H2 b1 b2 b3
    have wb2 : bget H2 b = some (.cells true 1 [slV nb ns.length, slV tb es.length]) := by rw [b3 b (by omega) (fun h => hw.bn h), a3 b hbl]; exact hwb
    refine And.intro (by decide) (isCells_of wb2 ?_)
    simp only [putK, vops, guardK, cstep, Nat.blt]
    refine store_of wb2 _ rfl rfl (by simp) rfl ?_
    intro H3 c1 c2 c3
    refine And.intro (by decide) (isCells_of c2 ?_)
    refine rdCells_of c2 ?_
    refine ⟨_, rfl, ?_⟩
    refine And.intro (by decide) ?_
    refine newS_of fun H4 d1 d2 d3 => ?_
    refine And.intro rfl ?_
    have htl : 0 < es.length → tb < H.length := fun h => bget_lt (hw.t h)
    have hnl : 0 < ns.length → nb < H.length := fun h => bget_lt (hw.n h)
    have hln := hw.ln
    refine app_gen (size := 1) (bytes := 24) (by decide) d2 rfl rfl (xs := rowVs kf es) (fun h => ?_) (by rw [rowVs_len]; omega) (by omega) ?_
    · have := htl h
      have := hw.bt h
      rw [d3 _ (by omega), c3 _ (by omega), b3 _ (by omega) (fun h => by omega), a3 _ (by omega)]; exact hw.t h
    intro H5 e1 e2 e3
    have wb5 : bget H5 b = some (.cells true 1 [.slice (some ⟨H1.length, 0, none⟩) (ns.length + 1) (ns.length + 1), slV tb es.length]) := by
      rw [e3 b (by omega) (fun h => (hw.bt h).1), d3 b (by omega)]; exact c2
    refine And.intro (by decide) (isCells_of wb5 ?_)
    simp only [putK, vops, guardK, cstep, Nat.blt]
    refine store_of wb5 _ rfl rfl (by simp) rfl ?_
    intro H6 f1 f2 f3
    refine And.intro (by decide) (isCells_of f2 ?_)
    refine rdCells_of f2 ?_
    refine ⟨_, rfl, ?_⟩
    refine Or.inl ⟨(ns.length : Int), by simp, by unfold I64; omega, ?_⟩
    have keep : ∀ i, i < H.length → i ≠ b → (0 < ns.length → i ≠ nb) → (0 < es.length → i ≠ tb) → bget H6 i = bget H i := fun i k1 k2 k3 k4 => by
      rw [f3 i k2, e3 i (by omega) k4, d3 i (by omega), c3 i k2, b3 i (by omega) k3, a3 i k1]
    refine h2 H6 H1.length H4.length ⟨?_, fun _ => ?_, fun _ => ?_, fun i hi h0 => ?_, fun _ => by omega, fun _ => ⟨by omega, by omega⟩, fun i hi h0 => ?_, fun i j hi hj h0 h0' => ?_, by simp [hln], by omega, by omega⟩ (by omega) (by omega) (by omega) (fun i hi ho => keep i hi ho.1 (fun _ => ho.2.1) (fun _ => ho.2.2.1))
    · rw [f2]; simp only [List.length_append, List.length_singleton]; rfl
    · rw [f3 _ (by omega), e3 _ (by omega) (fun h => by have := htl h; omega), d3 _ (by omega), c3 _ (by omega), b2, flatC_snoc]; rfl
    · rw [f3 _ (by omega), e2, rowVs_snoc]
    · have hi' : i < es.length := by
        rcases Nat.lt_or_ge i es.length with h | h
        · exact h
        · have : i = es.length := by simp at hi; omega
          subst this; rw [app_eq'] at h0; simp at h0
      rw [app_lt' hi'] at h0 ⊢
      have hr := hw.r i hi' h0
      have hb := hw.br i hi' h0
      rw [keep _ (bget_lt hr) hb.1 (fun _ => hb.2.1) (fun _ => hb.2.2)]; exact hr
    · have hi' : i < es.length := by
        rcases Nat.lt_or_ge i es.length with h | h
        · exact h
        · have : i = es.length := by simp at hi; omega
          subst this; rw [app_eq'] at h0; simp at h0
      rw [app_lt' hi'] at h0
      have hr := bget_lt (hw.r i hi' h0)
      have hb := hw.br i hi' h0
      exact ⟨hb.1, by omega, by omega⟩
    · have lt : ∀ i, i < (es ++ [[]]).length → 0 < (es ++ [[]])[i]!.length → i < es.length ∧ 0 < es[i]!.length := fun i hi h0 => by
        have hi' : i < es.length := by
          rcases Nat.lt_or_ge i es.length with h | h
          · exact h
          · have : i = es.length := by simp at hi; omega
            subst this; rw [app_eq'] at h0; simp at h0
        rw [app_lt' hi'] at h0
        exact ⟨hi', h0⟩
      obtain ⟨p1, p2⟩ := lt i hi h0
      obtain ⟨q1, q2⟩ := lt j hj h0'
      exact hw.rr i j p1 q1 p2 q2
end Go.Af.Tryz
namespace Go.Af.Tryz
open Go Go.Proofs
attribute [local irreducible] awp ACall ACallX AYield AInvoke

theorem l42 (xs : List Int) (z : Int) (hl : xs.length ≤ 1000000000) : ACall Tryz.prog 21 [sv 0 xs.length, .int .i64 z] [ro xs] (fun v H => v = .bool (decide (z ∈ xs)) ∧ H = [ro xs]) := by
  refine acall_vcg tok Tryz.call21 Tryz.func21 rfl Tryz.ntmps21 rfl (by simp) ?_
  refine vcg_loopR tok (fun i : Nat => i ≤ xs.length ∧ z ∉ xs.take i) (fun i => [(0, sv 0 xs.length), (1, .int .i64 z), (5, .int .i64 i)]) (fun _ => [ro xs]) (fun i => xs.length - i) 0 ⟨Nat.zero_le _, by simp⟩ ?_ ?_
  · exact Or.inl ⟨⟨rfl, rfl, rfl, trivial⟩, rfl⟩
  rintro i ⟨hi, hn⟩
  refine And.intro (fun hc => ?_) (fun hc => ?_)
  · have hlt : i < xs.length := by simpa using hc
    refine ⟨i, rfl, hlt, ?_⟩
    refine Ld_ints i xs[i]! (by simp) (by simp [hlt]) ?_
    refine And.intro (fun he => ?_) (fun he => ?_)
    · have he : xs[i]! = z := by simpa using he
      have hm : z ∈ xs := by rw [← he, getElem!_pos xs i hlt]; exact List.getElem_mem _
      exact ⟨by rw [decide_eq_true hm]; rfl, rfl⟩
    · have he : ¬ xs[i]! = z := by simpa using he
      refine Or.inl ⟨((i + 1 : Nat) : Int), by simp, by unfold I64; omega, ?_⟩
      refine ⟨i + 1, ⟨hlt, ?_⟩, by omega, Or.inl ⟨⟨rfl, rfl, rfl, trivial⟩, rfl⟩⟩
      rw [List.take_succ_eq_append_getElem hlt, List.mem_append]
      rintro (h | h)
      · exact hn h
      · simp only [List.mem_singleton] at h
        exact he (by rw [h, getElem!_pos xs i hlt])
  · have hge : ¬ i < xs.length := by simpa using hc
    rw [List.take_of_length_le (by omega)] at hn
    exact ⟨by rw [decide_eq_false hn]; rfl, rfl⟩
theorem c42 {H : List Blk} {R : Value → List Blk → Prop} {v : Value} {xs : List Int} {z : Int} (h1 : Rd H v xs) (hl : xs.length ≤ 1000000000) (h : R (.bool (decide (z ∈ xs))) H) : ACallX Tryz.prog 21 [v, .int .i64 z] H R := by
  obtain ⟨j1, s1, b1, r1⟩ := h1.ren
  exact acallx_s (l42 xs z hl) [(j1, s1)] rfl (.cons (r1 _ 0 rfl) (.cons (.int _ _) .nil)) ⟨b1 _, trivial⟩ rfl h

section
attribute [local irreducible] newSlice isCells rdCells wrCells aAppend
/-- Who waits has a lower rank. -/
def Good (rk : Int → Int → Int → Nat) (ns : List Tri) (es : List (List Int)) : Prop :=
  ∀ i, i < es.length → ∀ z ∈ es[i]!, ∃ k : Nat, z = (k : Int) ∧ k < ns.length ∧ rk ns[i]!.1 ns[i]!.2.1 ns[i]!.2.2 < rk ns[k]!.1 ns[k]!.2.1 ns[k]!.2.2
theorem Good.snoc {rk : Int → Int → Int → Nat} {ns : List Tri} {es : List (List Int)} (h : Good rk ns es) (hl : es.length = ns.length) (t : Tri) : Good rk (ns ++ [t]) (es ++ [[]]) := by
  intro i hi z hz
  rcases Nat.lt_or_ge i es.length with h1 | h1
  · rw [app_lt' h1] at hz
    obtain ⟨k, k1, k2, k3⟩ := h i h1 z hz
    exact ⟨k, k1, by simp; omega, by rw [app_lt' (by omega), app_lt' k2]; exact k3⟩
  · have : i = es.length := by simp at hi; omega
    subst this; rw [app_eq'] at hz; cases hz

/-- A row, in a block that is none of the struct's. -/
structure RdA (H : List Blk) (v : Value) (xs : List Int) (j s c : Nat) (wr : Bool) (vs : List Value) : Prop where
  v : v = .slice (some ⟨j, s, none⟩) xs.length c
  b : bget H j = some (.cells wr 1 vs)
  g : ∀ (i : Nat) (x : Int), xs[i]? = some x → vs[s + i * 1]? = some (.int .i64 x)

/-- The same, of a row that may be longer. -/
structure RdL (H : List Blk) (v : Value) (xs : List Int) (j s l c : Nat) (wr : Bool) (vs : List Value) : Prop where
  v : v = .slice (some ⟨j, s, none⟩) l c
  ll : xs.length ≤ l
  b : bget H j = some (.cells wr 1 vs)
  g : ∀ (i : Nat) (x : Int), xs[i]? = some x → vs[s + i * 1]? = some (.int .i64 x)
theorem rowVs_set {kf : Nat → Nat} {es : List (List Int)} {l k : Nat} {row : List Int} (hl : l < es.length) : setSeg (rowVs kf es) (0 + l * 1) [slV k row.length] = rowVs (fun i => if i = l then k else kf i) (es.set l row) := by
  rw [Nat.zero_add, Nat.mul_one, setSeg_one]
  unfold rowVs
  apply List.ext_getElem?
  intro i
  rw [List.getElem?_set]
  simp only [List.length_map, List.length_range, List.length_set, List.getElem?_map]
  by_cases hi : i < es.length
  · rw [List.getElem?_range hi]
    by_cases he : l = i
    · subst he
      simp [hl, hi, List.getElem?_set]
    · have : (es.set l row)[i]! = es[i]! := by
        rw [getElem!_pos _ i (by simp; exact hi), getElem!_pos es i hi, List.getElem_set_ne he]
      simp [he, Ne.symm he, this]
  · rw [List.getElem?_eq_none (by simp; omega)]
    simp; omega

theorem WAt.upd {H H' : List Blk} {b nb tb : Nat} {kf : Nat → Nat} {ns : List Tri} {es : List (List Int)} (hw : WAt H b nb tb kf ns es) {l nk : Nat} {row : List Int} (hl : l < es.length) (hll : H.length ≤ H'.length) (hnk : H.length ≤ nk) (h1 : bget H' nk = some (rw' row))
    (h2 : bget H' tb = some (.cells true 1 (rowVs (fun i => if i = l then nk else kf i) (es.set l row)))) (hk : ∀ i, i < H.length → i ≠ tb → (0 < es[l]!.length → i ≠ kf l) → bget H' i = bget H i) :
    WAt H' b nb tb (fun i => if i = l then nk else kf i) ns (es.set l row) := by
  have hln := hw.ln
  have hbt := hw.bt (by omega)
  have hbl := bget_lt hw.w
  have hnl : 0 < ns.length → nb < H.length := fun h => bget_lt (hw.n h)
  have htl : tb < H.length := bget_lt (hw.t (by omega))
  have el : ∀ i, i ≠ l → i < es.length → (es.set l row)[i]! = es[i]! := fun i hi hi2 => by
    rw [getElem!_pos _ i (by simp; exact hi2), getElem!_pos es i hi2, List.getElem_set_ne (Ne.symm hi)]
  have ee : (es.set l row)[l]! = row := by rw [getElem!_pos _ l (by simp; exact hl)]; simp
  have hrl : 0 < es[l]!.length → kf l < H.length := fun h => bget_lt (hw.r l hl h)
  refine ⟨?_, fun h => ?_, fun _ => h2, fun i hi h0 => ?_, hw.bn, fun _ => hbt, fun i hi h0 => ?_, fun i j hi hj h0 h0' hij => ?_, by simp [hln], by have := hw.nl; omega, by have := hw.tl; omega⟩
  · rw [hk b hbl hbt.1 (fun h => fun e => (hw.br l hl h).1 e.symm), List.length_set]; exact hw.w
  · rw [hk nb (hnl h) hbt.2 (fun h => fun e => (hw.br l hl h).2.1 e.symm)]; exact hw.n h
  · rw [List.length_set] at hi
    by_cases e : i = l
    · subst e; rw [if_pos rfl, ee]; exact h1
    · rw [if_neg e]
      rw [el i e hi] at h0 ⊢
      have := hw.r i hi h0
      rw [hk _ (bget_lt this) (hw.br i hi h0).2.2 (fun h => fun e2 => e (hw.rr i l hi hl h0 h e2))]; exact this
  · rw [List.length_set] at hi
    by_cases e : i = l
    · rw [if_pos e]
      exact ⟨by omega, fun e2 => by have := hnl (by omega); omega, by omega⟩
    · rw [if_neg e]
      rw [el i e hi] at h0
      exact hw.br i hi h0
  · rw [List.length_set] at hi hj
    by_cases e : i = l
    · by_cases e2 : j = l
      · omega
      · rw [if_pos e, if_neg e2] at hij
        rw [el j e2 hj] at h0'
        have := bget_lt (hw.r j hj h0')
        omega
    · by_cases e2 : j = l
      · rw [if_neg e, if_pos e2] at hij
        rw [el i e hi] at h0
        have := bget_lt (hw.r i hi h0)
        omega
      · rw [if_neg e, if_neg e2] at hij
        rw [el i e hi] at h0
        rw [el j e2 hj] at h0'
        exact hw.rr i j hi hj h0 h0' hij

theorem c56 {rk : Int → Int → Int → Nat} {H : List Blk} {b nb tb : Nat} {kf : Nat → Nat} {ns : List Tri} {es : List (List Int)} (hw : WAt H b nb tb kf ns es) (hg : Good rk ns es) (hl : ns.length ≤ 1000000000) (x y c : Int) {M : Nat} (he : ∀ i, i < es.length → es[i]!.length ≤ M) {R : Value → List Blk → Prop}
    (h : ∀ (H' : List Blk) (nb' tb' : Nat) (ns' : List Tri) (es' : List (List Int)) (k : Nat), WAt H' b nb' tb' kf ns' es' → Good rk ns' es' → ns'[k]? = some (x, y, c) → (∀ (i : Nat) (t : Tri), ns[i]? = some t → ns'[i]? = some t) → ns'.length ≤ ns.length + 1 → H.length ≤ H'.length →
      (∀ i, i < H.length → Out b nb tb kf es i → bget H' i = bget H i ∧ Out b nb' tb' kf es' i) → (∀ i, i < es'.length → es'[i]!.length ≤ M) → R (.int .i64 (k : Int)) H') :
    ACall Tryz.prog 61 [.pointer (some ⟨b, 0, none⟩), .int .i64 x, .int .i64 y, .int .i64 c] H R := by
  refine g56 hw hl x y c (fun i hi => h H nb tb ns es i hw hg hi (fun _ _ h => h) (by omega) (Nat.le_refl _) (fun i _ ho => ⟨rfl, ho⟩) he) ?_
  intro H' nb' tb' w' h1 h2 h3 h4
  have lt : ∀ i, i < (es ++ [[]]).length → 0 < (es ++ [[]])[i]!.length → i < es.length ∧ 0 < es[i]!.length := fun i hi h0 => by
    have hi' : i < es.length := by
      rcases Nat.lt_or_ge i es.length with h | h
      · exact h
      · have : i = es.length := by simp at hi; omega
        subst this; rw [app_eq'] at h0; simp at h0
    rw [app_lt' hi'] at h0
    exact ⟨hi', h0⟩
  refine h H' nb' tb' _ _ ns.length w' (hg.snoc hw.ln _) (by simp) (fun i t ht => by rw [List.getElem?_append_left (List.getElem?_eq_some_iff.1 ht).1]; exact ht) (by simp) h3 (fun i hi ho => ⟨h4 i hi ho, ho.1, by omega, by omega, fun j hj h0 => ?_⟩) (fun i hi => ?_)
  · obtain ⟨p1, p2⟩ := lt j hj h0
    exact ho.2.2.2 j p1 p2
  · rcases Nat.lt_or_ge i es.length with h5 | h5
    · rw [app_lt' h5]; exact he i h5
    · have : i = es.length := by simp at hi; omega
      subst this; rw [app_eq']; simp

/-- What the loop that notes a path keeps. -/
structure AddI (rk : Int → Int → Int → Nat) (H : List Blk) (b nb tb : Nat) (kf : Nat → Nat) (es : List (List Int)) (H' : List Blk) (nb' tb' : Nat) (kf' : Nat → Nat) (ns' : List Tri) (es' : List (List Int)) (M : Nat) : Prop where
  w : WAt H' b nb' tb' kf' ns' es'
  g : Good rk ns' es'
  l : H.length ≤ H'.length
  n : ns'.length ≤ M
  f : ∀ i, i < H.length → Out b nb tb kf es i → bget H' i = bget H i ∧ Out b nb' tb' kf' es' i
  e : ∀ i, i < es'.length → es'[i]!.length ≤ M

structure AS where
  H : List Blk
  nb : Nat
  tb : Nat
  kf : Nat → Nat
  ns : List Tri
  es : List (List Int)
  i : Nat
  last : Int




set_option maxHeartbeats 8000000 in
theorem g20 {rk : Int → Int → Int → Nat} {H : List Blk} {b nb tb : Nat} {kf : Nat → Nat} {ns : List Tri} {es : List (List Int)} (hw : WAt H b nb tb kf ns es) (hg : Good rk ns es) {v1 v2 : Value} {p q : List Int} {B M : Nat} (hu : Up rk p q B) (hM : M + p.length ≤ 1000000)
    (hn : ns.length ≤ M) (he : ∀ i, i < es.length → es[i]!.length ≤ M)
    (r1 : ∃ o c, v1 = .slice o p.length c)
    (ra : 2 ≤ p.length → ∃ j1 s1 c1 w1 vs1 j2 s2 l2 c2 w2 vs2, RdA H v1 p j1 s1 c1 w1 vs1 ∧ Out b nb tb kf es j1 ∧ RdL H v2 q j2 s2 l2 c2 w2 vs2 ∧ Out b nb tb kf es j2) {R : Value → List Blk → Prop}
    (h : ∀ (H' : List Blk) (nb' tb' : Nat) (kf' : Nat → Nat) (ns' : List Tri) (es' : List (List Int)), AddI rk H b nb tb kf es H' nb' tb' kf' ns' es' (M + p.length) → R (.tuple ⟨[]⟩) H') :
    ACall Tryz.prog 24 [.pointer (some ⟨b, 0, none⟩), v1, v2] H R := by
  obtain ⟨u1, u2, _⟩ := hu.idx
  refine acall_vcg tok Tryz.call24 Tryz.func24 rfl Tryz.ntmps24 rfl (by simp) ?_
  rcases Nat.lt_or_ge p.length 2 with h2 | h2
  · obtain ⟨o, c, rfl⟩ := r1
    refine vcg_loopR (α := Unit) tok (fun _ => True) (fun _ => [(1, .slice o p.length c), (7, .int .i64 1)]) (fun _ => H) (fun _ => 0) () trivial (Or.inl ⟨⟨rfl, rfl, trivial⟩, rfl⟩) ?_
    intro _ _
    refine And.intro (fun hc => ?_) (fun _ => ?_)
    · have : 1 < p.length := by
        have : (1 : Int) < p.length := by simpa using hc
        omega
      omega
    · exact h H nb tb kf ns es ⟨hw, hg, Nat.le_refl _, by omega, fun i _ ho => ⟨rfl, ho⟩, fun i hi => by have := he i hi; omega⟩
  obtain ⟨j1, s1, c1, wr1, vs1, j2, s2, l2, c2, wr2, vs2, ra1, ro1, ra2, ro2⟩ := ra h2
  obtain ⟨rfl, hb1, hg1⟩ := ra1
  obtain ⟨rfl, hll2, hb2, hg2'⟩ := ra2
  have hj1 := bget_lt hb1
  have hj2 := bget_lt hb2
  refine vcg_loopR (α := AS) tok (fun x => AddI rk H b nb tb kf es x.H x.nb x.tb x.kf x.ns x.es (M + (x.i - 1)) ∧ (1 ≤ x.i ∧ x.i ≤ p.length) ∧ ((x.i = 1 ∧ x.last = -1) ∨ ∃ l : Nat, 2 ≤ x.i ∧ x.last = (l : Int) ∧ x.ns[l]? = some (p[x.i - 2]!, p[x.i - 1]!, q[x.i - 2]!)))
    (fun | ⟨_, _, _, _, _, _, i, last⟩ => [(0, .pointer (some ⟨b, 0, none⟩)), (1, .slice (some ⟨j1, s1, none⟩) p.length c1), (2, .slice (some ⟨j2, s2, none⟩) l2 c2), (6, .int .i64 last), (7, .int .i64 (i : Int))]) (fun | ⟨H', _, _, _, _, _, _, _⟩ => H') (fun x => p.length - x.i)
    ⟨H, nb, tb, kf, ns, es, 1, -1⟩ ⟨⟨hw, hg, Nat.le_refl _, hn, fun i _ ho => ⟨rfl, ho⟩, he⟩, ⟨Nat.le_refl _, by simp only; omega⟩, .inl ⟨rfl, rfl⟩⟩ (Or.inl ⟨⟨rfl, rfl, rfl, rfl, rfl, trivial⟩, rfl⟩) ?_
  rintro ⟨H1, nb1, tb1, kf1, ns1, es1, i, last⟩ ⟨hI, hi, hlast⟩
  simp only at hI hi hlast
  have f1 := hI.f j1 hj1 ro1
  have f2 := hI.f j2 hj2 ro2
  rw [hb1] at f1
  rw [hb2] at f2
  have hn1 := hI.n
  refine And.intro (fun hc => ?_) (fun hc => ?_)
  · have hlt : i < p.length := by simpa using hc
    have gp : ∀ i, i < p.length → p[i]? = some p[i]! := fun i hi => by rw [getElem!_pos p i hi]; exact List.getElem?_eq_getElem _
    have gq : ∀ i, i < q.length → q[i]? = some q[i]! := fun i hi => by rw [getElem!_pos q i hi]; exact List.getElem?_eq_getElem _
    refine vcg_draw tok mx [0, 0, 0, 4, 14, 30, 0, 0, 192, 448, 0, 0, 2048, 7168, 15360, 32767, 65535] [false, false, false, false, false, false, true, true, true, true, true, true, true, true, true, false, false] [0, 1, 2, 3, 4, 5, 6, 7, 8, 9, 10, 11, 12, 13, 14, 15, 16] (by kernel_rfl) ?_
    refine vopsO_gen (fun K0 hK0 => ?_)
    refine Or.inl ⟨((i - 1 : Nat) : Int), by omega, by unfold I64; omega, ?_⟩
    refine isCells_of f1.1 ⟨i - 1, rfl, by omega, ?_⟩
    refine rdCells_of f1.1 ?_
    refine ⟨_, hg1 (i - 1) _ (gp (i - 1) (by omega)), ?_⟩
    refine isCells_of f1.1 ⟨i, rfl, by omega, ?_⟩
    refine rdCells_of f1.1 ?_
    refine ⟨_, hg1 i _ (gp i hlt), ?_⟩
    refine Or.inl ⟨((i - 1 : Nat) : Int), by omega, by unfold I64; omega, ?_⟩
    refine isCells_of f2.1 ⟨i - 1, rfl, by omega, ?_⟩
    refine rdCells_of f2.1 ?_
    refine ⟨_, hg2' (i - 1) _ (gq (i - 1) (by omega)), ?_⟩
    refine c56 hI.w hI.g (by omega) p[i - 1]! p[i]! q[i - 1]! hI.e ?_
    intro H2 nb2 tb2 ns2 es2 k hw2 hg2 hk2 hns2 hnl2 hH2 hf2 he2
    refine hK0 _ _ ?_
    clear hK0 K0
    rcases hlast with ⟨hi1, rfl⟩ | ⟨l, hi2, rfl, hl⟩
    · repeat (refine And.intro (fun h => absurd h (by decide)) (fun _ => ?_))
      refine Or.inl ⟨((i + 1 : Nat) : Int), by simp, by unfold I64; omega, ?_⟩
      refine ⟨⟨H2, nb2, tb2, kf1, ns2, es2, i + 1, (k : Int)⟩, ⟨⟨hw2, hg2, by simp only; have := hI.l; omega, by simp only; omega, fun z hz ho => ?_, fun z hz => ?_⟩, by simp only; omega, ?_⟩, by simp only; omega, Or.inl ⟨⟨rfl, rfl, rfl, rfl, rfl, trivial⟩, rfl⟩⟩
      · obtain ⟨o1, o2⟩ := hI.f z hz ho
        obtain ⟨o3, o4⟩ := hf2 z (by have := hI.l; omega) o2
        exact ⟨by rw [o3, o1], o4⟩
      · have := he2 z hz; simp only; omega
      · exact .inr ⟨k, by simp only; omega, rfl, by simp only; rw [show i + 1 - 2 = i - 1 by omega, show i + 1 - 1 = i by omega]; exact hk2⟩
    · have hl2 := hns2 l _ hl
      have hln := hw2.ln
      have hlb : l < ns2.length := (List.getElem?_eq_some_iff.1 hl2).1
      have hle : l < es2.length := by omega
      have w2 : bget H2 b = some (.cells true 1 [slV nb2 ns2.length, .slice (some ⟨tb2, 0, none⟩) es2.length es2.length]) := by
        have := hw2.w
        rw [slV_pos (k := tb2) (n := es2.length) (by omega)] at this
        exact this
      have ht2 := hw2.t (by omega)
      have hbl := bget_lt w2
      have htl := bget_lt ht2
      have hnsl : ns2[l]! = (p[i - 2]!, p[i - 1]!, q[i - 2]!) := by rw [getElem!_pos ns2 l hlb]; exact (List.getElem?_eq_some_iff.1 hl2).2
      have hnsk : ns2[k]! = (p[i - 1]!, p[i]!, q[i - 1]!) := by rw [getElem!_pos ns2 k (List.getElem?_eq_some_iff.1 hk2).1]; exact (List.getElem?_eq_some_iff.1 hk2).2
      have hlt2 : rk p[i - 2]! p[i - 1]! q[i - 2]! < rk p[i - 1]! p[i]! q[i - 1]! := by
        have := u2 (i - 2) (by omega)
        rw [show i - 2 + 1 = i - 1 by omega, show i - 2 + 2 = i by omega] at this
        exact this
      refine And.intro (fun _ => ?_) (fun h => absurd h (by simp))
      refine And.intro (fun _ => ?_) (fun h => absurd h (by simp))
      refine And.intro (fun _ => ?_) (fun h => absurd h (by simp))
      refine And.intro (by decide) (isCells_of w2 ?_)
      refine And.intro (fun _ => ?_) (fun h => absurd h (by simp))
      refine rdCells_of w2 ?_
      refine ⟨_, rfl, ?_⟩
      refine And.intro (fun _ => ?_) (fun h => absurd h (by simp))
      refine And.intro (fun _ => ?_) (fun h => absurd h (by simp))
      refine isCells_of ht2 ⟨l, rfl, hle, ?_⟩
      refine And.intro (fun _ => ?_) (fun h => absurd h (by simp))
      refine rdCells_of ht2 ?_
      refine ⟨_, (by rw [Nat.zero_add, Nat.mul_one]; exact rowVs_get hle), ?_⟩
      refine And.intro (fun _ => ?_) (fun h => absurd h (by simp))
      refine And.intro (fun _ => ?_) (fun h => absurd h (by simp))
      have hrd : Rd H2 (slV (kf1 l) es2[l]!.length) es2[l]! := by
        rcases Nat.eq_zero_or_pos es2[l]!.length with h0 | h0
        · rw [h0, List.length_eq_zero_iff.1 h0]; exact Rd.nil b w2
        · rw [slV_pos h0]; exact Rd.lit (hw2.r l hle h0) (Nat.le_refl _)
      (first | refine c42 hrd (by have := he2 l hle; omega) ?_ | refine (c42 hrd (by have := he2 l hle; omega) ?_).call)
      refine And.intro (fun _ => ?_) (fun h => absurd h (by simp))
      refine And.intro (fun hd => ?_) (fun hd => ?_)
      · refine vcg_drawT tok mx [0, 1, 3, 7, 0, 0, 32, 96, 224, 0, 992, 2016, 0, 4096, 16352, 32767, 65535] [false, false, false, true, false, false, false, false, false, true, false, false, true, true, false, false, false] (.first 0 (.first 1 (.first 2 (.first 4 (.first 5 (.first 6 (.first 7 (.first 8 (.first 9 (.first 10 (.first 11 (.first 12 (.alt 3 (.first 13 (.first 14 (.first 15 (.first 16 .done)))) (.alt 13 (.alt 3 (.first 14 (.first 15 (.first 16 .done))) (.alt 14 (.first 3 (.first 15 (.first 16 .done))) .no)) .no)))))))))))))) (by kernel_rfl) ?_
        refine vopsT_gen (fun K0 hK0 => ?_)
        refine And.intro (by decide) (isCells_of w2 ?_)
        refine And.intro (by decide) (isCells_of w2 ?_)
        refine rdCells_of w2 ?_
        refine ⟨_, rfl, ?_⟩
        refine isCells_of ht2 ⟨l, rfl, hle, ?_⟩
        refine rdCells_of ht2 ?_
        refine ⟨_, (by rw [Nat.zero_add, Nat.mul_one]; exact rowVs_get hle), ?_⟩
        refine And.intro ?_ (And.intro ?_ trivial)
        · skip
          refine rdCells_of w2 ?_
          refine ⟨_, rfl, ?_⟩
          refine And.intro (by decide) ?_
          refine newS_of fun H3 a1 a2 a3 => ?_
          have w3 : bget H3 b = some (.cells true 1 [slV nb2 ns2.length, .slice (some ⟨tb2, 0, none⟩) es2.length es2.length]) := by rw [a3 b hbl]; exact w2
          have t3 : bget H3 tb2 = some (.cells true 1 (rowVs kf1 es2)) := by rw [a3 tb2 htl]; exact ht2
          refine And.intro rfl ?_
          refine app_gen (size := 1) (bytes := 8) (by decide) a2 rfl rfl (xs := ints es2[l]!) (fun h => by rw [a3 _ (bget_lt (hw2.r l hle h))]; exact hw2.r l hle h) (by simp [ints]) (by have := he2 l hle; omega) ?_
          intro H4 b1 b2 b3
          have w4 : bget H4 b = some (.cells true 1 [slV nb2 ns2.length, .slice (some ⟨tb2, 0, none⟩) es2.length es2.length]) := by rw [b3 b (by omega) (fun h => fun e => (hw2.br l hle h).1 e.symm)]; exact w3
          have t4 : bget H4 tb2 = some (.cells true 1 (rowVs kf1 es2)) := by rw [b3 tb2 (by omega) (fun h => fun e => (hw2.br l hle h).2.2 e.symm)]; exact t3
          refine isCells_of t4 ⟨l, rfl, hle, ?_⟩
          simp only [putK, vopsT, opGet, stepQ, bAt, guardK, cstep, Nat.blt]
          refine store_of t4 (rowVs (fun i => if i = l then H3.length else kf1 i) (es2.set l (es2[l]! ++ [(k : Int)]))) rfl rfl (by rw [rowVs_len]; simp only; omega) (by have := rowVs_set (kf := kf1) (es := es2) (l := l) (k := H3.length) (row := es2[l]! ++ [(k : Int)]) hle; rw [← this, List.length_append, List.length_singleton]; rfl) ?_
          intro H5 c1 c2 c3
          refine hK0 _ _ ?_
          clear hK0 K0
          have keep : ∀ i, i < H2.length → i ≠ tb2 → (0 < es2[l]!.length → i ≠ kf1 l) → bget H5 i = bget H2 i := fun i k1 k2 k3 => by rw [c3 i k2, b3 i (by omega) k3, a3 i k1]
          have hw5 := hw2.upd (nk := H3.length) (row := es2[l]! ++ [(k : Int)]) hle (by omega) (by omega) (by rw [c3 _ (by omega), b2]; simp [ints]) c2 keep
          refine Or.inl ⟨((i + 1 : Nat) : Int), by simp, by unfold I64; omega, ?_⟩
          refine ⟨⟨H5, nb2, tb2, fun i => if i = l then H3.length else kf1 i, ns2, es2.set l (es2[l]! ++ [(k : Int)]), i + 1, (k : Int)⟩, ⟨⟨hw5, ?_, by simp only; have := hI.l; omega, by simp only; omega, fun z hz ho => ?_, fun z hz => ?_⟩, by simp only; omega, ?_⟩, by simp only; omega, Or.inl ⟨⟨rfl, rfl, rfl, rfl, rfl, trivial⟩, rfl⟩⟩
          · intro z hz u hu'
            simp only [List.length_set] at hz
            by_cases e : z = l
            · subst e
              rw [getElem!_pos _ z (by simp; exact hz)] at hu'
              simp only [List.getElem_set_self, List.mem_append, List.mem_singleton] at hu'
              rcases hu' with hu' | hu'
              · exact hg2 z hz u hu'
              · exact ⟨k, hu', (List.getElem?_eq_some_iff.1 hk2).1, by rw [hnsl, hnsk]; exact hlt2⟩
            · rw [getElem!_pos _ z (by simp; exact hz), List.getElem_set_ne (Ne.symm e), ← getElem!_pos es2 z hz] at hu'
              exact hg2 z hz u hu'
          · obtain ⟨o1, o2⟩ := hI.f z hz ho
            obtain ⟨o3, o4⟩ := hf2 z (by have := hI.l; omega) o2
            have hzl : z < H2.length := by have := hI.l; omega
            refine ⟨by show bget H5 z = _; rw [keep z hzl o4.2.2.1 (fun h => fun e => o4.2.2.2 l hle h e.symm), o3, o1], o4.1, o4.2.1, o4.2.2.1, fun y hy h0 => ?_⟩
            show (if y = l then H3.length else kf1 y) ≠ z
            replace hy : y < (es2.set l (es2[l]! ++ [(k : Int)])).length := hy
            replace h0 : 0 < (es2.set l (es2[l]! ++ [(k : Int)]))[y]!.length := h0
            rw [List.length_set] at hy
            by_cases e : y = l
            · rw [if_pos e]; omega
            · rw [if_neg e]
              rw [getElem!_pos (es2.set l (es2[l]! ++ [(k : Int)])) y (by simp; exact hy), List.getElem_set_ne (Ne.symm e), ← getElem!_pos es2 y hy] at h0
              exact o4.2.2.2 y hy h0
          · replace hz : z < (es2.set l (es2[l]! ++ [(k : Int)])).length := hz
            show (es2.set l (es2[l]! ++ [(k : Int)]))[z]!.length ≤ M + (i + 1 - 1)
            rw [List.length_set] at hz
            have := he2 z hz
            by_cases e : z = l
            · subst e
              rw [getElem!_pos (es2.set z (es2[z]! ++ [(k : Int)])) z (by simp; exact hz), List.getElem_set_self, List.length_append, List.length_singleton]; omega
            · rw [getElem!_pos (es2.set l (es2[l]! ++ [(k : Int)])) z (by simp; exact hz), List.getElem_set_ne (Ne.symm e), ← getElem!_pos es2 z hz]; omega
          · exact .inr ⟨k, by simp only; omega, rfl, by simp only; rw [show i + 1 - 2 = i - 1 by omega, show i + 1 - 1 = i by omega]; exact hk2⟩
        · skip
          refine And.intro (by decide) ?_
          refine newS_of fun H3 a1 a2 a3 => ?_
          have w3 : bget H3 b = some (.cells true 1 [slV nb2 ns2.length, .slice (some ⟨tb2, 0, none⟩) es2.length es2.length]) := by rw [a3 b hbl]; exact w2
          have t3 : bget H3 tb2 = some (.cells true 1 (rowVs kf1 es2)) := by rw [a3 tb2 htl]; exact ht2
          refine And.intro ?_ (And.intro ?_ trivial)
          · skip
            refine rdCells_of w3 ?_
            refine ⟨_, rfl, ?_⟩
            refine And.intro rfl ?_
            refine app_gen (size := 1) (bytes := 8) (by decide) a2 rfl rfl (xs := ints es2[l]!) (fun h => by rw [a3 _ (bget_lt (hw2.r l hle h))]; exact hw2.r l hle h) (by simp [ints]) (by have := he2 l hle; omega) ?_
            intro H4 b1 b2 b3
            have w4 : bget H4 b = some (.cells true 1 [slV nb2 ns2.length, .slice (some ⟨tb2, 0, none⟩) es2.length es2.length]) := by rw [b3 b (by omega) (fun h => fun e => (hw2.br l hle h).1 e.symm)]; exact w3
            have t4 : bget H4 tb2 = some (.cells true 1 (rowVs kf1 es2)) := by rw [b3 tb2 (by omega) (fun h => fun e => (hw2.br l hle h).2.2 e.symm)]; exact t3
            refine isCells_of t4 ⟨l, rfl, hle, ?_⟩
            simp only [putK, vopsT, opGet, stepQ, bAt, guardK, cstep, Nat.blt]
            refine store_of t4 (rowVs (fun i => if i = l then H3.length else kf1 i) (es2.set l (es2[l]! ++ [(k : Int)]))) rfl rfl (by rw [rowVs_len]; simp only; omega) (by have := rowVs_set (kf := kf1) (es := es2) (l := l) (k := H3.length) (row := es2[l]! ++ [(k : Int)]) hle; rw [← this, List.length_append, List.length_singleton]; rfl) ?_
            intro H5 c1 c2 c3
            refine hK0 _ _ ?_
            clear hK0 K0
            have keep : ∀ i, i < H2.length → i ≠ tb2 → (0 < es2[l]!.length → i ≠ kf1 l) → bget H5 i = bget H2 i := fun i k1 k2 k3 => by rw [c3 i k2, b3 i (by omega) k3, a3 i k1]
            have hw5 := hw2.upd (nk := H3.length) (row := es2[l]! ++ [(k : Int)]) hle (by omega) (by omega) (by rw [c3 _ (by omega), b2]; simp [ints]) c2 keep
            refine Or.inl ⟨((i + 1 : Nat) : Int), by simp, by unfold I64; omega, ?_⟩
            refine ⟨⟨H5, nb2, tb2, fun i => if i = l then H3.length else kf1 i, ns2, es2.set l (es2[l]! ++ [(k : Int)]), i + 1, (k : Int)⟩, ⟨⟨hw5, ?_, by simp only; have := hI.l; omega, by simp only; omega, fun z hz ho => ?_, fun z hz => ?_⟩, by simp only; omega, ?_⟩, by simp only; omega, Or.inl ⟨⟨rfl, rfl, rfl, rfl, rfl, trivial⟩, rfl⟩⟩
            · intro z hz u hu'
              simp only [List.length_set] at hz
              by_cases e : z = l
              · subst e
                rw [getElem!_pos _ z (by simp; exact hz)] at hu'
                simp only [List.getElem_set_self, List.mem_append, List.mem_singleton] at hu'
                rcases hu' with hu' | hu'
                · exact hg2 z hz u hu'
                · exact ⟨k, hu', (List.getElem?_eq_some_iff.1 hk2).1, by rw [hnsl, hnsk]; exact hlt2⟩
              · rw [getElem!_pos _ z (by simp; exact hz), List.getElem_set_ne (Ne.symm e), ← getElem!_pos es2 z hz] at hu'
                exact hg2 z hz u hu'
            · obtain ⟨o1, o2⟩ := hI.f z hz ho
              obtain ⟨o3, o4⟩ := hf2 z (by have := hI.l; omega) o2
              have hzl : z < H2.length := by have := hI.l; omega
              refine ⟨by show bget H5 z = _; rw [keep z hzl o4.2.2.1 (fun h => fun e => o4.2.2.2 l hle h e.symm), o3, o1], o4.1, o4.2.1, o4.2.2.1, fun y hy h0 => ?_⟩
              show (if y = l then H3.length else kf1 y) ≠ z
              replace hy : y < (es2.set l (es2[l]! ++ [(k : Int)])).length := hy
              replace h0 : 0 < (es2.set l (es2[l]! ++ [(k : Int)]))[y]!.length := h0
              rw [List.length_set] at hy
              by_cases e : y = l
              · rw [if_pos e]; omega
              · rw [if_neg e]
                rw [getElem!_pos (es2.set l (es2[l]! ++ [(k : Int)])) y (by simp; exact hy), List.getElem_set_ne (Ne.symm e), ← getElem!_pos es2 y hy] at h0
                exact o4.2.2.2 y hy h0
            · replace hz : z < (es2.set l (es2[l]! ++ [(k : Int)])).length := hz
              show (es2.set l (es2[l]! ++ [(k : Int)]))[z]!.length ≤ M + (i + 1 - 1)
              rw [List.length_set] at hz
              have := he2 z hz
              by_cases e : z = l
              · subst e
                rw [getElem!_pos (es2.set z (es2[z]! ++ [(k : Int)])) z (by simp; exact hz), List.getElem_set_self, List.length_append, List.length_singleton]; omega
              · rw [getElem!_pos (es2.set l (es2[l]! ++ [(k : Int)])) z (by simp; exact hz), List.getElem_set_ne (Ne.symm e), ← getElem!_pos es2 z hz]; omega
            · exact .inr ⟨k, by simp only; omega, rfl, by simp only; rw [show i + 1 - 2 = i - 1 by omega, show i + 1 - 1 = i by omega]; exact hk2⟩
          · skip
            refine And.intro rfl ?_
            refine app_gen (size := 1) (bytes := 8) (by decide) a2 rfl rfl (xs := ints es2[l]!) (fun h => by rw [a3 _ (bget_lt (hw2.r l hle h))]; exact hw2.r l hle h) (by simp [ints]) (by have := he2 l hle; omega) ?_
            intro H4 b1 b2 b3
            have w4 : bget H4 b = some (.cells true 1 [slV nb2 ns2.length, .slice (some ⟨tb2, 0, none⟩) es2.length es2.length]) := by rw [b3 b (by omega) (fun h => fun e => (hw2.br l hle h).1 e.symm)]; exact w3
            have t4 : bget H4 tb2 = some (.cells true 1 (rowVs kf1 es2)) := by rw [b3 tb2 (by omega) (fun h => fun e => (hw2.br l hle h).2.2 e.symm)]; exact t3
            refine rdCells_of w4 ?_
            refine ⟨_, rfl, ?_⟩
            refine isCells_of t4 ⟨l, rfl, hle, ?_⟩
            simp only [putK, vopsT, opGet, stepQ, bAt, guardK, cstep, Nat.blt]
            refine store_of t4 (rowVs (fun i => if i = l then H3.length else kf1 i) (es2.set l (es2[l]! ++ [(k : Int)]))) rfl rfl (by rw [rowVs_len]; simp only; omega) (by have := rowVs_set (kf := kf1) (es := es2) (l := l) (k := H3.length) (row := es2[l]! ++ [(k : Int)]) hle; rw [← this, List.length_append, List.length_singleton]; rfl) ?_
            intro H5 c1 c2 c3
            refine hK0 _ _ ?_
            clear hK0 K0
            have keep : ∀ i, i < H2.length → i ≠ tb2 → (0 < es2[l]!.length → i ≠ kf1 l) → bget H5 i = bget H2 i := fun i k1 k2 k3 => by rw [c3 i k2, b3 i (by omega) k3, a3 i k1]
            have hw5 := hw2.upd (nk := H3.length) (row := es2[l]! ++ [(k : Int)]) hle (by omega) (by omega) (by rw [c3 _ (by omega), b2]; simp [ints]) c2 keep
            refine Or.inl ⟨((i + 1 : Nat) : Int), by simp, by unfold I64; omega, ?_⟩
            refine ⟨⟨H5, nb2, tb2, fun i => if i = l then H3.length else kf1 i, ns2, es2.set l (es2[l]! ++ [(k : Int)]), i + 1, (k : Int)⟩, ⟨⟨hw5, ?_, by simp only; have := hI.l; omega, by simp only; omega, fun z hz ho => ?_, fun z hz => ?_⟩, by simp only; omega, ?_⟩, by simp only; omega, Or.inl ⟨⟨rfl, rfl, rfl, rfl, rfl, trivial⟩, rfl⟩⟩
            · intro z hz u hu'
              simp only [List.length_set] at hz
              by_cases e : z = l
              · subst e
                rw [getElem!_pos _ z (by simp; exact hz)] at hu'
                simp only [List.getElem_set_self, List.mem_append, List.mem_singleton] at hu'
                rcases hu' with hu' | hu'
                · exact hg2 z hz u hu'
                · exact ⟨k, hu', (List.getElem?_eq_some_iff.1 hk2).1, by rw [hnsl, hnsk]; exact hlt2⟩
              · rw [getElem!_pos _ z (by simp; exact hz), List.getElem_set_ne (Ne.symm e), ← getElem!_pos es2 z hz] at hu'
                exact hg2 z hz u hu'
            · obtain ⟨o1, o2⟩ := hI.f z hz ho
              obtain ⟨o3, o4⟩ := hf2 z (by have := hI.l; omega) o2
              have hzl : z < H2.length := by have := hI.l; omega
              refine ⟨by show bget H5 z = _; rw [keep z hzl o4.2.2.1 (fun h => fun e => o4.2.2.2 l hle h e.symm), o3, o1], o4.1, o4.2.1, o4.2.2.1, fun y hy h0 => ?_⟩
              show (if y = l then H3.length else kf1 y) ≠ z
              replace hy : y < (es2.set l (es2[l]! ++ [(k : Int)])).length := hy
              replace h0 : 0 < (es2.set l (es2[l]! ++ [(k : Int)]))[y]!.length := h0
              rw [List.length_set] at hy
              by_cases e : y = l
              · rw [if_pos e]; omega
              · rw [if_neg e]
                rw [getElem!_pos (es2.set l (es2[l]! ++ [(k : Int)])) y (by simp; exact hy), List.getElem_set_ne (Ne.symm e), ← getElem!_pos es2 y hy] at h0
                exact o4.2.2.2 y hy h0
            · replace hz : z < (es2.set l (es2[l]! ++ [(k : Int)])).length := hz
              show (es2.set l (es2[l]! ++ [(k : Int)]))[z]!.length ≤ M + (i + 1 - 1)
              rw [List.length_set] at hz
              have := he2 z hz
              by_cases e : z = l
              · subst e
                rw [getElem!_pos (es2.set z (es2[z]! ++ [(k : Int)])) z (by simp; exact hz), List.getElem_set_self, List.length_append, List.length_singleton]; omega
              · rw [getElem!_pos (es2.set l (es2[l]! ++ [(k : Int)])) z (by simp; exact hz), List.getElem_set_ne (Ne.symm e), ← getElem!_pos es2 z hz]; omega
            · exact .inr ⟨k, by simp only; omega, rfl, by simp only; rw [show i + 1 - 2 = i - 1 by omega, show i + 1 - 1 = i by omega]; exact hk2⟩
      · skip
        refine Or.inl ⟨((i + 1 : Nat) : Int), by simp, by unfold I64; omega, ?_⟩
        refine ⟨⟨H2, nb2, tb2, kf1, ns2, es2, i + 1, (k : Int)⟩, ⟨⟨hw2, hg2, by simp only; have := hI.l; omega, by simp only; omega, fun z hz ho => ?_, fun z hz => ?_⟩, by simp only; omega, ?_⟩, by simp only; omega, Or.inl ⟨⟨rfl, rfl, rfl, rfl, rfl, trivial⟩, rfl⟩⟩
        · obtain ⟨o1, o2⟩ := hI.f z hz ho
          obtain ⟨o3, o4⟩ := hf2 z (by have := hI.l; omega) o2
          exact ⟨by rw [o3, o1], o4⟩
        · have := he2 z hz; simp only; omega
        · exact .inr ⟨k, by simp only; omega, rfl, by simp only; rw [show i + 1 - 2 = i - 1 by omega, show i + 1 - 1 = i by omega]; exact hk2⟩
  · have : i = p.length := by simp at hc; omega
    subst this
    exact h H1 nb1 tb1 kf1 ns1 es1 ⟨hI.w, hI.g, hI.l, by omega, hI.f, fun i hi => by have := hI.e i hi; omega⟩
end
end Go.Af.Tryz
