/-
  The sides of a network, handed out one by one: grids.
  The sides of a dragonfly and of a fat tree, handed out one by one.
  The sides of a fat tree, handed out one by one.
  The sides of a network, whatever its kind.
  The sides as rows.
-/
import Derived.Test.YtkmhpolbhjgpoaaMG
set_option linter.all false
namespace Go.Af.Try
open Go Go.Proofs
attribute [local irreducible] awp ACall ACallX AYield AInvoke newSlice isCells rdCells wrCells aAppend

/-- A function value that tells whether a switch lies on a side; what it needs are blocks that the rounds do not change. -/
def IsSide (n : Int) (f : Int → Bool) (o : Nat → Prop) (H : List Blk) (fv : Value) : Prop :=
  ∃ g first cap, fv = .func (.func g) ⟨first⟩ ⟨cap⟩ ∧ ∀ {H2 : List Blk} {x : Int} {R : Value → List Blk → Prop}, 0 ≤ x ∧ x < n → (∀ j, j < H.length → ¬ o j → bget H2 j = bget H j) →
    (∀ H', H2.length ≤ H'.length → (∀ i, i < H2.length → bget H' i = bget H2 i) → R (.bool (f x)) H') → ACall Try.prog g (first ++ (.int .i64 x :: cap)) H2 R

/-- What the rounds over the sides are asked. -/
structure RoundsS (l N : Nat) (n : Int) (fs : List (Int → Bool)) (I : List (Int → Bool) → (Nat → Prop) → List Blk → Prop) (Z : List Blk → Prop) : Prop where
  own : ∀ {p o H}, I p o H → ∀ b, o b → b < H.length
  keep : ∀ {p o H H'}, I p o H → H.length ≤ H'.length → (∀ b, b < N ∨ o b → bget H' b = bget H b) → I p o H'
  step : ∀ {p f o H fv}, p ++ [f] <+: fs → N ≤ H.length → I p o H → IsSide n f o H fv → AYield Try.prog l [fv] H (fun v H' => (v = .bool true ∧ Upd o H H' ∧ ∃ o', I (p ++ [f]) o' H' ∧ ∀ b, o' b → o b ∨ H.length ≤ b) ∨ (v = .bool false ∧ Z H'))
theorem RoundsS.new {l N : Nat} {n : Int} {fs : List (Int → Bool)} {I : List (Int → Bool) → (Nat → Prop) → List Blk → Prop} {Z : List Blk → Prop} (h : RoundsS l N n fs I Z) {p : List (Int → Bool)} {o : Nat → Prop} {H H' : List Blk} (hi : I p o H) (hn : N ≤ H.length) (hl : H.length ≤ H'.length) (he : ∀ i, i < H.length → bget H' i = bget H i) : I p o H' :=
  h.keep hi hl (fun b hb => hb.elim (fun hb => he b (by omega)) (fun hb => he b (h.own hi b hb)))


def sidG (g : List Int) (i : Nat) (x : Int) : Bool := decide ((coords g x)[i]! < g[i]!.tdiv 2)

theorem n139 {H : List Blk} {b1 b2 b3 bg : Nat} {g : List Int} {i : Nat} {w1 w2 w3 w4 : Bool} {x : Int} (hok : (Sh.grid g).ok) (hi : i < g.length) (hx : 0 ≤ x ∧ x < (Sh.grid g).sw) (h1 : bget H b1 = some (.cells w1 1 [sv bg g.length])) (h2 : bget H b2 = some (.cells w2 1 [.int .i64 (i : Int)])) (h3 : bget H b3 = some (.cells w3 1 [.int .i64 g[i]!])) (h4 : bget H bg = some (.cells w4 1 (ints g)))
    {R : Value → List Blk → Prop} (hr : ∀ H', H.length ≤ H'.length → (∀ j, j < H.length → bget H' j = bget H j) → R (.bool (sidG g i x)) H') : ACall Try.prog 139 [.int .i64 x, pV b1, pV b2, pV b3] H R := by
  have hbd := sw_bd hok
  obtain ⟨hl1, hl2, hm, hp⟩ := hok
  have hg2 : ∀ m ∈ g, 2 ≤ m := fun m h => (hm m h).1
  have hci := coords_in hx.1 g hg2
  have hgi := hm g[i]! (by rw [getElem!_pos g i hi]; exact List.getElem_mem hi)
  refine acall_vcg tok Try.call139 Try.func139 rfl Try.ntmps139 rfl (by simp) ?_
  refine vcg_draw tok mx [0, 0, 3, 0, 15, 31, 0, 64, 255, 511] [false, true, true, true, true, true, true, true, false, false] [0, 1, 3, 6, 7, 2, 4, 5, 8, 9] (by kernel_rfl) ?_
  refine vopsO_gen (fun K0 hK0 => ?_)
  refine rdCells_of h1 ?_
  refine ⟨_, rfl, ?_⟩
  refine rdCells_of h2 ?_
  refine ⟨_, rfl, ?_⟩
  refine rdCells_of h3 ?_
  refine ⟨_, rfl, ?_⟩
  refine ⟨by decide, Or.inl ⟨g[i]!.tdiv 2, rfl, tdiv_i64 (by unfold I64; omega) (by omega), ?_⟩⟩
  (first | refine c66 hg2 (by omega) (i64_of (x := x) (by omega)) h4 ?_ | refine (c66 hg2 (by omega) (i64_of (x := x) (by omega)) h4 ?_).call)
  refine new_of fun H1 a1 a2 a3 => ?_
  refine isCells_of a2 ⟨i, rfl, hi, ?_⟩
  refine rdCells_of a2 (Ld_ints i (coords g x)[i]! (by simp) (by simp [hci.1, hi]) ?_)
  refine hK0 _ _ ?_
  exact hr H1 (by omega) a3

theorem range_pre {i n : Nat} (h : i < n) : List.range (i + 1) <+: List.range n := by
  obtain ⟨r, rfl⟩ : ∃ r, n = (i + 1) + r := ⟨n - (i + 1), by omega⟩
  exact ⟨_, (List.range_add (n := i + 1) (m := r)).symm⟩

structure GS where
  H : List Blk
  o : Nat → Prop
  i : Nat

def sidesG (g : List Int) : List (Int → Bool) := (List.range g.length).map (sidG g)

set_option maxHeartbeats 4000000 in
theorem n138 {H : List Blk} {l b1 bg : Nat} {g : List Int} {w1 w3 : Bool} (hok : (Sh.grid g).ok) {o : Nat → Prop} (h1 : Own o H b1 (.cells w1 1 [sv bg g.length])) (h3 : Own o H bg (.cells w3 1 (ints g)))
    {I : List (Int → Bool) → (Nat → Prop) → List Blk → Prop} {Z : List Blk → Prop} (hR : RoundsS l H.length (Sh.grid g).sw (sidesG g) I Z) (h0 : I [] o H) {R : List Blk → Prop} (hr : ∀ o' H', I (sidesG g) o' H' → R H') (hz : ∀ H', Z H' → R H') :
    ACall Try.prog 138 [yV l, pV b1] H (fun _ H' => R H') := by
  have hok' := hok
  obtain ⟨hl1, hl2, hm, hp⟩ := hok
  have hb1 := bget_lt h1.1
  have hb3 := bget_lt h3.1
  refine acall_vcg tok Try.call138 Try.func138 rfl Try.ntmps138 rfl (by simp) ?_
  refine rdCells_of h1.1 ?_
  refine ⟨_, rfl, ?_⟩
  generalize hna : H.length = a at *
  refine vcg_loopR (α := GS) tok (fun s => a ≤ s.H.length ∧ I ((List.range s.i).map (sidG g)) s.o s.H ∧ Own s.o s.H b1 (.cells w1 1 [sv bg g.length]) ∧ Own s.o s.H bg (.cells w3 1 (ints g)) ∧ s.i ≤ g.length)
    (fun | ⟨_, _, i⟩ => [(0, yV l), (1, pV b1), (5, sv bg g.length), (6, .int .i64 (g.length : Int)), (7, .int .i64 (i : Int))]) (fun | ⟨H', _, _⟩ => H') (fun s => g.length - s.i)
    ⟨H, o, 0⟩ ⟨by simp only; omega, h0, h1, h3, Nat.zero_le _⟩ (Or.inl ⟨⟨rfl, rfl, rfl, rfl, rfl, trivial⟩, rfl⟩) ?_
  clear h1 h3 h0
  rintro ⟨H2, o2, i⟩ ⟨hn2, hI2, k1, k3, hi⟩
  simp only at hn2 hI2 k1 k3 hi
  refine And.intro (fun hc => ?_) (fun hc => ?_)
  · have hlt : i < g.length := by simpa using hc
    have hgi := hm g[i]! (by rw [getElem!_pos g i hlt]; exact List.getElem_mem hlt)
    refine isCells_of k3.1 ⟨i, rfl, hlt, ?_⟩
    refine rdCells_of k3.1 (Ld_ints i g[i]! (by simp) (by simp [hlt]) ?_)
    refine new_of fun H3 a1 a2 a3 => ?_
    have a1 : H3.length = H2.length + 1 := a1
    have a2 : bget H3 H2.length = some (.cells true 1 [.int .i64 0]) := a2
    have a3 : ∀ j, j < H2.length → bget H3 j = bget H2 j := a3
    refine new_of fun H4 b1' b2' b3' => ?_
    have b1' : H4.length = H3.length + 1 := b1'
    simp only [putK, vops, guardK, cstep, Nat.blt]
    refine store_of ((b3' H2.length (by omega)).trans a2) [.int .i64 (i : Int)] rfl rfl (Nat.le_refl _) rfl ?_
    intro H5 c1 c2 c3
    simp only [putK, vops, guardK, cstep, Nat.blt]
    refine store_of ((c3 H3.length (by show H3.length ≠ H2.length; omega)).trans b2') [.int .i64 g[i]!] rfl rfl (Nat.le_refl _) rfl ?_
    intro H6 d1 d2 d3
    have c1 : H5.length = H4.length := c1
    have old : ∀ j, j < H2.length → bget H6 j = bget H2 j := fun j hj => (d3 j (by show j ≠ H3.length; omega)).trans ((c3 j (by show j ≠ H2.length; omega)).trans ((b3' j (by omega)).trans (a3 j hj)))
    have d2 : bget H6 H3.length = some (.cells true 1 [.int .i64 g[i]!]) := d2
    have c2 : bget H6 H2.length = some (.cells true 1 [.int .i64 (i : Int)]) := (d3 H2.length (by show H2.length ≠ H3.length; omega)).trans c2
    have hI6 := hR.new hI2 hn2 (by omega) old
    have k16 := k1.ext old
    have k36 := k3.ext old
    have hside : IsSide (Sh.grid g).sw (sidG g i) o2 H6 (.func (.func 139) ⟨[]⟩ ⟨[pV b1, pV H2.length, pV H3.length]⟩) := by
      refine ⟨139, [], [pV b1, pV H2.length, pV H3.length], rfl, ?_⟩
      intro HH x R' hx hj hr'
      exact n139 hok' hlt hx ((hj b1 (bget_lt k16.1) k16.2).trans k16.1) ((hj H2.length (by omega) (fun h => by have := hR.own hI2 _ h; omega)).trans c2) ((hj H3.length (by omega) (fun h => by have := hR.own hI2 _ h; omega)).trans d2) ((hj bg (bget_lt k36.1) k36.2).trans k36.1) hr'
    have hsn : (List.range i).map (sidG g) ++ [sidG g i] = (List.range (i + 1)).map (sidG g) := by rw [List.range_succ, List.map_append]; rfl
    have hpre : (List.range i).map (sidG g) ++ [sidG g i] <+: sidesG g := by
      rw [hsn]
      exact List.IsPrefix.map _ (range_pre hlt)
    refine (hR.step hpre (by omega) hI6 hside).mono ?_
    rintro v5 H7 (⟨rfl, u, o5, hI5, ho5⟩ | ⟨rfl, hz5⟩)
    · refine And.intro (fun h => absurd h (by decide)) (fun _ => ?_)
      rw [hsn] at hI5
      have hl5 := u.1
      refine Or.inl ⟨((i + 1 : Nat) : Int), by simp, by unfold I64; omega, ?_⟩
      exact ⟨⟨H7, o5, i + 1⟩, ⟨by simp only; omega, hI5, k16.upd u ho5, k36.upd u ho5, hlt⟩, by simp only; omega, Or.inl ⟨⟨rfl, rfl, rfl, rfl, rfl, trivial⟩, rfl⟩⟩
    · refine And.intro (fun _ => ?_) (fun h => absurd h (by decide))
      exact hz _ hz5
  · have : i = g.length := by simp at hc; omega
    subst this
    exact hr _ _ hI2
end Go.Af.Try
namespace Go.Af.Try
open Go Go.Proofs
attribute [local irreducible] awp ACall ACallX AYield AInvoke newSlice isCells rdCells wrCells aAppend





def sidFl (a g x : Int) : Bool := decide (x.tdiv a = g)
def sidesFl (a h : Int) : List (Int → Bool) := (List.range (a * h + 1).toNat).map fun g : Nat => sidFl a g

theorem n162 {H : List Blk} {b1 b2 : Nat} {a h g : Int} {w1 w2 : Bool} {x : Int} (ha : 1 ≤ a ∧ a ≤ 16) (hx : 0 ≤ x ∧ x ≤ 65536) (h1 : bget H b1 = some (.cells w1 1 [.int .i64 a, .int .i64 h])) (h2 : bget H b2 = some (.cells w2 1 [.int .i64 g]))
    {R : Value → List Blk → Prop} (hr : ∀ H', H.length ≤ H'.length → (∀ j, j < H.length → bget H' j = bget H j) → R (.bool (sidFl a g x)) H') : ACall Try.prog 162 [.int .i64 x, pV b1, pV b2] H R := by
  refine acall_vcg tok Try.call162 Try.func162 rfl Try.ntmps162 rfl (by simp) ?_
  refine vcg_draw tok mx [0, 0, 2, 7, 0, 31, 63] [false, false, false, false, true, false, false] [0, 1, 2, 3, 4, 5, 6] (by kernel_rfl) ?_
  refine vopsO_gen (fun K0 hK0 => ?_)
  refine And.intro (by decide) (isCells_of h1 ?_)
  refine rdCells_of h1 ?_
  refine ⟨_, rfl, ?_⟩
  refine ⟨by omega, Or.inl ⟨x.tdiv a, rfl, div_i64 (by unfold I64; omega) ha.1, ?_⟩⟩
  refine rdCells_of h2 ?_
  refine ⟨_, rfl, ?_⟩
  refine hK0 _ _ ?_
  exact hr H (Nat.le_refl _) (fun _ _ => rfl)

set_option maxHeartbeats 4000000 in
theorem n161 {H : List Blk} {l b1 : Nat} {a h : Int} {w1 : Bool} (hok : (Sh.fly a h).ok) {o : Nat → Prop} (h1 : Own o H b1 (.cells w1 1 [.int .i64 a, .int .i64 h]))
    {I : List (Int → Bool) → (Nat → Prop) → List Blk → Prop} {Z : List Blk → Prop} (hR : RoundsS l H.length (Sh.fly a h).sw (sidesFl a h) I Z) (h0 : I [] o H) {R : List Blk → Prop} (hr : ∀ o' H', I (sidesFl a h) o' H' → R H') (hz : ∀ H', Z H' → R H') :
    ACall Try.prog 161 [yV l, pV b1] H (fun _ H' => R H') := by
  have hbd := sw_bd hok
  obtain ⟨ha, hh, _⟩ := hok
  have hah := mulb (a := a) (b := h) (A := 16) (B := 4) (by omega) (by omega) (by omega) (by omega)
  refine acall_vcg tok Try.call161 Try.func161 rfl Try.ntmps161 rfl (by simp) ?_
  refine rdCells_of h1.1 ?_
  refine ⟨_, rfl, _, rfl, ?_⟩
  (first | refine c151 a h ha hh ?_ | refine (c151 a h ha hh ?_).call)
  obtain ⟨M, hM⟩ : ∃ M : Nat, a * h + 1 = M := ⟨(a * h + 1).toNat, by omega⟩
  unfold sidesFl at hR hr
  rw [hM, Int.toNat_natCast] at hR hr
  rw [hM]
  generalize hna : H.length = d at *
  refine vcg_loopR (α := GS) tok (fun s => d ≤ s.H.length ∧ I ((List.range s.i).map fun g : Nat => sidFl a g) s.o s.H ∧ Own s.o s.H b1 (.cells w1 1 [.int .i64 a, .int .i64 h]) ∧ s.i ≤ M)
    (fun | ⟨_, _, i⟩ => [(0, yV l), (1, pV b1), (5, .int .i64 (M : Int)), (6, .int .i64 (i : Int))]) (fun | ⟨H', _, _⟩ => H') (fun s => M - s.i)
    ⟨H, o, 0⟩ ⟨by simp only; omega, h0, h1, Nat.zero_le _⟩ (Or.inl ⟨⟨rfl, rfl, rfl, rfl, trivial⟩, rfl⟩) ?_
  clear h1 h0
  rintro ⟨H2, o2, i⟩ ⟨hn2, hI2, k1, hi⟩
  simp only at hn2 hI2 k1 hi
  refine And.intro (fun hc => ?_) (fun hc => ?_)
  · have hlt : i < M := by simpa using hc
    refine new_of fun H3 a1 a2 a3 => ?_
    have a1 : H3.length = H2.length + 1 := a1
    have a3 : ∀ j, j < H2.length → bget H3 j = bget H2 j := a3
    simp only [putK, vops, guardK, cstep, Nat.blt]
    refine store_of a2 [.int .i64 (i : Int)] rfl rfl (Nat.le_refl _) rfl ?_
    intro H6 c1 c2 c3
    have old : ∀ j, j < H2.length → bget H6 j = bget H2 j := fun j hj => (c3 j (by show j ≠ H2.length; omega)).trans (a3 j hj)
    have c2 : bget H6 H2.length = some (.cells true 1 [.int .i64 (i : Int)]) := c2
    have hI6 := hR.new hI2 hn2 (by omega) old
    have k16 := k1.ext old
    have hside : IsSide (Sh.fly a h).sw (sidFl a i) o2 H6 (.func (.func 162) ⟨[]⟩ ⟨[pV b1, pV H2.length]⟩) := by
      refine ⟨162, [], [pV b1, pV H2.length], rfl, ?_⟩
      intro HH x R' hx hj hr'
      exact n162 ha (by omega) ((hj b1 (bget_lt k16.1) k16.2).trans k16.1) ((hj H2.length (by omega) (fun h => by have := hR.own hI2 _ h; omega)).trans c2) hr'
    have hsn : ((List.range i).map fun g : Nat => sidFl a g) ++ [sidFl a i] = (List.range (i + 1)).map fun g : Nat => sidFl a g := by rw [List.range_succ, List.map_append]; rfl
    have hpre : ((List.range i).map fun g : Nat => sidFl a g) ++ [sidFl a i] <+: (List.range M).map fun g : Nat => sidFl a g := by
      rw [hsn]
      exact List.IsPrefix.map _ (range_pre hlt)
    refine (hR.step hpre (by omega) hI6 hside).mono ?_
    rintro v5 H7 (⟨rfl, u, o5, hI5, ho5⟩ | ⟨rfl, hz5⟩)
    · refine And.intro (fun h => absurd h (by decide)) (fun _ => ?_)
      rw [hsn] at hI5
      have hl5 := u.1
      refine Or.inl ⟨((i + 1 : Nat) : Int), by simp, by unfold I64; omega, ?_⟩
      exact ⟨⟨H7, o5, i + 1⟩, ⟨by simp only; omega, hI5, k16.upd u ho5, hlt⟩, by simp only; omega, Or.inl ⟨⟨rfl, rfl, rfl, rfl, trivial⟩, rfl⟩⟩
    · refine And.intro (fun _ => ?_) (fun h => absurd h (by decide))
      exact hz _ hz5
  · have : i = M := by simp at hc; omega
    subst this
    exact hr _ _ hI2
end Go.Af.Try
namespace Go.Af.Try
open Go Go.Proofs
attribute [local irreducible] awp ACall ACallX AYield AInvoke newSlice isCells rdCells wrCells aAppend





/-- The switches below a level that begin with v. -/
def sidFa (k : Int) (N dn : Nat) (v x : Int) : Bool := decide (x.tdiv (k ^ N) < ((dn + 1 : Nat) : Int)) && decide ((x.tmod (k ^ N)).tdiv (k ^ dn) = v)
def lvlFa (k : Int) (N j : Nat) (m : Nat) : List (Int → Bool) := (List.range m).map fun v : Nat => sidFa k N (N - 1 - j) v
def preFa (k : Int) (N : Nat) : Nat → List (Int → Bool)
  | 0 => []
  | j + 1 => preFa k N j ++ lvlFa k N j (k ^ (j + 1)).toNat
theorem preFa_pre {k : Int} {N j : Nat} : ∀ {n : Nat}, j ≤ n → preFa k N j <+: preFa k N n
  | 0, h => by have : j = 0 := by omega
               subst this; exact List.prefix_refl _
  | n + 1, h => by
    rcases Nat.lt_or_ge j (n + 1) with h1 | h1
    · exact (preFa_pre (by omega)).trans (List.prefix_append _ _)
    · have : j = n + 1 := by omega
      subst this; exact List.prefix_refl _

theorem n150 {H : List Blk} {b1 b2 b3 : Nat} {k n v : Int} {N dn : Nat} {w1 w2 w3 : Bool} {x : Int} (hk : 2 ≤ k ∧ k ≤ 8) (hn : 1 ≤ n ∧ n ≤ 4) (hN : (n - 1).toNat = N) (hd : dn < N) (hx : 0 ≤ x ∧ x ≤ 65536) (h1 : bget H b1 = some (.cells w1 1 [.int .i64 k, .int .i64 n])) (h2 : bget H b2 = some (.cells w2 1 [.int .i64 ((dn + 1 : Nat) : Int)])) (h3 : bget H b3 = some (.cells w3 1 [.int .i64 v]))
    {R : Value → List Blk → Prop} (hr : ∀ H', H.length ≤ H'.length → (∀ j, j < H.length → bget H' j = bget H j) → R (.bool (sidFa k N dn v x)) H') : ACall Try.prog 150 [.int .i64 x, pV b1, pV b2, pV b3] H R := by
  have hW := pow_ok hk (l := N) (by omega)
  have hP := pow_ok hk (l := dn) (by omega)
  have hw0 : 0 ≤ x.tmod (k ^ N) := Int.tmod_nonneg _ hx.1
  have hw1 : x.tmod (k ^ N) < k ^ N := Int.tmod_lt_of_pos _ (by omega)
  refine acall_vcg tok Try.call150 Try.func150 rfl Try.ntmps150 rfl (by simp) ?_
  refine rdCells_of h1 ?_
  refine ⟨_, rfl, _, rfl, ?_⟩
  (first | refine c142 (x := x) hk hn (by unfold I64; omega) ?_ | refine (c142 (x := x) hk hn (by unfold I64; omega) ?_).call)
  rw [hN]
  refine new_of fun H1 a1 a2 a3 => ?_
  have k1 := (a3 b1 (bget_lt h1)).trans h1
  have k2 := (a3 b2 (bget_lt h2)).trans h2
  have k3 := (a3 b3 (bget_lt h3)).trans h3
  have hr := hr H1 (by omega) a3
  unfold sidFa at hr
  generalize x.tdiv (k ^ N) = ln at *
  generalize x.tmod (k ^ N) = w at *
  refine vcg_draw tok mx [0, 1, 3, 0, 15, 31, 63, 127, 255, 63, 575, 63, 2111, 7743, 16383, 63, 65535, 131071, 262143] [false, false, false, true, false, false, false, false, false, true, true, true, true, true, true, true, false, false, false] [0, 1, 2, 3, 4, 5, 6, 7, 8, 9, 10, 11, 12, 15, 13, 14, 16, 17, 18] (by kernel_rfl) ?_
  refine vopsO_gen (fun K0 hK0 => ?_)
  refine isCells_of a2 ⟨0, rfl, by decide, ?_⟩
  refine rdCells_of a2 (Ld_ints 0 ln (by simp) rfl ?_)
  refine rdCells_of k2 ?_
  refine ⟨_, rfl, ?_⟩
  refine And.intro (fun hg => ?_) (fun hg => ?_)
  · rw [hg] at hr
    refine And.intro (fun _ => ?_) (fun h => absurd h (by decide))
    refine isCells_of a2 ⟨1, rfl, by decide, ?_⟩
    refine And.intro (fun _ => ?_) (fun h => absurd h (by decide))
    refine rdCells_of a2 (Ld_ints 1 w (by simp) rfl ?_)
    refine And.intro (fun _ => ?_) (fun h => absurd h (by decide))
    refine And.intro (by decide) (isCells_of k1 ?_)
    refine And.intro (fun _ => ?_) (fun h => absurd h (by decide))
    refine rdCells_of k1 ?_
    refine ⟨_, rfl, ?_⟩
    refine And.intro (fun _ => ?_) (fun h => absurd h (by decide))
    refine rdCells_of k2 ?_
    refine ⟨_, rfl, ?_⟩
    refine And.intro (fun _ => ?_) (fun h => absurd h (by decide))
    refine Or.inl ⟨(dn : Int), by simp, by unfold I64; omega, ?_⟩
    refine And.intro (fun _ => ?_) (fun h => absurd h (by decide))
    refine rdCells_of k3 ?_
    refine ⟨_, rfl, ?_⟩
    refine And.intro (fun _ => ?_) (fun h => absurd h (by decide))
    (first | refine x82 hk (l := dn) (by omega) ?_ | refine (x82 hk (l := dn) (by omega) ?_).call)
    refine And.intro (fun _ => ?_) (fun h => absurd h (by decide))
    refine ⟨by omega, Or.inl ⟨w.tdiv (k ^ dn), rfl, div_i64 (by unfold I64; omega) (by omega), ?_⟩⟩
    refine And.intro (fun _ => ?_) (fun h => absurd h (by decide))
    refine hK0 _ _ ?_
    exact hr
  · rw [hg] at hr
    repeat refine And.intro (fun h => absurd h (by decide)) (fun _ => ?_)
    refine hK0 _ _ ?_
    exact hr

structure TS where
  H : List Blk
  o : Nat → Prop
  tb : Nat
  i : Nat

set_option maxHeartbeats 4000000 in
theorem n149 {H : List Blk} {l b1 : Nat} {k n : Int} {N : Nat} {w1 : Bool} (hok : (Sh.fat k n).ok) (hN : (n - 1).toNat = N) {o : Nat → Prop} (h1 : Own o H b1 (.cells w1 1 [.int .i64 k, .int .i64 n]))
    {I : List (Int → Bool) → (Nat → Prop) → List Blk → Prop} {Z : List Blk → Prop} (hR : RoundsS l H.length (Sh.fat k n).sw (preFa k N N) I Z) (h0 : I [] o H) {R : List Blk → Prop} (hr : ∀ o' H', I (preFa k N N) o' H' → R H') (hz : ∀ H', Z H' → R H') :
    ACall Try.prog 149 [yV l, pV b1] H (fun _ H' => R H') := by
  have hbd := sw_bd hok
  obtain ⟨hk, hn, _⟩ := hok
  have hb1 := bget_lt h1.1
  refine acall_vcg tok Try.call149 Try.func149 rfl Try.ntmps149 rfl (by simp) ?_
  refine And.intro (by decide) (isCells_of h1.1 ?_)
  refine rdCells_of h1.1 ?_
  refine ⟨_, rfl, ?_⟩
  refine Or.inl ⟨(N : Int), by omega, by unfold I64; omega, ?_⟩
  refine new_of fun H1 a1 a2 a3 => ?_
  simp only [putK, vops, guardK, cstep, Nat.blt]
  refine store_of a2 [.int .i64 (N : Int)] rfl rfl (Nat.le_refl _) rfl ?_
  intro H2 c1 c2 c3
  have a3 : ∀ j, j < H.length → bget H1 j = bget H j := a3
  have old : ∀ j, j < H.length → bget H2 j = bget H j := fun j hj => (c3 j (by show j ≠ H.length; omega)).trans (a3 j hj)
  have hl2 : H2.length = H.length + 1 := c1.trans a1
  have hI2 := hR.new h0 (Nat.le_refl _) (by omega) old
  have k1 := h1.ext old
  have kt : Own o H2 H.length (.cells true 1 [.int .i64 (N : Int)]) := ⟨c2, fun h => by have := hR.own h0 _ h; omega⟩
  clear h1 h0 a2 a3 c2 c3 old
  have hn0 : H.length ≤ H2.length := by omega
  have hge : H.length ≤ H.length := Nat.le_refl _
  generalize hna : H.length = a at *
  refine vcg_loopR (α := TS) tok (fun s => a ≤ s.H.length ∧ a ≤ s.tb ∧ I (preFa k N s.i) s.o s.H ∧ Own s.o s.H b1 (.cells w1 1 [.int .i64 k, .int .i64 n]) ∧ Own s.o s.H s.tb (.cells true 1 [.int .i64 ((N : Int) - s.i)]) ∧ s.i ≤ N)
    (fun | ⟨_, _, tb, _⟩ => [(0, yV l), (1, pV b1), (3, pV tb)]) (fun | ⟨H', _, _, _⟩ => H') (fun s => N - s.i)
    ⟨H2, o, a, 0⟩ ⟨hn0, Nat.le_refl _, hI2, k1, by simpa using kt, Nat.zero_le _⟩ (Or.inl ⟨⟨rfl, rfl, rfl, trivial⟩, rfl⟩) ?_
  clear k1 kt hI2 hn0 hl2 c1 a1
  rintro ⟨H3, o3, tb, j⟩ ⟨hn3, htb, hI3, k1, kt, hj⟩
  simp only at hn3 htb hI3 k1 kt hj
  refine rdCells_of kt.1 ?_
  refine ⟨_, rfl, ?_⟩
  refine And.intro (fun hc => ?_) (fun hc => ?_)
  · have hlt : j < N := by simp at hc; omega
    have hpw := pow_ok hk (l := j + 1) (by omega)
    refine And.intro (by decide) (isCells_of k1.1 ?_)
    refine rdCells_of k1.1 ?_
    refine ⟨_, rfl, ?_⟩
    refine And.intro (by decide) (isCells_of k1.1 ?_)
    refine rdCells_of k1.1 ?_
    refine ⟨_, rfl, ?_⟩
    refine rdCells_of kt.1 ?_
    refine ⟨_, rfl, ?_⟩
    refine Or.inl ⟨((j + 1 : Nat) : Int), by omega, by unfold I64; omega, ?_⟩
    (first | refine x82 hk (l := j + 1) (by omega) ?_ | refine (x82 hk (l := j + 1) (by omega) ?_).call)
    obtain ⟨M, hM⟩ : ∃ M : Nat, k ^ (j + 1) = M := ⟨(k ^ (j + 1)).toNat, by omega⟩
    rw [hM]
    have hval : (N : Int) - j = ((N - 1 - j + 1 : Nat) : Int) := by omega
    rw [hval] at kt
    refine vcg_loopR (α := GS) tok (fun s => a ≤ s.H.length ∧ I (preFa k N j ++ lvlFa k N j s.i) s.o s.H ∧ Own s.o s.H b1 (.cells w1 1 [.int .i64 k, .int .i64 n]) ∧ Own s.o s.H tb (.cells true 1 [.int .i64 ((N - 1 - j + 1 : Nat) : Int)]) ∧ s.i ≤ M)
      (fun | ⟨_, _, i⟩ => [(0, yV l), (1, pV b1), (3, pV tb), (18, .int .i64 (M : Int)), (19, .int .i64 (i : Int))]) (fun | ⟨H', _, _⟩ => H') (fun s => M - s.i)
      ⟨H3, o3, 0⟩ ⟨hn3, by simpa [lvlFa] using hI3, k1, kt, Nat.zero_le _⟩ (Or.inl ⟨⟨rfl, rfl, rfl, rfl, rfl, trivial⟩, rfl⟩) ?_
    clear k1 kt hI3 hn3
    rintro ⟨H4, o4, v⟩ ⟨hn4, hI4, k1, kt, hv⟩
    simp only at hn4 hI4 k1 kt hv
    refine And.intro (fun hc => ?_) (fun hc => ?_)
    · have hlv : v < M := by simpa using hc
      refine new_of fun H5 a1 a2 a3 => ?_
      have a1 : H5.length = H4.length + 1 := a1
      have a3 : ∀ j, j < H4.length → bget H5 j = bget H4 j := a3
      simp only [putK, vops, guardK, cstep, Nat.blt]
      refine store_of a2 [.int .i64 (v : Int)] rfl rfl (Nat.le_refl _) rfl ?_
      intro H6 c1 c2 c3
      have old : ∀ j, j < H4.length → bget H6 j = bget H4 j := fun j hj => (c3 j (by show j ≠ H4.length; omega)).trans (a3 j hj)
      have c2 : bget H6 H4.length = some (.cells true 1 [.int .i64 (v : Int)]) := c2
      have hI6 := hR.new hI4 hn4 (by omega) old
      have k16 := k1.ext old
      have kt6 := kt.ext old
      have hside : IsSide (Sh.fat k n).sw (sidFa k N (N - 1 - j) v) o4 H6 (.func (.func 150) ⟨[]⟩ ⟨[pV b1, pV tb, pV H4.length]⟩) := by
        refine ⟨150, [], [pV b1, pV tb, pV H4.length], rfl, ?_⟩
        intro HH x R' hx hj hr'
        exact n150 hk hn hN (by omega) (by omega) ((hj b1 (bget_lt k16.1) k16.2).trans k16.1) ((hj tb (bget_lt kt6.1) kt6.2).trans kt6.1) ((hj H4.length (by omega) (fun h => by have := hR.own hI4 _ h; omega)).trans c2) hr'
      have hsn : lvlFa k N j v ++ [sidFa k N (N - 1 - j) v] = lvlFa k N j (v + 1) := by simp only [lvlFa]; rw [List.range_succ, List.map_append]; rfl
      have hpre : (preFa k N j ++ lvlFa k N j v) ++ [sidFa k N (N - 1 - j) v] <+: preFa k N N := by
        rw [List.append_assoc, hsn]
        refine List.IsPrefix.trans ?_ (preFa_pre (j := j + 1) hlt)
        simp only [preFa]
        rw [List.prefix_append_right_inj, hM, Int.toNat_natCast]
        exact List.IsPrefix.map _ (range_pre hlv)
      refine (hR.step hpre (by omega) hI6 hside).mono ?_
      rintro v5 H7 (⟨rfl, u, o5, hI5, ho5⟩ | ⟨rfl, hz5⟩)
      · refine And.intro (fun h => absurd h (by decide)) (fun _ => ?_)
        rw [List.append_assoc, hsn] at hI5
        have hl5 := u.1
        refine Or.inl ⟨((v + 1 : Nat) : Int), by simp, by unfold I64; omega, ?_⟩
        exact ⟨⟨H7, o5, v + 1⟩, ⟨by simp only; omega, hI5, k16.upd u ho5, kt6.upd u ho5, hlv⟩, by simp only; omega, Or.inl ⟨⟨rfl, rfl, rfl, rfl, rfl, trivial⟩, rfl⟩⟩
      · refine And.intro (fun _ => ?_) (fun h => absurd h (by decide))
        exact hz _ hz5
    · have : v = M := by simp at hc; omega
      subst this
      have hI4 : I (preFa k N (j + 1)) o4 H4 := by simp only [preFa]; rw [hM, Int.toNat_natCast]; exact hI4
      refine rdCells_of kt.1 ?_
      refine ⟨_, rfl, ?_⟩
      refine new_of fun H5 a1 a2 a3 => ?_
      have a1 : H5.length = H4.length + 1 := a1
      have a3 : ∀ j, j < H4.length → bget H5 j = bget H4 j := a3
      simp only [putK, vops, guardK, cstep, Nat.blt]
      refine store_of a2 [.int .i64 ((N - 1 - j + 1 : Nat) : Int)] rfl rfl (Nat.le_refl _) rfl ?_
      intro H6 c1 c2 c3
      have c2 : bget H6 H4.length = some (.cells true 1 [.int .i64 ((N - 1 - j + 1 : Nat) : Int)]) := c2
      refine rdCells_of c2 ?_
      refine ⟨_, rfl, ?_⟩
      refine Or.inl ⟨(N : Int) - (j + 1 : Nat), by omega, by unfold I64; omega, ?_⟩
      simp only [putK, vops, guardK, cstep, Nat.blt]
      refine store_of c2 [.int .i64 ((N : Int) - (j + 1 : Nat))] rfl rfl (Nat.le_refl _) rfl ?_
      intro H7 d1 d2 d3
      have c1 : H6.length = H5.length := c1
      have old : ∀ j, j < H4.length → bget H7 j = bget H4 j := fun j hj => (d3 j (by show j ≠ H4.length; omega)).trans ((c3 j (by show j ≠ H4.length; omega)).trans (a3 j hj))
      have hl7 : H7.length = H4.length + 1 := by have : H7.length = H6.length := d1; omega
      have hI7 : I (preFa k N (j + 1)) o4 H7 := hR.new hI4 hn4 (by omega) old
      have hno : ¬ o4 H4.length := fun h => by have := hR.own hI4 _ h; omega
      exact ⟨⟨H7, o4, H4.length, j + 1⟩, ⟨by simp only; omega, hn4, hI7, k1.ext old, ⟨d2, hno⟩, hlt⟩, by simp only; omega, Or.inl ⟨⟨rfl, rfl, rfl, trivial⟩, rfl⟩⟩
  · have : j = N := by simp at hc; omega
    subst this
    exact hr _ _ hI3
end Go.Af.Try
namespace Go.Af.Try
open Go Go.Proofs
attribute [local irreducible] awp ACall ACallX AYield AInvoke newSlice isCells rdCells wrCells aAppend

def Sh.sides (s : Sh) : List (Int → Bool) :=
  match s with
  | .grid g => sidesG g
  | .fat k n => preFa k (n - 1).toNat (n - 1).toNat
  | .fly a h => sidesFl a h

/-- A function value that hands out the sides; what it needs lies in the blocks from N0 on, and in the row of the shape. -/
def SidesV (s : Sh) (N0 bg : Nat) (H1 : List Blk) (fv : Value) : Prop :=
  ∃ g first captured, fv = .func (.func g) ⟨first⟩ ⟨captured⟩ ∧
    ∀ {H2 : List Blk} {l : Nat} {o : Nat → Prop} {I : List (Int → Bool) → (Nat → Prop) → List Blk → Prop} {Z R : List Blk → Prop}, (∀ j, j = bg ∨ (N0 ≤ j ∧ j < H1.length) → ¬ o j ∧ bget H2 j = bget H1 j) →
      RoundsS l H2.length s.sw s.sides I Z → I [] o H2 → (∀ o' H', I s.sides o' H' → R H') → (∀ H', Z H' → R H') → ACall Try.prog g (first ++ (yV l :: captured)) H2 (fun _ H' => R H')

theorem m134 {H : List Blk} {R : Value → List Blk → Prop} {g : List Int} {bg : Nat} {wr : Bool} (hok : (Sh.grid g).ok) (hb : bget H bg = some (.cells wr 1 (ints g)))
    (h : ∀ fv H', SidesV (.grid g) H.length bg H' fv → H'.length = H.length + 1 → (∀ i, i < H.length → bget H' i = bget H i) → R fv H') : ACall Try.prog 134 [sv bg g.length] H R := by
  refine acall_vcg tok Try.call134 Try.func134 rfl Try.ntmps134 rfl (by simp) ?_
  refine new_of fun H1 a1 a2 a3 => ?_
  have a1 : H1.length = H.length + 1 := a1
  refine h _ _ ⟨138, [], [pV H.length], rfl, ?_⟩ (by omega) (fun i hi => a3 i hi)
  intro H3 l o I Z R' hj hR h0 hr hz
  have o1 := hj H.length (.inr ⟨Nat.le_refl _, by omega⟩)
  have o3 := hj bg (.inl rfl)
  have hbl := bget_lt hb
  exact n138 hok ⟨o1.2.trans a2, o1.1⟩ ⟨o3.2.trans ((a3 bg hbl).trans hb), o3.1⟩ hR h0 hr hz
theorem m144 {H : List Blk} {R : Value → List Blk → Prop} {k n : Int} {bg : Nat} (hok : (Sh.fat k n).ok)
    (h : ∀ fv H', SidesV (.fat k n) H.length bg H' fv → H'.length = H.length + 1 → (∀ i, i < H.length → bget H' i = bget H i) → R fv H') : ACall Try.prog 144 [twoV k n] H R := by
  refine acall_vcg tok Try.call144 Try.func144 rfl Try.ntmps144 rfl (by simp) ?_
  refine new_of fun H1 a1 a2 a3 => ?_
  have a1 : H1.length = H.length + 1 := a1
  refine h _ _ ⟨149, [], [pV H.length], rfl, ?_⟩ (by omega) (fun i hi => a3 i hi)
  intro H3 l o I Z R' hj hR h0 hr hz
  have o1 := hj H.length (.inr ⟨Nat.le_refl _, by omega⟩)
  exact n149 hok rfl ⟨o1.2.trans a2, o1.1⟩ hR h0 hr hz

theorem m156 {H : List Blk} {R : Value → List Blk → Prop} {a e : Int} {bg : Nat} (hok : (Sh.fly a e).ok)
    (h : ∀ fv H', SidesV (.fly a e) H.length bg H' fv → H'.length = H.length + 1 → (∀ i, i < H.length → bget H' i = bget H i) → R fv H') : ACall Try.prog 156 [twoV a e] H R := by
  refine acall_vcg tok Try.call156 Try.func156 rfl Try.ntmps156 rfl (by simp) ?_
  refine new_of fun H1 a1 a2 a3 => ?_
  have a1 : H1.length = H.length + 1 := a1
  refine h _ _ ⟨161, [], [pV H.length], rfl, ?_⟩ (by omega) (fun i hi => a3 i hi)
  intro H3 l o I Z R' hj hR h0 hr hz
  have o1 := hj H.length (.inr ⟨Nat.le_refl _, by omega⟩)
  exact n161 hok ⟨o1.2.trans a2, o1.1⟩ hR h0 hr hz

theorem me_sides_grid (v : Value) (w : World) : (method (Try.prog.types.size + Made.depth) 106 v "armada/net.sides").run Try.prog w = .ok (134, v) w := by kernel_rfl
theorem me_sides_fat (v : Value) (w : World) : (method (Try.prog.types.size + Made.depth) 120 v "armada/net.sides").run Try.prog w = .ok (144, v) w := by kernel_rfl
theorem me_sides_fly (v : Value) (w : World) : (method (Try.prog.types.size + Made.depth) 122 v "armada/net.sides").run Try.prog w = .ok (156, v) w := by kernel_rfl
theorem x_sides {H : List Blk} {R : Value → List Blk → Prop} {s : Sh} {b n : Nat} (hs : s.ok) (ha : s.at H b n)
    (h : ∀ fv H', SidesV s H.length b H' fv → H'.length = H.length + 1 → (∀ i, i < H.length → bget H' i = bget H i) → R fv H') : AInvoke Try.prog (shT s) (shU (sv b n) s) "armada/net.sides" [] H R := by
  unfold AInvoke
  cases s with
  | grid g =>
    obtain ⟨rfl, wr, hb⟩ := ha
    exact ⟨134, me_sides_grid, m134 hs hb h⟩
  | fat k n => exact ⟨144, me_sides_fat, m144 hs h⟩
  | fly k n => exact ⟨156, me_sides_fly, m156 hs h⟩
end Go.Af.Try
namespace Go.Af.Try
open Go Go.Proofs
attribute [local irreducible] awp ACall ACallX AYield AInvoke newSlice isCells rdCells wrCells aAppend rangeEnd roundBegin roundEnd


def tabF (f : Int → Bool) (n : Nat) : List Bool := (List.range n).map fun x : Nat => f x
/-- The rows' headers. -/
def rowsB (kf : Nat → Nat) (n K : Nat) : List Value := (List.range K).map fun i => sv (kf i) n
theorem rowsB_len (kf : Nat → Nat) (n K : Nat) : (rowsB kf n K).length = K := by simp [rowsB]

theorem rowsB_snoc (kf : Nat → Nat) (n K row : Nat) : rowsB (fun z => if z = K then row else kf z) n (K + 1) = rowsB kf n K ++ [sv row n] := by
  unfold rowsB
  rw [List.range_succ, List.map_append]
  congr 1
  · refine List.map_congr_left fun z hz => ?_
    have hz := List.mem_range.1 hz
    simp only
    rw [if_neg (by omega)]
  · simp
/-- What the rounds keep. -/
structure SdI (s : Sh) (n lr ob fb sb b : Nat) (L : Blk) (sides : List Int) (wr : Bool) (p : List (Int → Bool)) (o : Nat → Prop) (H : List Blk) (tb : Nat) (kf : Nat → Nat) : Prop where
  oo : ∀ j, o j ↔ (j = lr ∨ j = ob ∨ (0 < p.length ∧ j = tb) ∨ ∃ i, i < p.length ∧ j = kf i)
  hl : lr < H.length
  rl : bget H lr = some L
  ro : bget H ob = some (.cells true 1 [slV tb p.length])
  rf : bget H fb = some (.cells true 1 [shV (sv b sides.length) s])
  rb : bget H b = some (.cells wr 1 (ints sides))
  rt : 0 < p.length → bget H tb = some (.cells true 1 (rowsB kf n p.length))
  rr : ∀ i (hi : i < p.length), bget H (kf i) = some (.cells true 1 (bls (tabF p[i] n)))
  lt : 0 < p.length → lr < tb ∧ tb < H.length
  lk : ∀ i, i < p.length → lr < kf i
  tk : ∀ i, i < p.length → kf i ≠ tb

structure BS where
  H : List Blk
  gs : List Bool
  i : Nat
theorem bls_set {gs : List Bool} {i : Nat} {v : Bool} : setSeg (bls gs) (0 + i * 1) (cellsL (.bool v)) = bls (gs.set i v) := by
  rw [Nat.zero_add, Nat.mul_one]
  show (bls gs).set i (.bool v) = _
  simp [bls, List.map_set]

set_option maxHeartbeats 4000000 in
theorem g31 {H : List Blk} {R : Value → List Blk → Prop} {b : Nat} {wr : Bool} {kind hosts : Int} {sides : List Int} {s : Sh} {n : Nat} (hs : shapeF kind sides hosts = some s) (hn : s.sw = n) (hsl : s.sides.length ≤ 1000000) (hb : bget H b = some (.cells wr 1 (ints sides)))
    (h : ∀ H' tb kf, H.length ≤ H'.length → (∀ i, i < H.length → bget H' i = bget H i) → (0 < s.sides.length → bget H' tb = some (.cells true 1 (rowsB kf n s.sides.length))) → (∀ i (hi : i < s.sides.length), bget H' (kf i) = some (.cells true 1 (bls (tabF s.sides[i] n)))) → R (.tuple ⟨[slV tb s.sides.length, .int .i64 0]⟩) H') :
    ACall Try.prog 31 [spV kind (sv b sides.length) hosts] H R := by
  have hok := shapeF_ok hs
  have hof := shapeF_of hs
  have hbd := sw_bd hok
  have hbl := bget_lt hb
  refine acall_vcg tok Try.call31 Try.func31 rfl Try.ntmps31 rfl (by simp) ?_
  refine new_of fun H1 a1 a2 a3 => ?_
  have a1 : H1.length = H.length + 1 := a1
  have a3 : ∀ i, i < H.length → bget H1 i = bget H i := a3
  refine rdCells_of a2 ?_
  refine ⟨_, rfl, _, rfl, _, rfl, ?_⟩
  (first | refine c57 kind hosts ((a3 b hbl).trans hb) (Nat.le_refl _) ?_ | refine (c57 kind hosts ((a3 b hbl).trans hb) (Nat.le_refl _) ?_).call)
  rw [hs]
  refine ⟨_, rfl, _, rfl, ?_⟩
  refine new_of fun H2 b1 b2 b3 => ?_
  have b1 : H2.length = H1.length + 1 := b1
  have b3 : ∀ i, i < H1.length → bget H2 i = bget H1 i := b3
  simp only [putK, vops, guardK, cstep, Nat.blt]
  refine store_of b2 [shV (sv b sides.length) s] rfl rfl (Nat.le_refl _) rfl ?_
  intro H3 c1 c2 c3
  refine And.intro (fun h => absurd h (by decide)) (fun _ => ?_)
  refine new_of fun H4 d1 d2 d3 => ?_
  have c1 : H3.length = H2.length := c1
  have d1 : H4.length = H3.length + 1 := d1
  have d3 : ∀ i, i < H3.length → bget H4 i = bget H3 i := d3
  have d2 : bget H4 H3.length = some (.cells true 1 [.slice none 0 0]) := d2
  have c2 : bget H3 H1.length = some (.cells true 1 [shV (sv b sides.length) s]) := c2
  have c3 : ∀ i, i ≠ H1.length → bget H3 i = bget H2 i := c3
  have f2 : bget H4 H1.length = some (.cells true 1 [shV (sv b sides.length) s]) := (d3 H1.length (by omega)).trans c2
  have old : ∀ i, i < H.length → bget H4 i = bget H i := fun i hi => (d3 i (by omega)).trans ((c3 i (by omega)).trans ((b3 i (by omega)).trans (a3 i hi)))
  have fb := (old b hbl).trans hb
  refine rdCells_of f2 ?_
  refine ⟨_, rfl, ?_⟩
  refine x_sides hok (at_of hof fb) ?_
  rintro fv H5 ⟨g, first, cap, rfl, hsides⟩ hl5 he5
  refine new_of fun H6 e1 e2 e3 => ?_
  generalize hL : Blk.loop LoopState.ready none _ _ _ _ _ = L at e2
  generalize hlr : H5.length = lr at *
  have g0 : ∀ i, i < H4.length → bget H6 i = bget H4 i := fun i hi => (e3 i (by omega)).trans (he5 i hi)
  have hH1 : H1.length < H4.length := by omega
  have hH3 : H3.length < H4.length := by omega
  have g1 := (g0 H1.length hH1).trans f2
  have g2 := (g0 H3.length hH3).trans d2
  have gb := (g0 b (by omega)).trans fb
  have old6 : ∀ i, i < H.length → bget H6 i = bget H i := fun i hi => (g0 i (by omega)).trans (old i hi)
  have h13 : H1.length < H3.length := by omega
  have hH01 : H.length < H1.length := by omega
  generalize H1.length = sb at *
  generalize H3.length = ob at *
  clear a2 a3 b2 b3 c2 c3 d2 d3 f2 fb old a1 b1 c1 d1
  have hR : RoundsS lr H6.length s.sw s.sides (fun p o H' => (∃ tb kf, SdI s n lr ob sb sb b L sides wr p o H' tb kf) ∧ ∀ i, i < H.length → bget H' i = bget H i) (fun _ => False) := by
    refine ⟨?_, ?_, ?_⟩
    · rintro p o H' ⟨⟨tb, kf, q⟩, _⟩ j hj
      rcases (q.oo j).1 hj with rfl | rfl | ⟨h0, rfl⟩ | ⟨i, hi, rfl⟩
      · exact q.hl
      · exact bget_lt q.ro
      · exact (q.lt h0).2
      · exact bget_lt (q.rr i hi)
    · rintro p o H' H'' ⟨⟨tb, kf, q⟩, hold⟩ hle hsame
      refine ⟨⟨tb, kf, ⟨q.oo, Nat.lt_of_lt_of_le q.hl hle, ?_, ?_, ?_, ?_, fun h0 => ?_, fun i hi => ?_, fun h0 => ⟨(q.lt h0).1, Nat.lt_of_lt_of_le (q.lt h0).2 hle⟩, q.lk, q.tk⟩⟩, fun i hi => (hsame i (.inl (by omega))).trans (hold i hi)⟩
      · rw [hsame lr (.inl (by omega))]; exact q.rl
      · rw [hsame ob (.inl (by omega))]; exact q.ro
      · rw [hsame sb (.inl (by omega))]; exact q.rf
      · rw [hsame b (.inl (by omega))]; exact q.rb
      · rw [hsame tb (.inr ((q.oo tb).2 (.inr (.inr (.inl ⟨h0, rfl⟩)))))]; exact q.rt h0
      · rw [hsame (kf i) (.inr ((q.oo _).2 (.inr (.inr (.inr ⟨i, hi, rfl⟩)))))]; exact q.rr i hi
    · rintro p f o H' fv hp hN ⟨⟨tb, kf, q⟩, hold⟩ hside
      have q3 := q.rl
      obtain ⟨g', first', cap', rfl, hcall⟩ := hside
      subst hL
      refine round_of tok q3 ?_
      refine roundBegin_of q3 (fun H8 d1 d2 d3 => ?_)
      have kf8 := (d3 sb (by omega)).trans q.rf
      have kb8 := (d3 b (by omega)).trans q.rb
      have ko8 := (d3 ob (by omega)).trans q.ro
      refine rdCells_of kf8 ?_
      refine ⟨_, rfl, ?_⟩
      (first | refine x_sw hok (at_of hof kb8) ?_ | refine (x_sw hok (at_of hof kb8) ?_).call)
      rw [hn]
      refine ⟨by decide, n, n, ⟨rfl, rfl⟩, ⟨Nat.le_refl _, by simp only; omega⟩, bls (List.replicate n false), by simp [zeroRep, bls, cellsL], ?_⟩
      refine new_of fun H9 t1 t2 t3 => ?_
      have t1 : H9.length = H8.length + 1 := t1
      have t2 : bget H9 H8.length = some (.cells true 1 (bls (List.replicate n false))) := t2
      have t3 : ∀ i, i < H8.length → bget H9 i = bget H8 i := t3
      have hq := q.hl
      generalize hrow : H8.length = row at *
      refine vcg_loopR (α := BS) tok (fun z => row < z.H.length ∧ bget z.H row = some (.cells true 1 (bls z.gs)) ∧ z.gs.length = n ∧ (∀ y, y < z.i → z.gs[y]! = f y) ∧ (∀ j, j < row → bget z.H j = bget H8 j) ∧ z.i ≤ n)
        (fun | ⟨_, _, i⟩ => [(6, pV ob), (7, .func (.func g') ⟨first'⟩ ⟨cap'⟩), (8, sv row n), (24, sv row n), (25, .int .i64 (n : Int)), (26, .int .i64 (i : Int))]) (fun | ⟨H', _, _⟩ => H') (fun z => n - z.i)
        ⟨H9, List.replicate n false, 0⟩ ⟨by simp only; omega, t2, by simp, (fun y hy => by simp at hy), t3, Nat.zero_le _⟩ (Or.inl ⟨⟨rfl, rfl, rfl, rfl, rfl, rfl, trivial⟩, rfl⟩) ?_
      rintro ⟨H10, gs, i⟩ ⟨p1, p2, p3, p4, p5, p6⟩
      simp only at p1 p2 p3 p4 p5 p6
      refine And.intro (fun hc => ?_) (fun hc => ?_)
      · have hlt : i < n := by simpa using hc
        refine hcall (x := (i : Int)) ⟨by omega, by omega⟩ (fun j hj ho => ?_) (fun HH (u1 : H10.length ≤ HH.length) (u2 : ∀ i, i < H10.length → bget HH i = bget H10 i) => ?_)
        · have : j ≠ lr := fun e => ho ((q.oo j).2 (.inl e))
          exact (p5 j (by omega)).trans (d3 j this)
        · have r2 := (u2 row p1).trans p2
          refine isCells_of r2 ⟨i, rfl, hlt, ?_⟩
          simp only [putK, vops, guardK, cstep, Nat.blt]
          refine store_of r2 (bls (gs.set i (f i))) rfl rfl (by simp; omega) bls_set ?_
          intro HI v1 v2 v3
          refine Or.inl ⟨((i + 1 : Nat) : Int), by simp, by unfold I64; omega, ?_⟩
          have w1 : row < HI.length := by omega
          have w5 : ∀ j, j < row → bget HI j = bget H8 j := fun j hj => (v3 j (by omega)).trans ((u2 j (by omega)).trans (p5 j hj))
          have w4 : ∀ y, y < i + 1 → (gs.set i (f i))[y]! = f y := fun y hy => by
            by_cases e : y = i
            · subst e; rw [getElem!_pos _ y (by simp; omega)]; simp
            · rw [getElem!_pos _ y (by simp; omega), List.getElem_set_ne (by omega), ← getElem!_pos gs y (by omega)]
              exact p4 y (by omega)
          exact ⟨⟨HI, gs.set i (f i), i + 1⟩, ⟨w1, v2, by simp [p3], w4, w5, hlt⟩, by simp only; omega, Or.inl ⟨⟨rfl, rfl, rfl, rfl, rfl, rfl, trivial⟩, rfl⟩⟩
      · have : i = n := by simp at hc; omega
        subst this
        have hgs : gs = tabF f i := by
          refine List.ext_getElem (by simp [tabF, p3]) (fun y h1 h2 => ?_)
          have := p4 y (by omega)
          rw [getElem!_pos gs y h1] at this
          rw [this]; simp [tabF]
        subst hgs
        have ko10 := (p5 ob (by omega)).trans ko8
        refine rdCells_of ko10 ?_
        refine ⟨_, rfl, ?_⟩
        refine And.intro (by decide) ?_
        refine newS_of fun H11 x1 x2 x3 => ?_
        have x1 : H11.length = H10.length + 1 := x1
        have x2 : bget H11 H10.length = some (.cells true 1 [sv row i]) := x2
        have x3 : ∀ j, j < H10.length → bget H11 j = bget H10 j := x3
        have y5 : ∀ j, j < row → bget H11 j = bget H8 j := fun j hj => (x3 j (by omega)).trans (p5 j hj)
        have ne : ∀ (j : Nat) (z : Nat) (w : Bool) (vs : List Value), bget H' j = some (.cells w z vs) → j ≠ lr := fun j z w vs hj e => by rw [e, q3] at hj; cases hj
        refine And.intro rfl ?_
        refine app_gen (n := p.length) (b := tb) (size := 1) (bytes := 24) (by decide) x2 rfl rfl (xs := rowsB kf i p.length) (fun h0 => ?_) (by rw [rowsB_len]; omega) ?_ ?_
        · exact (y5 tb (by have := (q.lt h0).2; omega)).trans ((d3 tb (ne _ _ _ _ (q.rt h0))).trans (q.rt h0))
        · have := hp.length_le
          simp at this
          omega
        · intro H12 z1 z2 z3
          have z1 : H12.length = H11.length + 1 := z1
          have z2 : bget H12 H11.length = some (.cells true 1 (rowsB kf i p.length ++ [sv row i])) := z2
          have z3 : ∀ j, j < H11.length → (0 < p.length → j ≠ tb) → bget H12 j = bget H11 j := z3
          simp only [putK, vops, guardK, cstep, Nat.blt]
          have hobl : ob < lr := by omega
          have hsbl : sb < lr := by omega
          have hbl' : b < lr := by omega
          have c12 : ∀ j, j < row → j ≠ ob → (0 < p.length → j ≠ tb) → bget H12 j = bget H8 j := fun j hj _ ht => (z3 j (by omega) ht).trans (y5 j hj)
          have to12 : bget H12 ob = some (.cells true 1 [slV tb p.length]) := (z3 ob (by omega) (fun h0 => by have := (q.lt h0).1; omega)).trans ((x3 ob (by omega)).trans ko10)
          refine store_of to12 [slV H11.length (p.length + 1)] rfl rfl (Nat.le_refl _) rfl ?_
          intro H13 m1 m2 m3
          have rl13 : bget H13 lr = _ := (m3 lr (by omega)).trans ((c12 lr (by omega) (by omega) (fun h0 => by have := (q.lt h0).1; omega)).trans d2)
          refine roundEnd_go rl13 (fun H14 n1 n2 n3 => ?_)
          have L14 : H14.length = H12.length := n1.trans m1
          have o14 : ∀ j, j < H'.length → j ≠ lr → j ≠ ob → (0 < p.length → j ≠ tb) → bget H14 j = bget H' j := fun j hj j1 j2 j3 => (n3 j j1).trans ((m3 j j2).trans ((c12 j (by omega) j2 j3).trans (d3 j j1)))
          have hpl : (p ++ [f]).length = p.length + 1 := by simp
          have kne : ∀ z, z < p.length → kf z ≠ p.length → True := fun _ _ _ => trivial
          have krow : ∀ z, z < p.length → kf z < row := fun z hz => by have := bget_lt (q.rr z hz); omega
          have kob : ∀ z, z < p.length → kf z ≠ ob := fun z hz => by have := q.lk z hz; omega
          have klr : ∀ z, z < p.length → kf z ≠ lr := fun z hz => by have := q.lk z hz; omega
          have oid : ∀ j, j < H'.length → ¬ o j → bget H14 j = bget H' j := fun j hj hno => by
            have hj1 : j ≠ lr := fun e => hno ((q.oo j).2 (.inl e))
            have hj2 : j ≠ ob := fun e => hno ((q.oo j).2 (.inr (.inl e)))
            have hj3 : 0 < p.length → j ≠ tb := fun h0 e => hno ((q.oo j).2 (.inr (.inr (.inl ⟨h0, e⟩))))
            exact o14 j hj hj1 hj2 hj3
          have hno : ∀ j, j < lr → j ≠ ob → ¬ o j := fun j hj1 hj2 ho => by
            rcases (q.oo j).1 ho with h | h | ⟨h0, h⟩ | ⟨z, hz, h⟩
            · omega
            · exact hj2 h
            · have := (q.lt h0).1; omega
            · have := q.lk z hz; omega
          have r14 : bget H14 row = some (.cells true 1 (bls (tabF f i))) := (n3 row (by omega)).trans ((m3 row (by omega)).trans ((z3 row (by omega) (fun h0 => by have := (q.lt h0).2; omega)).trans ((x3 row p1).trans p2)))
          have t14 : bget H14 H11.length = some (.cells true 1 (rowsB kf i p.length ++ [sv row i])) := (n3 H11.length (by omega)).trans ((m3 H11.length (by omega)).trans z2)
          have ob14 : bget H14 ob = some (.cells true 1 [slV H11.length (p.length + 1)]) := (n3 ob (by omega)).trans m2
          refine Or.inl ⟨rfl, ⟨by omega, oid⟩, (fun j => j = lr ∨ j = ob ∨ j = H11.length ∨ j = row ∨ ∃ z, z < p.length ∧ j = kf z), ⟨⟨H11.length, fun z => if z = p.length then row else kf z, ⟨?_, by omega, n2, ?_, ?_, ?_, fun _ => ?_, fun z hz => ?_, fun _ => ⟨by omega, by omega⟩, fun z hz => ?_, fun z hz => ?_⟩⟩, fun z hz => ?_⟩, fun j hj => ?_⟩
          · intro j
            rw [hpl]
            constructor
            · rintro (h | h | h | h | ⟨z, hz, h⟩)
              · exact .inl h
              · exact .inr (.inl h)
              · exact .inr (.inr (.inl ⟨by omega, h⟩))
              · exact .inr (.inr (.inr ⟨p.length, by omega, by rw [if_pos rfl]; exact h⟩))
              · exact .inr (.inr (.inr ⟨z, by omega, by rw [if_neg (by omega)]; exact h⟩))
            · rintro (h | h | ⟨_, h⟩ | ⟨z, hz, h⟩)
              · exact .inl h
              · exact .inr (.inl h)
              · exact .inr (.inr (.inl h))
              · by_cases e : z = p.length
                · rw [if_pos e] at h; exact .inr (.inr (.inr (.inl h)))
                · rw [if_neg e] at h; exact .inr (.inr (.inr (.inr ⟨z, by omega, h⟩)))
          · rw [hpl]; exact ob14
          · exact (oid sb (by omega) (hno sb hsbl (by omega))).trans q.rf
          · exact (oid b (by omega) (hno b hbl' (by omega))).trans q.rb
          · rw [hpl, t14, rowsB_snoc]
          · by_cases e : z = p.length
            · subst e
              rw [if_pos rfl, List.getElem_append_right (Nat.le_refl _)]
              simpa using r14
            · have hzp : z < p.length := by omega
              rw [if_neg e, List.getElem_append_left hzp]
              exact (o14 (kf z) (bget_lt (q.rr z hzp)) (klr z hzp) (kob z hzp) (fun _ => q.tk z hzp)).trans (q.rr z hzp)
          · split
            · omega
            · exact q.lk z (by omega)
          · split
            · omega
            · have := krow z (by omega); omega
          · exact (oid z (by omega) (hno z (by omega) (by omega))).trans (hold z hz)
          · rcases hj with h | h | h | h | ⟨z, hz, h⟩
            · exact .inl ((q.oo j).2 (.inl h))
            · exact .inl ((q.oo j).2 (.inr (.inl h)))
            · exact .inr (by omega)
            · exact .inr (by omega)
            · exact .inl ((q.oo j).2 (.inr (.inr (.inr ⟨z, hz, h⟩))))
  refine hsides (o := fun j => j = lr ∨ j = ob) ?_ hR ⟨⟨0, fun _ => 0, ?_⟩, old6⟩ ?_ ?_
  · intro j hj
    exact ⟨by show ¬ (j = lr ∨ j = ob); omega, e3 j (by omega)⟩
  · exact ⟨fun j => ⟨fun h => h.elim .inl (fun h => .inr (.inl h)), fun h => h.elim .inl (fun h => h.elim .inr (fun h => by simp at h))⟩, by omega, e2, g2, g1, gb, (fun h => by simp at h), (fun i hi => by simp at hi), (fun h => by simp at h), (fun i hi => by simp at hi), (fun i hi => by simp at hi)⟩
  · rintro o' H' ⟨⟨tb, kf, q⟩, hold⟩
    have q3 := q.rl
    subst hL
    have ne : ∀ (j : Nat) (z : Nat) (w : Bool) (vs : List Value), bget H' j = some (.cells w z vs) → j ≠ lr := fun j z w vs hj e => by rw [e, q3] at hj; cases hj
    refine rangeEnd_of q3 (by decide) (fun H7 r1 r2 => ?_)
    refine rdCells_of ((r2 ob (by omega)).trans q.ro) ?_
    refine ⟨_, rfl, ?_⟩
    have hlr' := q.hl
    exact h H7 tb kf (by omega) (fun i hi => (r2 i (by omega)).trans (hold i hi)) (fun h0 => (r2 tb (ne _ _ _ _ (q.rt h0))).trans (q.rt h0)) (fun i hi => (r2 (kf i) (ne _ _ _ _ (q.rr i hi))).trans (q.rr i hi))
  · intro H' h; exact h.elim
end Go.Af.Try
