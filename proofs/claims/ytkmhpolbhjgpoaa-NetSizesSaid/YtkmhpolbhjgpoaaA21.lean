/-
  Contracts over local memory, used in any heap: rows of numbers that can be read, results that are new.
-/
import Derived.Test.YtkmhpolbhjgpoaaA19
namespace Go.Af
open Go
abbrev ro (xs : List Int) : Blk := .cells false 1 (ints xs)
abbrev rw' (xs : List Int) : Blk := .cells true 1 (ints xs)
abbrev sv (b n : Nat) : Value := .slice (some ⟨b, 0, none⟩) n n

theorem setSeg_one (vs : List Value) (i : Nat) (v : Value) : setSeg vs i [v] = vs.set i v := rfl
theorem anch_of {n : Nat} {ι : List (Nat × Nat)} (h : ((List.range n).all fun i => decide (ι[i]? = some (i, 0))) = true) : anch n ι := fun i hi => by
  rw [List.all_eq_true] at h
  simpa using h i (List.mem_range.2 hi)

theorem BRen.seg {ι : List (Nat × Nat)} {wr : Bool} {z s : Nat} {xs : List Int} {vs : List Value} (h : ∀ (i : Nat) (x : Int), xs[i]? = some x → vs[s + i]? = some (.int .i64 x)) : BRen ι s (.cells false z (ints xs)) (.cells wr z vs) :=
  BRen.cells (fun h => by cases h) fun i x hx => by
    rw [ints_get] at hx
    cases hy : xs[i]? with
    | none => rw [hy] at hx; cases hx
    | some y => rw [hy] at hx; cases hx; exact ⟨_, h i y hy, .int _ _⟩
theorem BRen.ints {ι : List (Nat × Nat)} (wr : Bool) (z : Nat) (xs : List Int) : BRen ι 0 (.cells wr z (ints xs)) (.cells wr z (ints xs)) :=
  BRen.cells id fun i x h => by
    rw [ints_get] at h
    cases hx : xs[i]? with
    | none => rw [hx] at h; cases h
    | some y => rw [hx] at h; cases h; exact ⟨_, by rw [Nat.zero_add, ints_get, hx]; rfl, .int _ _⟩
theorem VRel.plain_eq : ∀ (n : Nat) (v : Value) {m : LM} {u : Value}, plainV n v = true → VRel m v u → u = v := by
  intro n
  induction n with
  | zero => intro v m u h; cases h
  | succ n ih =>
    intro v m u h hr
    have lst : ∀ (l : List Value) (us : List Value), l.all (plainV n) = true → LRel m l us → us = l := by
      intro l
      induction l with
      | nil => intro us _ hu; exact hu.inv_nil
      | cons y l ihl =>
        intro us hl hu
        obtain ⟨z, us', rfl, h1, h2⟩ := hu.inv_cons
        simp at hl
        rw [ih y hl.1 h1, ihl us' (by simpa using hl.2) h2]
    unfold plainV at h
    split at h <;> first | exact absurd h (by decide) | (cases hr; rfl) | skip
    · obtain ⟨ys, rfl, hl⟩ := hr.inv_agg
      have := lst _ _ h hl
      rw [Array.ext' this]
    · obtain ⟨ys, rfl, hl⟩ := hr.inv_tuple
      have := lst _ _ h hl
      rw [Array.ext' this]
    · cases hr with
      | iface _ _ v' hv => rw [ih _ h hv]
theorem VBack.plain {ι : List (Nat × Nat)} {v : Value} (h : plainV 6 v = true) : VBack ι v v := fun _ _ _ vR hr => by
  rw [VRel.plain_eq 6 v h hr]; exact VRel.plain _ 6 _ h
theorem VRen.plain {ι : List (Nat × Nat)} {v : Value} (h : plainV 6 v = true) : VRen ι v v := fun m vR hr => by
  rw [VRel.plain_eq 6 v h hr]; exact VRel.plain _ 6 _ h
theorem LBack.plain {ι : List (Nat × Nat)} {vs : List Value} (h : vs.all (plainV 6) = true) : LBack ι vs vs := LBack.of rfl fun i x2 x h1 h2 => by
  rw [h1] at h2; cases h2
  rw [List.all_eq_true] at h
  exact VBack.plain (h x2 (List.mem_of_getElem? h1))
theorem ints_plain (xs : List Int) : (ints xs).all (plainV 6) = true := by simp [ints, plainV]

/-! ### Rows that can be read -/

/-- The slice v can be read: it has the numbers xs. -/
def Rd (H : List Blk) (v : Value) (xs : List Int) : Prop :=
  ∃ (j s : Nat) (wr : Bool) (vs : List Value), bget H j = some (.cells wr 1 vs) ∧
    ((∃ c, xs.length ≤ c ∧ v = .slice (some ⟨j, s, none⟩) xs.length c ∧ ∀ (i : Nat) (x : Int), xs[i]? = some x → vs[s + i]? = some (.int .i64 x)) ∨
     (xs = [] ∧ (v = .slice none 0 0 ∨ ∃ b o c, v = .slice (some ⟨b, o, some c⟩) 0 0)))

theorem Rd.lit {H : List Blk} {j c : Nat} {wr : Bool} {xs : List Int} (h : bget H j = some (.cells wr 1 (ints xs))) (hc : xs.length ≤ c) : Rd H (.slice (some ⟨j, 0, none⟩) xs.length c) xs :=
  ⟨j, 0, wr, ints xs, h, .inl ⟨c, hc, rfl, fun i x hx => by rw [Nat.zero_add, ints_get, hx]; rfl⟩⟩
theorem Rd.nil {H : List Blk} (j : Nat) {wr : Bool} {vs : List Value} (h : bget H j = some (.cells wr 1 vs)) : Rd H (.slice none 0 0) [] :=
  ⟨j, 0, wr, vs, h, .inr ⟨rfl, .inl rfl⟩⟩

/-- What a row that can be read gives for a local heap. -/
theorem Rd.ren {H : List Blk} {v : Value} {xs : List Int} (h : Rd H v xs) : ∃ j s, (∀ ι, ∃ b, bget H j = some b ∧ BRen ι s (ro xs) b) ∧ ∀ (ι : List (Nat × Nat)) (k : Nat), ι[k]? = some (j, s) → VRen ι (sv k xs.length) v := by
  obtain ⟨j, s, wr, vs, hb, ⟨c, hc, rfl, hx⟩ | ⟨rfl, hv⟩⟩ := h
  · exact ⟨j, s, fun ι => ⟨_, hb, BRen.seg hx⟩, fun ι k hk => VRen.slice hk (Nat.add_zero s).symm hc⟩
  · refine ⟨j, 0, fun ι => ⟨_, hb, BRen.cells (fun h => by cases h) fun i x hx => by cases hx⟩, fun ι k hk m vR hr => ?_⟩
    rcases hv with rfl | ⟨b, o, c, rfl⟩
    · cases hr; exact .sliceZero _ _ _
    · cases hr; exact .sliceZero _ _ _

section
variable {P : Program} {f : FuncId} {args2 args : List Value} {H2 H : List Blk} {R : Value → List Blk → Prop}

/-- The result is plain, nothing else is left. -/
theorem acallx_s {V : Value} (hc : ACall P f args2 H2 (fun v H' => v = V ∧ H' = H2)) (ι : List (Nat × Nat)) (hro : allRo H2 = true) (ha : LRen ι args2 args) (hb : BlksRen ι H ι H2) (hV : plainV 6 V = true) (h : R V H) : ACallX P f args H R :=
  acallx_ro hc ι hro ha hb (by
    rintro v2 H2' ⟨rfl, rfl⟩
    exact ⟨v2, [], [], by simp, rfl, fun k b2 hk => by simp at hk, VBack.plain hV, by simpa using h⟩)

/-- The result is a new row. -/
theorem acallx_r {out : List Int} {n c : Nat} (hc : ACall P f args2 H2 (fun v H' => v = .slice (some ⟨H2.length, 0, none⟩) n c ∧ H' = H2 ++ [rw' out])) (ι : List (Nat × Nat)) (hro : allRo H2 = true) (ha : LRen ι args2 args) (hb : BlksRen ι H ι H2)
    (h : bsnocK H 0 (rw' out) (fun i H' => R (.slice (some ⟨i, 0, none⟩) n c) H')) : ACallX P f args H R :=
  acallx_ro hc ι hro ha hb (by
    rintro v2 H2' ⟨rfl, rfl⟩
    have hl := hb.len
    rw [bsnocK_eq, Nat.zero_add] at h
    refine ⟨.slice (some ⟨H.length, 0, none⟩) n c, [rw' out], [rw' out], rfl, rfl, fun k b2 hk => ?_, ?_, h⟩
    · cases k with
      | zero => simp at hk; subst hk; exact ⟨.inl rfl, _, rfl, BBack.cells (LBack.plain (ints_plain out)) rfl⟩
      | succ k => simp at hk
    · have := VBack.slice (ι := ι ++ (List.range 1).map (fun k => (H.length + k, 0))) (j := H2.length) (o := 0) (i := H.length) (s := 0) (l := n) (c := c) (by rw [← hl]; simp)
      simpa using this)
end
end Go.Af
