/-
  A call seen over memory that is only read.
-/
import Derived.Test.YtkmhpolbhjgpoaaE4
namespace Go.Af
open Go

def roB : Blk → Blk
  | .cells _ z vs => .cells false z vs
  | .map _ es c => .map false es c
  | .dead => .dead
  | .defr d => .defr d
  | _ => .ghost
def Blk.isDefr : Blk → Bool
  | .defr _ => true
  | _ => false

theorem roB_rel {m : LM} {b : Blk} {l : Loc} {w : World} (hd : b.isDefr = false) (h : BRel m b l w) : BRel m (roB b) l w := by
  cases b with
  | cells wr z vs =>
    cases l with
    | cel r sh tot esz => obtain ⟨c, e, f, h1, h2, h3, h4⟩ := h; exact ⟨c, e, f, h1, h2, h3, fun h => by cases h⟩
    | obj r => exact h.elim
    | dead => exact h.elim
  | map wr es c => cases l <;> exact h
  | iter o =>
    cases l with
    | obj r =>
      obtain ⟨o', h1, h2⟩ := h
      refine ⟨o', h1, fun x e => ?_⟩
      subst e
      split at h2
      · cases h2
      · obtain ⟨_, _, h2⟩ := h2; cases h2
      · cases h2
      · exact h2
    | cel r sh tot esz => exact h.elim
    | dead => exact h.elim
  | loop st p n sl ps as body =>
    cases l with
    | obj r => obtain ⟨tmps, d', fn, h1, _⟩ := h; exact ⟨_, h1, fun x e => by cases e⟩
    | cel r sh tot esz => exact h.elim
    | dead => exact h.elim
  | defr d => cases hd
  | ghost => exact h
  | dead => cases l <;> exact h
theorem roB_ro {b : Blk} (hd : b.isDefr = false) : (roB b).isRw = false := by cases b <;> first | rfl | cases hd

section
variable {P : Program} {f : FuncId} {args : List Value} {H : List Blk} {R2 R : Value → List Blk → Prop}

theorem acallx_view (hd : ∀ b ∈ H, b.isDefr = false) (hc : ACall P f args (H.map roB) R2)
    (hR : ∀ v H2', R2 v H2' → ∃ N, H2' = H.map roB ++ N ∧ (∀ b ∈ N, b.isRw = true ∨ b = .dead) ∧ R v (H ++ N)) : ACallX P f args H R :=
  ⟨hc.1, fun m argsR w hl hh => by
    have hdi : ∀ (i : Nat) (b : Blk), H[i]? = some b → b.isDefr = false := fun i b h => hd b (List.mem_of_getElem? h)
    have noRw : ∀ (i : Nat) (b : Blk), (H.map roB)[i]? = some b → b.isRw = true → False := by
      intro i b hb hr
      rw [List.getElem?_map] at hb
      cases hg : H[i]? with
      | none => rw [hg] at hb; cases hb
      | some b0 => rw [hg] at hb; cases hb; rw [roB_ro (hdi i b0 hg)] at hr; cases hr
    have hh2 : HRel m (H.map roB) w := by
      refine ⟨fun i l hi => by simpa using hh.dom i l hi, fun i l b hi hl hb => ?_, fun i hi => ?_, fun i j r b h1 h2 h3 h4 => (noRw i b h2 h3).elim⟩
      · rw [List.getElem?_map] at hb
        cases hg : H[i]? with
        | none => rw [hg] at hb; cases hb
        | some b0 => rw [hg] at hb; cases hb; exact roB_rel (hdi i b0 hg) (hh.blk i l b0 hi hl hg)
      · have := hh.dd i hi
        simp [this, roB]
    have noWr : ∀ r, ¬ Wr m (H.map roB) r := fun r ⟨i, b, h1, h2, h3⟩ => noRw i b h2 h3
    refine (hc.2 m argsR w hl hh2).mono ?_
    rintro vR w' ⟨v, H2', m', r1, r2, r3, r4⟩
    obtain ⟨N, rfl, hN, hRv⟩ := hR v H2' r1
    have len2 : (H.map roB).length = H.length := by simp
    have keep : ∀ r, r < w.heap.size → w'.heap[r]? = w.heap[r]? ∧ ¬ Wr m' (H.map roB ++ N) r := fun r hr => r4.keep r hr (noWr r)
    have bs : ∀ i l, m i = some l → m' i = some l := fun i l hi => by
      rcases r4.base i (by rw [len2]; exact hh.dom i l hi) l hi with h | ⟨_, _, b, h2, h3⟩
      · exact h
      · exact (noRw i b h2 h3).elim
    have bn : ∀ i, i < H.length → m i = none → m' i = none := fun i hi h => r4.base' i (by rw [len2]; exact hi) h
    have bo : ∀ i, i < H.length → m' i = m i := fun i hi => by
      cases hm : m i with
      | none => exact bn i hi hm
      | some l => exact bs i l hm
    have hle : m.le m' := fun i l hi => .inl (bs i l hi)
    have getL : ∀ i, i < H.length → (H ++ N)[i]? = H[i]? := fun i hi => List.getElem?_append_left hi
    have getR : ∀ i, H.length ≤ i → (H ++ N)[i]? = (H.map roB ++ N)[i]? := fun i hi => by
      rw [List.getElem?_append_right hi, List.getElem?_append_right (by rw [len2]; exact hi), len2]
    have wrR : ∀ i r b, H.length ≤ i → locBlk (m' i) = some r → (H ++ N)[i]? = some b → b.isRw = true → w.heap.size ≤ r := by
      intro i r b hi h1 h2 h3
      rcases Nat.lt_or_ge r w.heap.size with hr | hr
      · exact ((keep r hr).2 ⟨i, b, h1, by rw [← getR i hi]; exact h2, h3⟩).elim
      · exact hr
    have ltL : ∀ i r, i < H.length → locBlk (m' i) = some r → r < w.heap.size := fun i r hi h => hh.lt (by rw [← bo i hi]; exact h)
    have newRw : ∀ i r, H.length ≤ i → locBlk (m' i) = some r → ∃ b, (H ++ N)[i]? = some b ∧ b.isRw = true := by
      intro i r hi h
      obtain ⟨l, h1, h2, h3⟩ := locBlk_some h
      obtain ⟨b, k1, k2⟩ := r3.get h1 h2
      rw [← getR i hi] at k1
      refine ⟨b, k1, ?_⟩
      rw [List.getElem?_append_right hi] at k1
      rcases hN b (List.mem_of_getElem? k1) with h | h
      · exact h
      · subst h; cases l <;> exact k2.elim
    have hh' : HRel m' (H ++ N) w' := by
      refine ⟨fun i l hi => by have := r3.dom i l hi; simpa using this, fun i l b hi hl hb => ?_, fun i hi => ?_, fun i j r b h1 h2 h3 h4 => ?_⟩
      · rcases Nat.lt_or_ge i H.length with h | h
        · rw [getL i h] at hb
          rw [bo i h] at hi
          exact ((hh.blk i l b hi hl hb).mono hle).same fun r hr => (keep r (hh.lt (by rw [hi]; exact hr))).1
        · rw [getR i h] at hb; exact r3.blk i l b hi hl hb
      · rcases Nat.lt_or_ge i H.length with h | h
        · rw [getL i h]; exact hh.dd i (by rw [← bo i h]; exact hi)
        · rw [getR i h]; exact r3.dd i hi
      · rcases Nat.lt_or_ge i H.length with hi | hi <;> rcases Nat.lt_or_ge j H.length with hj | hj
        · rw [getL i hi] at h2; rw [bo i hi] at h1; rw [bo j hj] at h4
          exact hh.own i j r b h1 h2 h3 h4
        · obtain ⟨b', k1, k2⟩ := newRw j r hj h4
          have := wrR j r b' hj h4 k1 k2
          have := ltL i r hi h1
          omega
        · have := wrR i r b hi h1 h2 h3
          have := ltL j r hj h4
          omega
        · rw [getR i hi] at h2
          exact r3.own i j r b h1 h2 h3 h4
    refine ⟨⟨v, _, m', hRv, r2, hh', ?_⟩, r4.size, fun r hr => (keep r hr).1⟩
    refine ⟨r4.size, fun _ => by simp, fun i hi l hl => .inl (bs i l hl), fun i hi h => bn i hi h, fun i hi b' hb hr => ⟨b', by rw [← getL i hi]; exact hb, hr⟩, fun r hr hw => ⟨(keep r hr).1, ?_⟩, r4.out⟩
    rintro ⟨i, b, h1, h2, h3⟩
    rcases Nat.lt_or_ge i H.length with hi | hi
    · exact hw ⟨i, b, by rw [← bo i hi]; exact h1, by rw [← getL i hi]; exact h2, h3⟩
    · have := wrR i r b hi h1 h2 h3; omega⟩
end

/-- The same in words of the machine that computes. -/
theorem acallx_quiet {P : Program} {f : FuncId} {args : List Value} {B M : Tr EB} {lim n : Nat} {H : List Blk} {K : HK} (hh : HOk B lim M n H)
    (hc : ∀ B' H', HOk B' n M n H' → ACall P f args H' (fun v H2 => ∃ M' n', HOk B' n M' n' H2 ∧ K v M' n' = true)) : ACallX P f args H (Aft B lim K) := by
  have inH : ∀ (i : Nat) (b : Blk), H[i]? = some b → ∃ eb, M.get (psOf i) = some eb ∧ i < n ∧ BOk (Nat.ble lim i) eb b := by
    intro i b hb
    have hi : i < n := by have := (List.getElem?_eq_some_iff.1 hb).1; rw [hh.len] at this; exact this
    obtain ⟨eb, he⟩ := hh.all i hi
    obtain ⟨_, b', h2, h3⟩ := hh.get i eb he
    rw [hb] at h2; cases h2
    exact ⟨eb, he, hi, h3⟩
  have bro : ∀ {w : Bool} {eb : EB} {b : Blk}, BOk w eb b → b.isDefr = false ∧ BOk false eb (roB b) := by
    intro w eb b h
    cases eb with
    | cells z vs => simp only [BOk] at h; subst h; exact ⟨rfl, rfl⟩
    | loop st p m F ps as body dr =>
      cases w with
      | true => obtain ⟨sl, _, rfl⟩ := h; exact ⟨rfl, rfl⟩
      | false => simp only [BOk] at h; subst h; exact ⟨rfl, rfl⟩
    | dead => simp only [BOk] at h; subst h; exact ⟨rfl, rfl⟩
  have hd : ∀ b ∈ H, b.isDefr = false := by
    intro b hb
    obtain ⟨i, hi⟩ := List.mem_iff_getElem?.1 hb
    obtain ⟨eb, _, _, h3⟩ := inH i b hi
    exact (bro h3).1
  have hv : HOk M n M n (H.map roB) := by
    refine ⟨by simp [hh.len], Nat.le_refl _, fun i eb he => ?_, hh.all, fun i hi => rfl⟩
    obtain ⟨h1, b, h2, h3⟩ := hh.get i eb he
    refine ⟨h1, roB b, by simp [h2], ?_⟩
    rw [show Nat.ble n i = false from by cases hb : Nat.ble n i with | false => rfl | true => have := Nat.le_of_ble_eq_true hb; omega]
    exact (bro h3).2
  refine acallx_view hd (hc M _ hv) ?_
  rintro v H2' ⟨M', n', h1, h2⟩
  have hn : n ≤ n' := h1.le
  have eqL : ∀ i, i < n → H2'[i]? = (H.map roB)[i]? := by
    intro i hi
    obtain ⟨eb, he⟩ := hh.all i hi
    obtain ⟨_, b, k1, k2⟩ := hv.get i eb he
    have he' : M'.get (psOf i) = some eb := by rw [h1.base i hi]; exact he
    obtain ⟨_, b', k3, k4⟩ := h1.get i eb he'
    rw [k3, k1]
    congr 1
    have e1 : Nat.ble n i = false := by cases hb : Nat.ble n i with | false => rfl | true => have := Nat.le_of_ble_eq_true hb; omega
    rw [e1] at k2 k4
    cases eb with
    | cells z vs => simp only [BOk] at k2 k4; rw [k2, k4]
    | loop st p m F ps as body dr => simp only [BOk] at k2 k4; rw [k2, k4]
    | dead => simp only [BOk] at k2 k4; rw [k2, k4]
  have e2 : H2' = H.map roB ++ H2'.drop n := by
    have : H2'.take n = H.map roB := by
      apply List.ext_getElem?
      intro i
      rcases Nat.lt_or_ge i n with hi | hi
      · rw [List.getElem?_take_of_lt hi]; exact eqL i hi
      · rw [List.getElem?_eq_none (by simp; omega), List.getElem?_eq_none (by simp [hh.len]; omega)]
    rw [← this, List.take_append_drop]
  refine ⟨H2'.drop n, e2, ?_, M', n', ?_, h2⟩
  · intro b hb
    obtain ⟨k, hk⟩ := List.mem_iff_getElem?.1 hb
    rw [List.getElem?_drop] at hk
    have hlt : n + k < n' := by have := (List.getElem?_eq_some_iff.1 hk).1; rw [h1.len] at this; exact this
    obtain ⟨eb, he⟩ := h1.all (n + k) hlt
    obtain ⟨_, b', k1, k2⟩ := h1.get (n + k) eb he
    rw [hk] at k1; cases k1
    rw [Nat.ble_eq_true_of_le (show n ≤ n + k by omega)] at k2
    cases eb with
    | cells z vs => simp only [BOk] at k2; subst k2; exact .inl rfl
    | loop st p m F ps as body dr => obtain ⟨sl, _, rfl⟩ := k2; exact .inl rfl
    | dead => exact .inr k2
  · refine ⟨by simp [hh.len, h1.len]; omega, by have := hh.le; omega, fun i eb he => ?_, h1.all, fun i hi => ?_⟩
    · obtain ⟨g1, b, g2, g3⟩ := h1.get i eb he
      refine ⟨g1, ?_⟩
      rcases Nat.lt_or_ge i n with hi | hi
      · have he' : M.get (psOf i) = some eb := by rw [← h1.base i hi]; exact he
        obtain ⟨_, b', k1, k2⟩ := hh.get i eb he'
        exact ⟨b', by rw [List.getElem?_append_left (by rw [hh.len]; exact hi)]; exact k1, k2⟩
      · refine ⟨b, ?_, ?_⟩
        · rw [List.getElem?_append_right (by rw [hh.len]; exact hi), hh.len, List.getElem?_drop, show n + (i - n) = i by omega]; exact g2
        · rw [Nat.ble_eq_true_of_le hi] at g3
          rw [Nat.ble_eq_true_of_le (show lim ≤ i from Nat.le_trans hh.le hi)]
          exact g3
    · rw [h1.base i (by have := hh.le; omega)]; exact hh.base i hi
end Go.Af
