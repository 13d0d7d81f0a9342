/-
  What the computed operations do is what the conditions of the abstract heap ask: all operations that run no code.
-/
import Derived.Test.YtkmhpolbhjgpoaaE3
namespace Go.Af
open Go

section
variable {P : Program} {E : Env} {B M : Tr EB} {lim n : Nat} {H : List Blk} {F : Tr Value} {sl : List (Nat × Value)} {K : HK} {K' : Value → List Blk → Prop}

theorem newE_spec (hh : HOk B lim M n H) (hK : ∀ v M' n' H', HOk B lim M' n' H' → K v M' n' = true → K' v H') {size : Nat} {cells : List Value} {m : Nat} (h : newE M n size cells m K = true) : newSlice H size cells m K' :=
  allocE_spec hh (eb := .cells size cells) (b := .cells true size cells) rfl h fun i M' n' H' h1 h2 => hK _ _ _ _ h1 h2
theorem freshE_spec (hh : HOk B lim M n H) (hK : ∀ v M' n' H', HOk B lim M' n' H' → K v M' n' = true → K' v H') {size bytes : Nat} {cells : List Value} {m : Nat} (h : freshE M n size bytes cells m K = true) : m * (bytes + 1) ≤ 70368744177664 ∧ newSlice H size cells m K' := by
  obtain ⟨h1, h2⟩ := brT' h
  exact ⟨Nat.le_of_ble_eq_true h1, newE_spec hh hK h2⟩

theorem cellsW {b z : Nat} {vs : List Value} (hg : bget H b = some (.cells (Nat.ble lim b) z vs)) (hl : Nat.ble lim b = true) : bget H b = some (.cells true z vs) := by rw [hg, hl]

theorem appE_spec (hh : HOk B lim M n H) (hK : ∀ v M' n' H', HOk B lim M' n' H' → K v M' n' = true → K' v H') {size bytes : Nat} (h0 : 0 < size) {s x : Value} (h : appE lim M n size bytes s x K = true) : aAppend H size bytes s x K' := by
  refine ⟨h0, ?_⟩
  obtain ⟨m, new, h1, hnl, h2⟩ := srcE_spec hh h0 h
  refine h2 _ ?_
  obtain ⟨h3, h4⟩ := brT' h1
  rw [allOne_eq] at h3
  refine ⟨h3, ?_⟩
  have nilC : ∀ {l c : Nat} {f t : Bool}, Bool.rec (motive := fun _ => Bool) false (Bool.rec (motive := fun _ => Bool) f t (Nat.beq m 0)) (Nat.beq l 0 && Nat.beq c 0) = true → (l = 0 ∧ c = 0) ∧ ((m = 0 ∧ t = true) ∨ (0 < m ∧ f = true)) := by
    intro l c f t h
    obtain ⟨g1, g2⟩ := brT' h
    refine ⟨zz g1, ?_⟩
    cases hm : Nat.beq m 0 with
    | true => rw [hm] at g2; exact .inl ⟨Nat.eq_of_beq_eq_true hm, g2⟩
    | false => rw [hm] at g2; have := Nat.ne_of_beq_eq_false hm; exact .inr ⟨by omega, g2⟩
  split at h4
  · obtain ⟨⟨rfl, rfl⟩, g⟩ := nilC h4
    rcases g with ⟨rfl, g⟩ | ⟨hm, g⟩
    · exact .inl ⟨rfl, hK _ _ _ _ hh g⟩
    · obtain ⟨k1, k2⟩ := freshE_spec hh hK g; exact .inr ⟨hm, k1, k2⟩
  · obtain ⟨⟨rfl, rfl⟩, g⟩ := nilC h4
    rcases g with ⟨rfl, g⟩ | ⟨hm, g⟩
    · exact .inl ⟨rfl, hK _ _ _ _ hh g⟩
    · obtain ⟨k1, k2⟩ := freshE_spec hh hK g; exact .inr ⟨hm, k1, k2⟩
  · rename_i b o l c
    cases hm : Nat.beq m 0 with
    | true =>
      rw [hm] at h4
      obtain ⟨g1, g2⟩ := brT' h4
      exact .inl ⟨Nat.eq_of_beq_eq_true hm, Nat.le_of_ble_eq_true g1, hK _ _ _ _ hh g2⟩
    | false =>
      rw [hm] at h4
      have hm0 := Nat.ne_of_beq_eq_false hm
      refine .inr ⟨by omega, ?_⟩
      obtain ⟨z, vs, g1, g2, g3, g4⟩ := cellsE_spec hh h4
      obtain ⟨g5, g6⟩ := brT' g4
      obtain ⟨g7, g8⟩ := bnd g5
      rw [cellsW g1 g7]
      have hz := Nat.eq_of_beq_eq_true g8
      have hlb := Nat.le_of_ble_eq_true g7
      refine ⟨hz, ?_⟩
      cases hc : Nat.ble (Nat.add l m) c with
      | true =>
        rw [hc] at g6
        obtain ⟨k1, k2⟩ := brT' g6
        have hl0 : 0 < l := Nat.le_of_ble_eq_true k1
        rw [natF_eq] at k2
        obtain ⟨k3, k4⟩ := lover_spec k2
        simp only [Tr.setK_eq, natF_eq] at k4
        have hlen : o + (l + m) * size ≤ vs.length := by
          have e1 : 0 < m * size := Nat.mul_pos (by omega) h0
          have e2 : (l + m) * size = l * size + m * size := Nat.add_mul _ _ _
          rcases k3 with k3 | k3
          · rw [k3] at hnl; simp at hnl; omega
          · rw [hnl] at k3; have e3 : Nat.add o (Nat.mul l size) = o + l * size := rfl; rw [e3] at k3; omega
        refine .inl ⟨Nat.le_of_ble_eq_true hc, hl0, hlen, _, rfl, ?_⟩
        rw [bsetK_eq]
        exact hK _ _ _ _ (by rw [hz]; exact hh.write hlb g2 (eb := .cells size _) rfl) k4
      | false =>
        rw [hc] at g6
        have hc' : c < l + m := Nat.lt_of_not_le fun h => by rw [show Nat.ble (Nat.add l m) c = true from Nat.ble_eq_true_of_le h] at hc; cases hc
        obtain ⟨k1, k2⟩ := brT' g6
        rw [natF_eq] at k2
        obtain ⟨k3, k4⟩ := lseg_spec k2
        simp only [lapp_eq, Tr.setK_eq, natF_eq] at k4
        refine .inr ⟨hc', Nat.le_of_ble_eq_true k1, ?_, _, rfl, ?_⟩
        · rcases k3 with k3 | k3
          · have k3' : l * size = 0 := k3
            rcases Nat.mul_eq_zero.1 k3' with h | h
            · exact .inl h
            · omega
          · exact .inr k3
        · rw [bsetK_eq]
          exact newE_spec (hh.write hlb g2 (eb := .dead) (b := .dead) rfl) hK k4
  · cases h4

theorem optK (hs : SlOk F sl) {x : Operand} {G : Value → Bool} (h : gv (cv x) F G = true) (hG : ∀ v, G v = true → K' v H) : evK sl x (fun v => K' v H) := by
  obtain ⟨v, h1, h2⟩ := gv_spec hs h
  simp only [evK, h1]; exact hG v h2

theorem e_alloc (hE : EOk P E) (hh : HOk B lim M n H) (hK : ∀ v M' n' H', HOk B lim M' n' H' → K v M' n' = true → K' v H') {e : TypeId} (h : eop (cOp E (.alloc e)) lim F M n K = true) : astep P E.T (.alloc e) sl H K' := by
  simp only [cOp] at h
  simp only [astep]
  split at h
  · rename_i i hi
    rw [hi]
    simp only [listNF_eq]
    exact allocE_spec hh (eb := .cells 1 _) rfl (show allocE M n (.cells 1 (cellsL i.zero)) (fun i M' n' => K (.pointer (some ⟨i, 0, none⟩)) M' n') = true from h) fun i M' n' H' h1 h2 => hK _ _ _ _ h1 h2
  · cases h
theorem e_box (hs : SlOk F sl) (hh : HOk B lim M n H) (hK : ∀ v M' n' H', HOk B lim M' n' H' → K v M' n' = true → K' v H') {e : TypeId} {x : Operand} (h : eop (cOp E (.box e x)) lim F M n K = true) : astep P E.T (.box e x) sl H K' := by
  simp only [cOp, eop] at h
  obtain ⟨v, h1, h2⟩ := gv_spec hs h
  rw [lfin_eq] at h2
  simp only [astep, evK, h1, listNF_eq]
  exact allocE_spec hh (eb := .cells 1 _) rfl h2 fun i M' n' H' h1 h2 => hK _ _ _ _ h1 h2
theorem e_build (hs : SlOk F sl) (hh : HOk B lim M n H) (hK : ∀ v M' n' H', HOk B lim M' n' H' → K v M' n' = true → K' v H') {t : TypeId} {ps : Array (Nat × Operand)} (h : eop (cOp E (.build t ps)) lim F M n K = true) : astep P E.T (.build t ps) sl H K' := by
  simp only [cOp] at h
  simp only [astep]
  split at h
  · rename_i i hi
    rw [hi]
    simp only
    split at h
    · rename_i fs hk
      split at h
      · rename_i ha
        split at h
        · rename_i l hl
          obtain ⟨pv, zs', k1, k2, k3⟩ := partsE_spec hs hl (show partsE F _ l _ = true from h)
          simp only [k1, hk, ha, k2, listNF_eq]
          exact (hK _ _ _ _ hh k3)
        · cases h
      · cases h
    · rename_i q e hk
      split at h
      · rename_i j hj
        split at h
        · rename_i l hl
          obtain ⟨pv, zs', k1, k2, k3⟩ := partsE_spec hs hl (show partsE F _ l _ = true from h)
          simp only [k1, hk, hj, k2, listNF_eq]
          exact (hK _ _ _ _ hh k3)
        · cases h
      · cases h
    · cases h
  · cases h
theorem e_bslice (hs : SlOk F sl) (hh : HOk B lim M n H) (hK : ∀ v M' n' H', HOk B lim M' n' H' → K v M' n' = true → K' v H') {t : TypeId} {len : Nat} {ps : Array (Nat × Operand)} (h : eop (cOp E (.buildSlice t len ps)) lim F M n K = true) : astep P E.T (.buildSlice t len ps) sl H K' := by
  simp only [cOp] at h
  simp only [astep]
  split at h
  · rename_i i hi
    rw [hi]
    simp only
    split at h
    · rename_i e hk
      split at h
      · rename_i j hj
        split at h
        · rename_i l hl
          split at h
          · rename_i hc
            simp only [hk, hj]
            obtain ⟨c1, c2⟩ := bnd hc
            obtain ⟨c3, c4⟩ := bnd c2
            have h' : lfin (zeroRep len (cellsL j.zero)) (partsE F (fun zs => newE M n j.size zs len K) l) = true := h
            rw [lfin_eq] at h'
            obtain ⟨pv, zs', k1, k2, k3⟩ := partsE_spec hs hl h'
            rw [k1]; simp only [k2, listNF_eq]
            exact ⟨⟨Nat.le_of_ble_eq_true c1, Nat.eq_of_beq_eq_true c3, Nat.le_of_ble_eq_true c4⟩, newE_spec hh hK k3⟩
          · cases h
        · cases h
      · cases h
    · cases h
  · cases h

theorem ptrE {v : Value} {G : Nat → Nat → Bool} (h : (match v with | .pointer (some ⟨b, o, none⟩) => G b o | _ => false) = true) : ∃ b o, v = .pointer (some ⟨b, o, none⟩) ∧ G b o = true := by
  split at h
  · exact ⟨_, _, rfl, h⟩
  · cases h

theorem e_load (hs : SlOk F sl) (hh : HOk B lim M n H) (hK : ∀ v M' n' H', HOk B lim M' n' H' → K v M' n' = true → K' v H') {t : TypeId} {x : Operand} (h : eop (cOp E (.load t x)) lim F M n K = true) : astep P E.T (.load t x) sl H K' := by
  simp only [cOp] at h
  simp only [astep]
  split at h
  · rename_i i hi
    rw [hi]
    simp only
    split at h
    · rename_i ha
      obtain ⟨v, h1, h2⟩ := gv_spec hs (show gv (cv x) F _ = true from h)
      obtain ⟨b, o, rfl, h3⟩ := ptrE (G := fun b o => cellsE M b _) h2
      obtain ⟨z, vs, g1, g2, g3, g4⟩ := cellsE_spec hh h3
      obtain ⟨g5, g6⟩ := lseg_spec g4
      simp only [h1, g1, ha]
      exact segK_of g5 (hK _ _ _ _ hh g6)
    · rename_i ha
      obtain ⟨v, h1, h2⟩ := gv_spec hs (show gv (cv x) F _ = true from h)
      obtain ⟨b, o, rfl, h3⟩ := ptrE (G := fun b o => cellsE M b _) h2
      obtain ⟨z, vs, g1, g2, g3, g4⟩ := cellsE_spec hh h3
      obtain ⟨u, g5, g6⟩ := lget_spec g4
      simp only [h1, g1, ha]
      exact ⟨u, g5, hK _ _ _ _ hh g6⟩
  · cases h
theorem e_store (hs : SlOk F sl) (hh : HOk B lim M n H) (hK : ∀ v M' n' H', HOk B lim M' n' H' → K v M' n' = true → K' v H') {t : TypeId} {x y : Operand} (h : eop (cOp E (.store t x y)) lim F M n K = true) : astep P E.T (.store t x y) sl H K' := by
  simp only [cOp] at h
  simp only [astep]
  split at h
  · rename_i i hi
    rw [hi]
    simp only
    obtain ⟨v, h1, h2⟩ := gv_spec hs (show gv (cv x) F _ = true from h)
    obtain ⟨b, o, rfl, h3⟩ := ptrE (G := fun b o => gv (cv y) F _) h2
    obtain ⟨u, h4, h5⟩ := gv_spec hs h3
    obtain ⟨z, vs, g1, g2, g3, g4⟩ := cellsE_spec hh h5
    obtain ⟨g5, g6⟩ := brT' g4
    obtain ⟨c1, c2⟩ := bnd g5
    obtain ⟨c3, c4⟩ := bnd c2
    obtain ⟨c5, c6⟩ := bnd c4
    obtain ⟨g7, g8⟩ := lover_spec g6
    rw [Tr.setK_eq] at g8
    rw [llen_eq] at c3 c6
    rw [allOne_eq] at c5
    simp only [h1, h4, cellsW g1 c1]
    refine ⟨⟨Nat.eq_of_beq_eq_true c3, c5, Nat.le_of_ble_eq_true c6⟩, _, rfl, ?_⟩
    rw [bsetK_eq]
    exact hK _ _ _ _ (hh.write (Nat.le_of_ble_eq_true c1) g2 (eb := .cells z _) rfl) g8
  · cases h
theorem e_nilc (hs : SlOk F sl) (hh : HOk B lim M n H) (hK : ∀ v M' n' H', HOk B lim M' n' H' → K v M' n' = true → K' v H') {x : Operand} (h : eop (cOp E (.nilCheck x)) lim F M n K = true) : astep P E.T (.nilCheck x) sl H K' := by
  simp only [cOp, eop] at h
  obtain ⟨v, h1, h2⟩ := gv_spec hs h
  simp only [astep, h1]
  split at h2 <;> first | (cases h2; done) | exact (hK _ _ _ _ hh h2)
theorem e_binOp (hE : EOk P E) (hs : SlOk F sl) (hh : HOk B lim M n H) (hK : ∀ v M' n' H', HOk B lim M' n' H' → K v M' n' = true → K' v H') {op : BinOp} {t u : TypeId} {x y : Operand} (h : eop (cOp E (.binOp op t x y u)) lim F M n K = true) : astep P E.T (.binOp op t x y u) sl H K' := by
  have ar : ∀ {op : BinOp}, eop (.arith op (cv x) (cv y)) lim F M n K = true → ∃ a b, ev sl x = some a ∧ ev sl y = some b ∧ abin op a b (fun v => K' v H) := by
    intro op h
    simp only [eop] at h
    obtain ⟨a, h1, h2⟩ := gv_spec hs h
    obtain ⟨b, h3, h4⟩ := gv_spec hs h2
    exact ⟨a, b, h1, h3, arithE_spec h4 fun v h => (hK _ _ _ _ hh h)⟩
  have eq : ∀ {neg : Bool} {i : TI}, tget E.T t = some i → eop (.eq neg (eqKind' E t x y i.kind) (cv x) (cv y)) lim F M n K = true → ∃ a b, ev sl x = some a ∧ ev sl y = some b ∧ aeq P E.T H t x y a b (fun r => K' (.bool (if neg then !r else r)) H) := by
    intro neg i hi h
    simp only [eop] at h
    obtain ⟨a, h1, h2⟩ := gv_spec hs h
    obtain ⟨b, h3, h4⟩ := gv_spec hs h2
    refine ⟨a, b, h1, h3, eqE_spec hE hh hi h4 fun r h => ?_⟩
    rw [boolF_eq] at h
    cases neg <;> exact (hK _ _ _ _ hh h)
  cases op <;> simp only [cOp] at h <;> simp only [astep]
  case eql =>
    split at h
    · rename_i i hi
      obtain ⟨a, b, h1, h2, h3⟩ := eq hi h
      rw [h1, h2]; exact h3
    · cases h
  case neq =>
    split at h
    · rename_i i hi
      obtain ⟨a, b, h1, h2, h3⟩ := eq hi h
      rw [h1, h2]; exact h3
    · cases h
  all_goals (obtain ⟨a, b, h1, h2, h3⟩ := ar h; rw [h1, h2]; exact h3)
theorem e_unOp (hs : SlOk F sl) (hh : HOk B lim M n H) (hK : ∀ v M' n' H', HOk B lim M' n' H' → K v M' n' = true → K' v H') {op : UnOp} {t : TypeId} {x : Operand} (h : eop (cOp E (.unOp op t x)) lim F M n K = true) : astep P E.T (.unOp op t x) sl H K' := by
  cases op <;> simp only [cOp] at h <;> simp only [astep]
  case not =>
    obtain ⟨a, h1, h2⟩ := gv_spec hs (show gv (cv x) F _ = true from h)
    split at h2
    · rw [h1]; rw [boolF_eq] at h2; exact (hK _ _ _ _ hh h2)
    · cases h2
  case neg =>
    obtain ⟨a, h1, h2⟩ := gv_spec hs (show gv (cv x) F _ = true from h)
    split at h2
    · rw [h1]; exact numE_spec h2 fun v h => (hK _ _ _ _ hh h)
    · cases h2
  all_goals cases h
theorem e_convert (hs : SlOk F sl) (hh : HOk B lim M n H) (hK : ∀ v M' n' H', HOk B lim M' n' H' → K v M' n' = true → K' v H') {s d : TypeId} {x : Operand} (h : eop (cOp E (.convert s d x)) lim F M n K = true) : astep P E.T (.convert s d x) sl H K' := by
  simp only [cOp] at h
  simp only [astep]
  split at h
  · rename_i i j hi hj
    rw [hi, hj]
    split at h
    · rename_i k1 k2 e1 e2
      obtain ⟨a, h1, h2⟩ := gv_spec hs (show gv (cv x) F _ = true from h)
      split at h2
      · simp only [h1, e1, e2]; exact numE_spec h2 fun v h => (hK _ _ _ _ hh h)
      · cases h2
    · rename_i e1 e2
      obtain ⟨a, h1, h2⟩ := gv_spec hs (show gv (cv x) F _ = true from h)
      split at h2
      · simp only [h1, e1, e2]; exact (hK _ _ _ _ hh h2)
      · cases h2
    · cases h
  · cases h
theorem e_mkIf (hs : SlOk F sl) (hh : HOk B lim M n H) (hK : ∀ v M' n' H', HOk B lim M' n' H' → K v M' n' = true → K' v H') {t : TypeId} {x : Operand} (h : eop (cOp E (.makeInterface t x)) lim F M n K = true) : astep P E.T (.makeInterface t x) sl H K' := by
  simp only [cOp] at h
  simp only [astep]
  split at h
  · rename_i i hi
    rw [hi]
    simp only
    split at h
    · cases h
    · rename_i hne
      obtain ⟨a, h1, h2⟩ := gv_spec hs (show gv (cv x) F _ = true from h)
      have : evK sl x (fun v => K' (.iface t v) H) := by simp only [evK, h1]; exact (hK _ _ _ _ hh h2)
      split
      · rename_i hk; exact absurd hk hne
      · exact this
  · cases h
theorem e_mkFn (hs : SlOk F sl) (hh : HOk B lim M n H) (hK : ∀ v M' n' H', HOk B lim M' n' H' → K v M' n' = true → K' v H') {fn : Fn} {a b : Array Operand} (h : eop (cOp E (.makeFunc fn a b)) lim F M n K = true) : astep P E.T (.makeFunc fn a b) sl H K' := by
  simp only [cOp] at h
  simp only [astep]
  split at h
  · cases h
  · rename_i hne
    obtain ⟨as, h1, h2⟩ := gvs_spec hs (show gvs (a.toList.map cv) F _ = true from h)
    obtain ⟨bs, h3, h4⟩ := gvs_spec hs h2
    rw [h1, h3]
    cases fn <;> first | exact (hK _ _ _ _ hh h4) | exact absurd rfl (hne _)
theorem e_mkSl (hs : SlOk F sl) (hh : HOk B lim M n H) (hK : ∀ v M' n' H', HOk B lim M' n' H' → K v M' n' = true → K' v H') {t : TypeId} {l c : Operand} (h : eop (cOp E (.makeSlice t l c)) lim F M n K = true) : astep P E.T (.makeSlice t l c) sl H K' := by
  simp only [cOp] at h
  simp only [astep]
  split at h
  · rename_i i hi
    rw [hi]
    simp only
    split at h
    · rename_i e hk
      split at h
      · rename_i j hj
        split at h
        · rename_i hc
          obtain ⟨c1, c2⟩ := bnd hc
          obtain ⟨a, h1, h2⟩ := gv_spec hs (show gv (cv l) F _ = true from h)
          obtain ⟨b, h3, h4⟩ := gv_spec hs h2
          split at h4
          · obtain ⟨q, rfl, h5⟩ := natOf_spec h4
            obtain ⟨r, rfl, h6⟩ := natOf_spec h5
            obtain ⟨g1, g2⟩ := brT' h6
            obtain ⟨g3, g4⟩ := bnd g1
            rw [lfin_eq] at g2
            simp only [hk, hj, h1, h3]
            refine ⟨⟨Nat.le_of_ble_eq_true c1, Nat.eq_of_beq_eq_true c2⟩, q, r, ⟨rfl, rfl⟩, ⟨Nat.le_of_ble_eq_true g3, Nat.le_of_ble_eq_true g4⟩, _, rfl, ?_⟩
            exact allocE_spec hh (eb := .cells j.size _) rfl g2 fun i M' n' H' h1 h2 => hK _ _ _ _ h1 h2
          · cases h4
        · cases h
      · cases h
    · cases h
  · cases h
theorem e_slice (hs : SlOk F sl) (hh : HOk B lim M n H) (hK : ∀ v M' n' H', HOk B lim M' n' H' → K v M' n' = true → K' v H') {t : TypeId} {x : Operand} {lo hi mx : Option Operand} (h : eop (cOp E (.slice t x lo hi mx)) lim F M n K = true) : astep P E.T (.slice t x lo hi mx) sl H K' := by
  cases mx with
  | some _ => cases h
  | none =>
  simp only [cOp] at h
  simp only [astep]
  split at h
  · rename_i i hi
    rw [hi]
    simp only
    split at h
    · rename_i e hk
      split at h
      · rename_i j hj
        obtain ⟨a, h1, h2⟩ := gv_spec hs (show gv (cv x) F _ = true from h)
        split at h2
        · obtain ⟨q, h3, h4⟩ := hiE_spec hs h2
          obtain ⟨r, h5, h6⟩ := hiE_spec hs h3
          obtain ⟨h7, h8⟩ := brT' h5
          obtain ⟨c1, c2⟩ := bnd h7
          obtain ⟨c3, c4⟩ := bnd c2
          obtain ⟨c5, c6⟩ := bnd c4
          have c1 := Nat.eq_of_beq_eq_true c1
          have c3 := Nat.eq_of_beq_eq_true c3
          have c5 := Nat.eq_of_beq_eq_true c5
          have c6 := Nat.eq_of_beq_eq_true c6
          subst c1; subst c3
          simp only [hk, hj, h1]
          exact h4 _ (h6 _ ⟨c6, c5, hK _ _ _ _ hh h8⟩)
        · rename_i b o m c
          obtain ⟨z, vs, g1, g2, g3, g4⟩ := cellsE_spec hh h2
          obtain ⟨g5, g6⟩ := brT' g4
          obtain ⟨q, h3, h4⟩ := hiE_spec hs g6
          obtain ⟨r, h5, h6⟩ := hiE_spec hs h3
          obtain ⟨h7, h8⟩ := brT' h5
          obtain ⟨c1, c2⟩ := bnd h7
          simp only [natF_eq] at h8
          simp only [hk, hj, h1, g1]
          exact ⟨Nat.eq_of_beq_eq_true g5, h4 _ (h6 _ ⟨⟨Nat.le_of_ble_eq_true c1, Nat.le_of_ble_eq_true c2⟩, hK _ _ _ _ hh h8⟩)⟩
        · cases h2
      · cases h
    · rename_i hk
      obtain ⟨a, h1, h2⟩ := gv_spec hs (show gv (cv x) F _ = true from h)
      split at h2
      · obtain ⟨q, h3, h4⟩ := hiE_spec hs h2
        obtain ⟨r, h5, h6⟩ := hiE_spec hs h3
        obtain ⟨h7, h8⟩ := brT' h5
        obtain ⟨c1, c2⟩ := bnd h7
        simp only [hk, h1]
        exact h4 _ (h6 _ ⟨⟨Nat.le_of_ble_eq_true c1, Nat.le_of_ble_eq_true c2⟩, hK _ _ _ _ hh h8⟩)
      · cases h2
    · cases h
  · cases h
theorem e_faddr (hs : SlOk F sl) (hh : HOk B lim M n H) (hK : ∀ v M' n' H', HOk B lim M' n' H' → K v M' n' = true → K' v H') {t : TypeId} {x : Operand} {f : Nat} (h : eop (cOp E (.fieldAddr t x f)) lim F M n K = true) : astep P E.T (.fieldAddr t x f) sl H K' := by
  simp only [cOp] at h
  simp only [astep]
  split at h
  · rename_i i hi
    rw [hi]
    simp only
    split at h
    · rename_i fs hk
      split at h
      · rename_i off u hf
        split at h
        · rename_i j hj
          split at h
          · cases h
          · rename_i s hsz
            obtain ⟨v, h1, h2⟩ := gv_spec hs (show gv (cv x) F _ = true from h)
            obtain ⟨b, o, rfl, h3⟩ := ptrE (G := fun b o => cellsE M b _) h2
            obtain ⟨z, vs, g1, g2, g3, g4⟩ := cellsE_spec hh h3
            rw [natF_eq] at g4
            simp only [hk, hf, hj, h1, g1]
            exact ⟨by rw [hsz]; simp, hK _ _ _ _ hh g4⟩
        · cases h
      · cases h
    · cases h
  · cases h
theorem lseg_in {α : Type} {l : List α} {o m : Nat} {K : List α → Bool} (h : lseg l o (m + 1) K = true) : o + (m + 1) ≤ l.length ∧ K ((l.drop o).take (m + 1)) = true := by
  obtain ⟨h1, h2⟩ := lseg_spec h
  rcases h1 with h1 | h1
  · cases h1
  · exact ⟨h1, h2⟩
theorem e_field (hs : SlOk F sl) (hh : HOk B lim M n H) (hK : ∀ v M' n' H', HOk B lim M' n' H' → K v M' n' = true → K' v H') {t : TypeId} {x : Operand} {f : Nat} (h : eop (cOp E (.field t x f)) lim F M n K = true) : astep P E.T (.field t x f) sl H K' := by
  simp only [cOp] at h
  simp only [astep]
  split at h
  · rename_i i hi
    rw [hi]
    simp only
    split at h
    · rename_i fs hk
      split at h
      · rename_i off u hf
        split at h
        · rename_i j hj
          split at h
          · rename_i ha
            split at h
            · cases h
            · rename_i s hsz
              obtain ⟨v, h1, h2⟩ := gv_spec hs (show gv (cv x) F _ = true from h)
              split at h2
              · obtain ⟨g1, g2⟩ := lseg_in h2
                simp only [hk, hf, hj, h1, ha, listNF_eq, hsz]
                exact ⟨g1, hK _ _ _ _ hh g2⟩
              · cases h2
          · rename_i ha
            obtain ⟨v, h1, h2⟩ := gv_spec hs (show gv (cv x) F _ = true from h)
            split at h2
            · obtain ⟨u, g1, g2⟩ := lget_spec h2
              simp only [hk, hf, hj, h1, ha]
              exact ⟨u, g1, hK _ _ _ _ hh g2⟩
            · cases h2
        · cases h
      · cases h
    · cases h
  · cases h
theorem e_idx (hs : SlOk F sl) (hh : HOk B lim M n H) (hK : ∀ v M' n' H', HOk B lim M' n' H' → K v M' n' = true → K' v H') {t : TypeId} {x y : Operand} (h : eop (cOp E (.indexAddr t x y)) lim F M n K = true) : astep P E.T (.indexAddr t x y) sl H K' := by
  simp only [cOp] at h
  simp only [astep]
  split at h
  · rename_i i hi
    rw [hi]
    simp only
    split at h
    · rename_i e hk
      split at h
      · rename_i j hj
        obtain ⟨v, h1, h2⟩ := gv_spec hs (show gv (cv x) F _ = true from h)
        obtain ⟨u, h3, h4⟩ := gv_spec hs h2
        split at h4
        · obtain ⟨q, rfl, h5⟩ := natOf_spec h4
          obtain ⟨g1, g2⟩ := brT' h5
          obtain ⟨z, vs, k1, k2, k3, k4⟩ := cellsE_spec hh g2
          rw [natF_eq] at k4
          simp only [hk, hj, h1, h3, k1]
          exact ⟨q, rfl, Nat.le_of_ble_eq_true g1, hK _ _ _ _ hh k4⟩
        · cases h4
      · cases h
    · rename_i len e hk
      split at h
      · rename_i j hj
        obtain ⟨v, h1, h2⟩ := gv_spec hs (show gv (cv x) F _ = true from h)
        obtain ⟨u, h3, h4⟩ := gv_spec hs h2
        split at h4
        · obtain ⟨q, rfl, h5⟩ := natOf_spec h4
          obtain ⟨g1, g2⟩ := brT' h5
          obtain ⟨z, vs, k1, k2, k3, k4⟩ := cellsE_spec hh g2
          rw [natF_eq] at k4
          simp only [hk, hj, h1, h3, k1]
          exact ⟨q, rfl, Nat.le_of_ble_eq_true g1, hK _ _ _ _ hh k4⟩
        · cases h4
      · cases h
    · cases h
  · cases h
theorem e_index (hs : SlOk F sl) (hh : HOk B lim M n H) (hK : ∀ v M' n' H', HOk B lim M' n' H' → K v M' n' = true → K' v H') {t : TypeId} {x y : Operand} (h : eop (cOp E (.index t x y)) lim F M n K = true) : astep P E.T (.index t x y) sl H K' := by
  simp only [cOp] at h
  simp only [astep]
  split at h
  · rename_i i hi
    rw [hi]
    simp only
    split at h
    · rename_i hk
      obtain ⟨v, h1, h2⟩ := gv_spec hs (show gv (cv x) F _ = true from h)
      obtain ⟨u, h3, h4⟩ := gv_spec hs h2
      split at h4
      · obtain ⟨q, rfl, h5⟩ := natOf_spec h4
        split at h5
        · rename_i b hb
          rw [natF_eq] at h5
          simp only [h1, h3, hk]
          exact ⟨q, b, rfl, hb, hK _ _ _ _ hh h5⟩
        · cases h5
      · cases h4
    · rename_i len e hk
      split at h
      · rename_i j hj
        split at h
        · rename_i ha
          split at h
          · cases h
          · rename_i s hsz
            obtain ⟨v, h1, h2⟩ := gv_spec hs (show gv (cv x) F _ = true from h)
            obtain ⟨u, h3, h4⟩ := gv_spec hs h2
            split at h4
            · obtain ⟨q, rfl, h5⟩ := natOf_spec h4
              obtain ⟨g1, g2⟩ := brT' h5
              rw [natF_eq] at g2
              obtain ⟨g3, g4⟩ := lseg_in g2
              simp only [h1, h3, hk, hj, ha, listNF_eq, hsz]
              exact ⟨q, ⟨rfl, Nat.le_of_ble_eq_true g1⟩, g3, hK _ _ _ _ hh g4⟩
            · cases h4
        · rename_i ha
          obtain ⟨v, h1, h2⟩ := gv_spec hs (show gv (cv x) F _ = true from h)
          obtain ⟨u, h3, h4⟩ := gv_spec hs h2
          split at h4
          · obtain ⟨q, rfl, h5⟩ := natOf_spec h4
            obtain ⟨g1, g2⟩ := brT' h5
            rw [natF_eq] at g2
            obtain ⟨u, g3, g4⟩ := lget_spec g2
            simp only [h1, h3, hk, hj, ha]
            exact ⟨q, ⟨rfl, Nat.le_of_ble_eq_true g1⟩, u, g3, hK _ _ _ _ hh g4⟩
          · cases h4
      · cases h
    · cases h
  · cases h
theorem e_tassert (hs : SlOk F sl) (hh : HOk B lim M n H) (hK : ∀ v M' n' H', HOk B lim M' n' H' → K v M' n' = true → K' v H') {x : Operand} {t a : TypeId} {ok : Bool} (h : eop (cOp E (.typeAssert x t a ok)) lim F M n K = true) : astep P E.T (.typeAssert x t a ok) sl H K' := by
  simp only [cOp] at h
  simp only [astep]
  split at h
  · rename_i i hi
    rw [hi]
    simp only
    split at h
    · cases h
    · rename_i hne
      obtain ⟨v, h1, h2⟩ := gv_spec hs (show gv (cv x) F _ = true from h)
      split at h2
      · rename_i u v
        split
        · rename_i hk; exact absurd hk hne
        · simp only [h1]
          cases hb : Nat.beq u a <;> cases ok <;> rw [hb] at h2 <;> first | (cases h2; done) | exact (hK _ _ _ _ hh h2)
      · cases h2
  · cases h
theorem e_extr (hs : SlOk F sl) (hh : HOk B lim M n H) (hK : ∀ v M' n' H', HOk B lim M' n' H' → K v M' n' = true → K' v H') {x : Operand} {i : Nat} (h : eop (cOp E (.extract x i)) lim F M n K = true) : astep P E.T (.extract x i) sl H K' := by
  simp only [cOp, eop] at h
  obtain ⟨v, h1, h2⟩ := gv_spec hs h
  simp only [astep, h1]
  split at h2
  · obtain ⟨u, g1, g2⟩ := lget_spec h2
    exact ⟨u, g1, hK _ _ _ _ hh g2⟩
  · cases h2
theorem e_builtin (hs : SlOk F sl) (hh : HOk B lim M n H) (hK : ∀ v M' n' H', HOk B lim M' n' H' → K v M' n' = true → K' v H') {b : Builtin} {args : Array Operand} {ats : Array TypeId} (h : eop (cOp E (.call ⟨.builtin b, args, ats⟩)) lim F M n K = true) : astep P E.T (.call ⟨.builtin b, args, ats⟩) sl H K' := by
  cases b <;> simp only [cOp] at h <;> simp only [astep] <;> try (cases h; done)
  case len =>
    split at h
    · rename_i x t e1 e2
      rw [e1, e2]
      simp only
      split at h
      · rename_i i hi
        rw [hi]
        split at h
        · rename_i e hk
          obtain ⟨v, h1, h2⟩ := gv_spec hs (show gv (cv x) F _ = true from h)
          split at h2
          · simp only [h1, hk]; exact (hK _ _ _ _ hh h2)
          · cases h2
        · rename_i hk
          obtain ⟨v, h1, h2⟩ := gv_spec hs (show gv (cv x) F _ = true from h)
          split at h2
          · simp only [h1, hk]; rw [natF_eq] at h2; exact (hK _ _ _ _ hh h2)
          · cases h2
        · rename_i q e hk
          obtain ⟨v, h1, h2⟩ := gv_spec hs (show gv (cv x) F _ = true from h)
          simp only [h1, hk]; exact (hK _ _ _ _ hh h2)
        · cases h
      · cases h
    · cases h
  case append =>
    split at h
    · rename_i s x ts tx e1 e2
      rw [e1, e2]
      simp only
      split at h
      · rename_i i ix hi hx
        rw [hi, hx]
        split at h
        · rename_i e hk
          split at h
          · rename_i j hj
            split at h
            · rename_i hc
              obtain ⟨c1, c2⟩ := bnd hc
              have c1 := Nat.le_of_ble_eq_true c1
              have c2 := Nat.eq_of_beq_eq_true c2
              split at h
              · rename_i e' hk'
                obtain ⟨v, h1, h2⟩ := gv_spec hs (show gv (cv s) F _ = true from h)
                obtain ⟨u, h3, h4⟩ := gv_spec hs h2
                simp only [h1, h3, hk, hj, hk']
                exact ⟨c2, appE_spec hh hK c1 h4⟩
              · rename_i hk'
                obtain ⟨v, h1, h2⟩ := gv_spec hs (show gv (cv s) F _ = true from h)
                obtain ⟨u, h3, h4⟩ := gv_spec hs h2
                simp only [h1, h3, hk, hj, hk']
                exact ⟨c2, appE_spec hh hK c1 h4⟩
              · cases h
            · cases h
          · cases h
        · cases h
      · cases h
    · cases h
  case max =>
    split at h
    · rename_i x y e1
      rw [e1]
      obtain ⟨u, h1, h5⟩ := gv_spec hs (show gv (cv x) F _ = true from h)
      obtain ⟨v, h2, h6⟩ := gv_spec hs h5
      split at h6
      case h_2 => cases h6
      rename_i k a j b
      obtain ⟨h3, h4⟩ := brT' h6
      simp only [h1, h2, h3]
      rw [ile_eq] at h4
      by_cases hab : a ≤ b
      · simp only [hab, decide_true] at h4; rw [show max a b = b by omega]; exact (hK _ _ _ _ hh h4)
      · simp only [hab, decide_false] at h4; rw [show max a b = a by omega]; exact (hK _ _ _ _ hh h4)
    · cases h
  case min =>
    split at h
    · rename_i x y e1
      rw [e1]
      obtain ⟨u, h1, h5⟩ := gv_spec hs (show gv (cv x) F _ = true from h)
      obtain ⟨v, h2, h6⟩ := gv_spec hs h5
      split at h6
      case h_2 => cases h6
      rename_i k a j b
      obtain ⟨h3, h4⟩ := brT' h6
      simp only [h1, h2, h3]
      rw [ile_eq] at h4
      by_cases hab : a ≤ b
      · simp only [hab, decide_true] at h4; rw [show min a b = a by omega]; exact (hK _ _ _ _ hh h4)
      · simp only [hab, decide_false] at h4; rw [show min a b = b by omega]; exact (hK _ _ _ _ hh h4)
    · cases h

def Op.isCallV : Op → Bool
  | .call ⟨.value _, _, _⟩ | .call ⟨.invoke _ _, _, _⟩ => true
  | _ => false

/-- EVERY OPERATION THAT RUNS NO CODE. -/
theorem eop_ok (hE : EOk P E) (hs : SlOk F sl) (hh : HOk B lim M n H) (hK : ∀ v M' n' H', HOk B lim M' n' H' → K v M' n' = true → K' v H') {o : Op} (h : eop (cOp E o) lim F M n K = true) : astep P E.T o sl H K' := by
  cases o with
  | move x => exact optK hs (show gv (cv x) F _ = true from h) fun v h => (hK _ _ _ _ hh h)
  | assign x => exact optK hs (show gv (cv x) F _ = true from h) fun v h => (hK _ _ _ _ hh h)
  | pick c a b =>
    obtain ⟨v, h1, h2⟩ := gv_spec hs (show gv (cv c) F _ = true from h)
    split at h2
    · rename_i t
      simp only [astep, h1]
      cases t
      · exact optK hs h2 fun v h => (hK _ _ _ _ hh h)
      · exact optK hs h2 fun v h => (hK _ _ _ _ hh h)
    · cases h2
  | alloc e => exact e_alloc hE hh hK h
  | box e x => exact e_box hs hh hK h
  | build t ps => exact e_build hs hh hK h
  | buildSlice t l ps => exact e_bslice hs hh hK h
  | load t x => exact e_load hs hh hK h
  | store t x y => exact e_store hs hh hK h
  | nilCheck x => exact e_nilc hs hh hK h
  | binOp op t x y u => exact e_binOp hE hs hh hK h
  | unOp op t x => exact e_unOp hs hh hK h
  | convert s d x => exact e_convert hs hh hK h
  | makeInterface t x => exact e_mkIf hs hh hK h
  | makeFunc fn a b => exact e_mkFn hs hh hK h
  | makeSlice t l c => exact e_mkSl hs hh hK h
  | slice t x lo hi mx => exact e_slice hs hh hK h
  | fieldAddr t x f => exact e_faddr hs hh hK h
  | field t x f => exact e_field hs hh hK h
  | indexAddr t x i => exact e_idx hs hh hK h
  | index t x i => exact e_index hs hh hK h
  | typeAssert x t a ok => exact e_tassert hs hh hK h
  | extract t i => exact e_extr hs hh hK h
  | call c =>
    obtain ⟨callee, args, ats⟩ := c
    cases callee with
    | value f => cases h
    | invoke r m => cases h
    | builtin b => exact e_builtin hs hh hK h
  | _ => cases h
end
end Go.Af
