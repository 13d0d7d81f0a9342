/-
  Code that computes is sound: regions, control, functions.
-/
import Derived.Test.YtkmhpolbhjgpoaaE7
namespace Go.Af
open Go
variable {rd : Bool}
attribute [local irreducible] awp ACall ACallX AYield

section
variable {P : Program} {E : Env} {ev : Ev} {B M : Tr EB} {lim n nt : Nat} {H : List Blk} {F : Tr Value} {sl : List (Nat × Value)} {K : HK}

theorem SlOk.put (hs : SlOk F sl) (d : Nat) (v : Value) : SlOk (F.set v (psOf d)) ((d, v) :: sl) := by
  intro s u hu
  rw [Tr.get_set] at hu
  simp only [look]
  split at hu
  · rename_i hp; have := psOf_inj hp; subst this; cases hu; simp
  · rename_i hp
    have : Nat.beq d s = false := by cases hb : Nat.beq d s with | false => rfl | true => exact absurd (by rw [Nat.eq_of_beq_eq_true hb]) hp
    rw [this]; exact hs s u hu

theorem dstE_spec (hs : SlOk F sl) {d : Option Tmp} {v : Value} {G : Tr Value → Bool} (h : dstE (cDst nt d) v F G = true) {G' : List (Nat × Value) → Prop} (hG : ∀ F' sl', SlOk F' sl' → G F' = true → G' sl') : putK nt d v sl G' := by
  cases d with
  | none => exact hG _ _ hs h
  | some d =>
    simp only [cDst] at h
    simp only [putK]
    split at h
    · rename_i hb
      rw [hb]
      have h' : F.setK v (psOf d) G = true := h
      rw [Tr.setK_eq] at h'
      exact hG _ _ (hs.put d v) h'
    · cases h

theorem guardE_spec (hs : SlOk F sl) {all : List Oper} {g : Option (Nat × Bool)} {yes no : Bool} (h : guardE (cGuard all g) F yes no = true) {Y N : List (Nat × Value) → Prop}
    (hY : ∀ sl', SlOk F sl' → yes = true → Y sl') (hN : ∀ sl', SlOk F sl' → no = true → N sl') : guardK all g sl Y N := by
  cases g with
  | none => exact hY _ hs h
  | some g =>
    obtain ⟨j, want⟩ := g
    simp only [cGuard] at h
    simp only [guardK]
    split at h
    · cases h
    · rename_i d hd
      obtain ⟨v, h1, h2⟩ := Tr.getK_spec (show F.getK _ (psOf d) = true from h)
      have hl := hs d v h1
      have re : ∀ b, v = .bool b → SlOk F ((d, .bool b) :: sl) := by
        intro b hb s u hu
        simp only [look]
        cases hbq : Nat.beq d s with
        | true =>
          have := Nat.eq_of_beq_eq_true hbq
          subst this
          rw [h1] at hu; rw [← hb]; exact hu
        | false => exact hs s u hu
      rw [hd]; simp only [hl]
      split at h2
      · rename_i b
        simp only
        refine ⟨fun hb => ?_, fun hb => ?_⟩
        · subst hb; refine hY _ (re _ rfl) ?_; cases b <;> exact h2
        · subst hb; refine hN _ (re _ rfl) ?_; cases want <;> exact h2
      · exact hN _ hs h2
      · cases h2

theorem vops_ok (hE : EOk P E) (hev : EvOk P ev) {all : List Oper} : ∀ {l : List Oper} {F : Tr Value} {M : Tr EB} {n : Nat} {H : List Blk} {sl : List (Nat × Value)} {k : St → Bool} (_ : runOps ev lim (cOps E nt all l) F M n k = true) (_ : SlOk F sl) (_ : HOk B lim M n H)
    {Q : List (Nat × Value) → List Blk → Prop} (_ : ∀ s sl' H', SlOk s.F sl' → HOk B lim s.M s.n H' → k s = true → Q sl' H'), vops P E.T nt all l Q sl H
  | [], F, M, n, H, sl, k, h, hs, hh, Q, hQ => hQ _ _ _ hs hh h
  | o :: l, F, M, n, H, sl, k, h, hs, hh, Q, hQ => by
    simp only [vops]
    have h' : guardE (cGuard all o.guard) F (opE ev lim false (cOp E o.op) F M n (fun v M' n' => dstE (cDst nt o.dst) v F (fun F' => runOps ev lim (cOps E nt all l) F' M' n' k)))
      (dstE (cDst nt o.dst) undef F (fun F' => runOps ev lim (cOps E nt all l) F' M n k)) = true := h
    refine guardE_spec hs h' (fun sl' hs' h1 => ?_) (fun sl' hs' h1 => ?_)
    · refine opE_c hE hev hs' hh (fun v M' n' H' hh' h2 => ?_) h1
      exact dstE_spec hs' h2 fun F' sl2 hs2 h3 => vops_ok hE hev h3 hs2 hh' hQ
    · exact dstE_spec hs' h1 fun F' sl2 hs2 h3 => vops_ok hE hev h3 hs2 hh hQ

theorem vopsO_ok (hE : EOk P E) (hev : EvOk P ev) {all : List Oper} {qs : List Bool} : ∀ {σ : List Nat} {F : Tr Value} {M : Tr EB} {n : Nat} {H : List Blk} {sl : List (Nat × Value)} {k : St → Bool} (_ : runOps ev lim (cOrd E nt all qs σ) F M n k = true) (_ : SlOk F sl) (_ : HOk B lim M n H)
    {Q : List (Nat × Value) → List Blk → Prop} (_ : ∀ s sl' H', SlOk s.F sl' → HOk B lim s.M s.n H' → k s = true → Q sl' H'), vopsO P E.T nt all qs σ Q sl H
  | [], F, M, n, H, sl, k, h, hs, hh, Q, hQ => hQ _ _ _ hs hh h
  | i :: σ, F, M, n, H, sl, k, h, hs, hh, Q, hQ => by
    simp only [vopsO]
    cases ho : opGet all i with
    | none =>
      have h' : runOps ev lim ((match opGet all i with | some o => cOper E nt all (bAt qs i) o | none => badOp) :: cOrd E nt all qs σ) F M n k = true := h
      rw [ho] at h'; cases h'
    | some o =>
      have h' : runOps ev lim ((match opGet all i with | some o => cOper E nt all (bAt qs i) o | none => badOp) :: cOrd E nt all qs σ) F M n k = true := h
      rw [ho] at h'
      have h' : guardE (cGuard all o.guard) F (opE ev lim (bAt qs i) (cOp E o.op) F M n (fun v M' n' => dstE (cDst nt o.dst) v F (fun F' => runOps ev lim (cOrd E nt all qs σ) F' M' n' k)))
        (dstE (cDst nt o.dst) undef F (fun F' => runOps ev lim (cOrd E nt all qs σ) F' M n k)) = true := h'
      refine guardE_spec hs h' (fun sl' hs' h1 => ?_) (fun sl' hs' h1 => ?_)
      · refine stepE_ok hE hev hs' hh (fun v M' n' H' hh' h2 => ?_) h1
        exact dstE_spec hs' h2 fun F' sl2 hs2 h3 => vopsO_ok hE hev h3 hs2 hh' hQ
      · exact dstE_spec hs' h1 fun F' sl2 hs2 h3 => vopsO_ok hE hev h3 hs2 hh hQ

theorem loopE_spec (hh : HOk B lim M n H) {l : Nat} {G : LoopState → Option Code → Nat → Tr Value → Array Tmp → Code → Code → DT → Bool} (h : loopE M l G = true) :
    ∃ st pend m F ps as body dr, M.get (psOf l) = some (.loop st pend m F ps as body dr) ∧ l < n ∧ G st pend m F ps as body dr = true ∧
      ((lim ≤ l ∧ ∃ sl, SlOk F sl ∧ bget H l = some (.loop st pend m sl ps as body)) ∨ bget H l = some .ghost) := by
  obtain ⟨eb, h1, h2⟩ := Tr.getK_spec h
  obtain ⟨h3, b, h4, h5⟩ := hh.get l eb h1
  split at h2
  · rename_i st pend m F ps as body dr
    refine ⟨st, pend, m, F, ps, as, body, dr, h1, h3, h2, ?_⟩
    cases hb : Nat.ble lim l with
    | true =>
      rw [hb] at h5
      obtain ⟨sl, h6, h7⟩ := h5
      exact .inl ⟨Nat.le_of_ble_eq_true hb, sl, h6, by rw [bget_eq, h4, h7]⟩
    | false =>
      rw [hb] at h5
      simp only [BOk] at h5
      exact .inr (by rw [bget_eq, h4, h5])
  · cases h2
theorem loopW (hh : HOk B lim M n H) {l : Nat} (hl : Nat.ble lim l = true) {G : LoopState → Option Code → Nat → Tr Value → Array Tmp → Code → Code → DT → Bool} (h : loopE M l G = true) :
    ∃ st pend m F ps as body dr sl, l < n ∧ lim ≤ l ∧ G st pend m F ps as body dr = true ∧ SlOk F sl ∧ bget H l = some (.loop st pend m sl ps as body) := by
  obtain ⟨eb, h1, h2⟩ := Tr.getK_spec h
  obtain ⟨h3, b, h4, h5⟩ := hh.get l eb h1
  split at h2
  · rename_i st pend m F ps as body dr
    rw [hl] at h5
    obtain ⟨sl, h6, h7⟩ := h5
    exact ⟨st, pend, m, F, ps, as, body, dr, sl, h3, Nat.le_of_ble_eq_true hl, h2, h6, by rw [bget_eq, h4, h7]⟩
  · cases h2

theorem endE_spec (hh : HOk B lim M n H) {l : Nat} {G : Ex → Tr EB → Bool} (h : endE lim l M G = true) {Q : Ex → List Blk → Prop} (hQ : ∀ e M' H', HOk B lim M' n H' → G e M' = true → Q e H') : rangeEnd l H Q := by
  obtain ⟨hl, h1⟩ := brT' h
  obtain ⟨st, pend, m, F, ps, as, body, dr, sl, k1, k2, k3, k4, k5⟩ := loopW hh hl h1
  have fin : ∀ {K' : Ex → Prop} {G' : Ex → Bool}, jumpE pend G' = true → (∀ e, G' e = true → K' e) → jumpK pend K' := by
    intro K' G' hj hk
    unfold jumpE at hj
    split at hj
    · exact hk _ hj
    · exact hk _ hj
    · exact hk _ hj
    · cases hj
  unfold rangeEnd
  rw [k5]
  have w : HOk B lim (M.set (.loop .exhausted pend m F ps as body dr) (psOf l)) n (H.set l (.loop .exhausted pend m sl ps as body)) := hh.write k2 k1 ⟨sl, k4, rfl⟩
  cases st with
  | busy => cases k3
  | ready => rw [Tr.setK_eq] at k3; simp only [bsetK_eq]; exact fin k3 fun e h => hQ e _ _ w h
  | done => rw [Tr.setK_eq] at k3; simp only [bsetK_eq]; exact fin k3 fun e h => hQ e _ _ w h
  | exhausted => rw [Tr.setK_eq] at k3; simp only [bsetK_eq]; exact fin k3 fun e h => hQ e _ _ w h

theorem turnE_spec (hh : HOk B lim M n H) {l : Nat} {st' : LoopState} {pend' : Option Code} {G : Tr EB → Bool} (h : turnE lim l st' pend' M G = true) :
    ∃ st pend m sl ps as body M', bget H l = some (.loop st pend m sl ps as body) ∧ HOk B lim M' n (H.set l (.loop st' pend' m sl ps as body)) ∧ G M' = true := by
  obtain ⟨hl, h1⟩ := brT' h
  obtain ⟨st, pend, m, F, ps, as, body, dr, sl, k1, k2, k3, k4, k5⟩ := loopW hh hl h1
  rw [Tr.setK_eq] at k3
  exact ⟨st, pend, m, sl, ps, as, body, _, k5, hh.write k2 k1 (eb := .loop st' pend' m F ps as body dr) ⟨sl, k4, rfl⟩, k3⟩

theorem runC_ok (hE : EOk P E) (hev : EvOk P ev) (hm : P.follows .mixedOrders = true) {dr : DT} {n0 : Nat} : ∀ (c : Code) {k : Ex → St → Bool} {s : St} {sl : List (Nat × Value)} {H : List Blk} (_ : runC ev lim (comp E dr nt rd c) k s = true) (_ : SlOk s.F sl) (_ : HOk B lim s.M s.n H)
    {Q : Ex → List (Nat × Value) → List Blk → Prop} (_ : ∀ e s' sl' H', SlOk s'.F sl' → HOk B lim s'.M s'.n H' → k e s' = true → Q e sl' H'), vcg P E.T rd n0 nt c Q sl H
  | .skip, k, s, sl, H, h, hs, hh, Q, hQ => hQ _ _ _ _ hs hh h
  | .region id ops draw, k, s, sl, H, h, hs, hh, Q, hQ => by
    cases draw with
    | false => exact vops_ok hE hev (show runOps ev lim (cOps E nt ops.toList ops.toList) s.F s.M s.n (fun s => k .normal s) = true from h) hs hh fun s' sl' H' h1 h2 h3 => hQ _ _ _ _ h1 h2 h3
    | true =>
      have h' : runC ev lim (match ndF dr id with
        | some d => match drawB ops d.1.toArray d.2.1 d.2.2 with
          | true => .reg (cOrd E nt ops.toList d.2.1 d.2.2)
          | false => .bad
        | none => .bad) k s = true := h
      split at h'
      · rename_i d hd
        split at h'
        · rename_i hB
          obtain ⟨l⟩ := ops
          exact vcg_draw hE.T hm d.1 d.2.1 d.2.2 hB (vopsO_ok hE hev (show runOps ev lim (cOrd E nt l d.2.1 d.2.2) s.F s.M s.n (fun s => k .normal s) = true from h') hs hh fun s' sl' H' h1 h2 h3 => hQ _ _ _ _ h1 h2 h3)
        · cases h'
      · cases h'
  | .seq x y, k, s, sl, H, h, hs, hh, Q, hQ => by
    simp only [vcg]
    refine runC_ok hE hev hm x (show runC ev lim (comp E dr nt rd x) (fun e s => Ex.rec (runC ev lim (comp E dr nt rd y) k s) (fun i => k (.exit i) s) (k .ret s) e) s = true from h) hs hh fun e s' sl' H' h1 h2 h3 => ?_
    cases e with
    | normal => exact runC_ok hE hev hm y h3 h1 h2 hQ
    | exit i => exact hQ _ _ _ _ h1 h2 h3
    | ret => exact hQ _ _ _ _ h1 h2 h3
  | .cond c x y, k, s, sl, H, h, hs, hh, Q, hQ => by
    obtain ⟨v, h1, h2⟩ := gv_spec hs (show gv (cv c) s.F _ = true from h)
    simp only [vcg, condK, h1]
    split at h2
    · rename_i t
      refine ⟨fun ht => ?_, fun ht => ?_⟩
      · subst ht; exact runC_ok hE hev hm x h2 hs hh hQ
      · subst ht; exact runC_ok hE hev hm y h2 hs hh hQ
    · cases h2
  | .block id c, k, s, sl, H, h, hs, hh, Q, hQ => by
    simp only [vcg]
    refine runC_ok hE hev hm c (show runC ev lim (comp E dr nt rd c) (fun e s => Ex.rec (k .normal s) (fun i => Bool.rec (k (.exit i) s) (k .normal s) (Nat.beq i id)) (k .ret s) e) s = true from h) hs hh fun e s' sl' H' h1 h2 h3 => ?_
    cases e with
    | normal => exact hQ _ _ _ _ h1 h2 h3
    | exit i =>
      cases hb : Nat.beq i id with
      | true => simp only [hb] at h3 ⊢; exact hQ _ _ _ _ h1 h2 h3
      | false => simp only [hb] at h3 ⊢; exact hQ _ _ _ _ h1 h2 h3
    | ret => exact hQ _ _ _ _ h1 h2 h3
  | .loop c, k, s, sl, H, h, hs, hh, Q, hQ => by
    have go : ∀ m, (Nat.rec (motive := fun _ => St → Bool) (fun _ => false) (fun _ ih s => runC ev lim (comp E dr nt rd c) (fun e s => Ex.rec (ih s) (fun i => k (.exit i) s) (k .ret s) e) s) m) s = true → awp P rd n0 (.loop c) (aft nt Q) ⟨nt, sl⟩ H := by
      intro m hm0
      refine vcg_loop hE.T (fun m sl H => ∃ s, SlOk s.F sl ∧ HOk B lim s.M s.n H ∧ (Nat.rec (motive := fun _ => St → Bool) (fun _ => false) (fun _ ih s => runC ev lim (comp E dr nt rd c) (fun e s => Ex.rec (ih s) (fun i => k (.exit i) s) (k .ret s) e) s) m) s = true) m ⟨s, hs, hh, hm0⟩ ?_
      rintro m sl H ⟨s, hs, hh, hr⟩
      cases m with
      | zero => cases hr
      | succ m =>
        refine runC_ok hE hev hm c (show runC ev lim (comp E dr nt rd c) (fun e s => Ex.rec (Nat.rec (motive := fun _ => St → Bool) (fun _ => false) (fun _ ih s => runC ev lim (comp E dr nt rd c) (fun e s => Ex.rec (ih s) (fun i => k (.exit i) s) (k .ret s) e) s) m s) (fun i => k (.exit i) s) (k .ret s) e) s = true from hr) hs hh fun e s' sl' H' h1 h2 h3 => ?_
        cases e with
        | normal => exact ⟨m, Nat.lt_succ_self _, s', h1, h2, h3⟩
        | exit i => exact hQ _ _ _ _ h1 h2 h3
        | ret => exact hQ _ _ _ _ h1 h2 h3
    exact go ev.fu h
  | .rangeFunc f ps as body, k, s, sl, H, h, hs, hh, Q, hQ => by
    cases rd with
    | true => cases h
    | false =>
      obtain ⟨v, h1, h2⟩ := gv_spec hs (show gv (cv f) s.F _ = true from h)
      simp only [vcg, h1]
      split at h2
      · rename_i g first captured
        refine allocE_spec hh (eb := .loop .ready none nt s.F ps as body dr) (b := .loop .ready none nt sl ps as body) ⟨sl, hs, rfl⟩ h2 fun l M' n' H' hh' h3 => ?_
        rw [lapp_eq] at h3
        refine (hev.call h3 hh').mono fun v H2 ⟨M2, n2, hh2, h4⟩ => ?_
        exact endE_spec hh2 h4 fun e M3 H3 hh3 h5 => hQ e ⟨s.F, M3, n2⟩ _ _ hs hh3 h5
      · cases h2
  | .exit id, k, s, sl, H, h, hs, hh, Q, hQ => hQ _ _ _ _ hs hh h
  | .scope c, k, s, sl, H, h, hs, hh, Q, hQ => by
    simp only [vcg]
    exact runC_ok hE hev hm c h hs hh hQ
  | .label _, k, s, sl, H, h, hs, hh, Q, hQ => by cases h
  | .goto _, k, s, sl, H, h, hs, hh, Q, hQ => by cases h
  | .ret, k, s, sl, H, h, hs, hh, Q, hQ => hQ _ _ _ _ hs hh h
  | .refuse _, k, s, sl, H, h, hs, hh, Q, hQ => by cases h

theorem resE_spec (hs : SlOk F sl) (hh : HOk B lim M n H) : ∀ {l : List ResultVar} {K : List Value → Bool} (_ : resE E F M l K = true) {K' : List Value → Prop} (_ : ∀ vs, K vs = true → K' vs), resK E.T sl H l K'
  | [], K, h, K', hK => hK _ h
  | .tmp t :: l, K, h, K', hK => by
    obtain ⟨v, h1, h2⟩ := Tr.getK_spec (show F.getK (fun v => resE E F M l (fun vs => K (v :: vs))) (psOf t) = true from h)
    simp only [resK, hs t v h1]
    exact resE_spec hs hh h2 fun vs h => hK _ h
  | .cell a t :: l, K, h, K', hK => by
    simp only [resK]
    have h' : (match tget E.T t with
        | some i => F.getK (fun v => match v with
          | .pointer (some ⟨b, o, none⟩) => cellsE M b (fun _ vs => Bool.rec (lget (fun v => resE E F M l (fun us => K (v :: us))) vs o) (lseg vs o i.size (fun seg => resE E F M l (fun us => K (.agg ⟨seg⟩ :: us)))) i.kind.agg)
          | _ => false) (psOf a)
        | none => false) = true := h
    split at h'
    · rename_i i hi
      rw [hi]
      obtain ⟨v, h1, h2⟩ := Tr.getK_spec h'
      obtain ⟨b, o, rfl, h3⟩ := ptrE (G := fun b o => cellsE M b _) h2
      obtain ⟨z, vs, g1, g2, g3, g4⟩ := cellsE_spec hh h3
      simp only [hs a _ h1, g1]
      cases ha : i.kind.agg with
      | true =>
        rw [ha] at g4
        obtain ⟨g5, g6⟩ := lseg_spec g4
        exact segK_of g5 (resE_spec hs hh g6 fun vs h => hK _ h)
      | false =>
        rw [ha] at g4
        obtain ⟨u, g5, g6⟩ := lget_spec g4
        exact ⟨u, g5, resE_spec hs hh g6 fun vs h => hK _ h⟩
    · cases h'

theorem argE_spec : ∀ {args : List Value} {i : Nat} {F : Tr Value} {sl : List (Nat × Value)} (_ : SlOk F sl) (_ : ∀ s v, look sl s = some v → s < i) {G : Tr Value → Bool} (_ : argE args F i G = true), ∃ F', (∀ s v, F'.get (psOf s) = some v → look (argSl args i) s = some v ∨ look sl s = some v) ∧ G F' = true
  | [], i, F, sl, hs, hl, G, h => ⟨F, fun s v h => .inr (hs s v h), h⟩
  | v :: args, i, F, sl, hs, hl, G, h => by
    have h' : F.setK v (psOf i) (fun F' => argE args F' (i + 1) G) = true := h
    rw [Tr.setK_eq] at h'
    obtain ⟨F', h1, h2⟩ := argE_spec (sl := (i, v) :: sl) (hs.put i v) (fun s u hu => by
      simp only [look] at hu
      split at hu
      · rename_i hb; have := Nat.eq_of_beq_eq_true hb; omega
      · have := hl s u hu; omega) h'
    refine ⟨F', fun s u hu => ?_, h2⟩
    show look ((i, v) :: argSl args (i + 1)) s = some u ∨ _
    rcases h1 s u hu with h3 | h3
    · obtain ⟨h4, _⟩ := argSl_look _ _ _ _ h3
      have : Nat.beq i s = false := by cases hb : Nat.beq i s with | false => rfl | true => have := Nat.eq_of_beq_eq_true hb; omega
      simp only [look, this]; exact .inl h3
    · simp only [look] at h3 ⊢
      split at h3
      · rename_i hb; exact .inl h3
      · have := hl s u h3
        exact .inr h3

structure FnOk (P : Program) (FN : Tr FI) : Prop where
  ok : ∀ f fi, FN.get (psOf f) = some fi → (∀ (as : Array Value) (w : World), (callFunc f as).run P w = .ok (.enter f as) w) ∧ ∃ fn, P.funcs[f]? = some fn ∧ fn.body = some fi.code ∧ fn.ntmps = fi.nt ∧ fn.results.toList = fi.res

theorem callB_ok {FN : Tr FI} (hF : FnOk P FN) (hE : EOk P E) (hev : EvOk P ev) (hm : P.follows .mixedOrders = true) {f : Nat} {args : List Value} (h : callB FN E ev lim f args M n K = true) (hh : HOk B lim M n H) : ACall P f args H (Aft B lim K) := by
  obtain ⟨fi, h1, h2⟩ := Tr.getK_spec h
  obtain ⟨hc, fn, g1, g2, g3, g4⟩ := hF.ok f fi h1
  obtain ⟨h3, h4⟩ := brT' h2
  obtain ⟨F, h5, h6⟩ := argE_spec (sl := []) (fun s v h => by cases hp : psOf s <;> rw [hp] at h <;> cases h) (fun s v h => by cases h) h4
  have hlen : args.length ≤ fi.nt := by rw [llen_eq] at h3; exact Nat.le_of_ble_eq_true h3
  refine acall_vcg hE.T hc g1 g2 g3 rfl hlen ?_
  have hs : SlOk F (argSl args 0) := fun s v h => by
    rcases h5 s v h with h | h
    · exact h
    · cases h
  refine runC_ok hE hev hm fi.code h6 hs hh fun e s' sl' H' k1 k2 k3 => ?_
  cases e with
  | exit i => cases k3
  | normal => simp only [endQ]; rw [g4]; exact resE_spec k1 k2 k3 fun vs h => ⟨s'.M, s'.n, k2, h⟩
  | ret => simp only [endQ]; rw [g4]; exact resE_spec k1 k2 k3 fun vs h => ⟨s'.M, s'.n, k2, h⟩

theorem bindE_spec : ∀ {ps : List Tmp} {vs : List Value} {F : Tr Value} {sl : List (Nat × Value)} (_ : SlOk F sl) {G : Tr Value → Bool} (_ : bindE nt ps vs F G = true) {K' : List (Nat × Value) → Prop} (_ : ∀ F' sl', SlOk F' sl' → G F' = true → K' sl'), bindK nt ps vs sl K'
  | [], [], F, sl, hs, G, h, K', hK => hK _ _ hs h
  | p :: ps, v :: vs, F, sl, hs, G, h, K', hK => by
    have h' : Bool.rec (motive := fun _ => Bool) false (F.setK v (psOf p) (fun F' => bindE nt ps vs F' G)) (Nat.blt p nt) = true := h
    obtain ⟨h1, h2⟩ := brT' h'
    rw [Tr.setK_eq] at h2
    simp only [bindK, h1]
    exact bindE_spec (hs.put p v) h2 hK
  | [], _ :: _, _, _, _, _, h, _, _ => by cases h
  | _ :: _, [], _, _, _, _, h, _, _ => by cases h

theorem yldB_ok (hE : EOk P E) (hev : EvOk P ev) (hm : P.follows .mixedOrders = true) {l : Nat} {args : List Value} (h : yldB E ev lim l args M n K = true) (hh : HOk B lim M n H) : AYield P l args H (Aft B lim K) := by
  obtain ⟨hl, h0⟩ := brT' h
  obtain ⟨st, pend, m, F, ps, as, body, dr, sl, k1, k2, k3, k4, k5⟩ := loopW hh hl h0
  refine ayield_vcg hE.T ?_
  unfold yieldC
  rw [k5]
  refine bindE_spec k4 k3 fun F' sl' hs' h1 => ?_
  refine runC_ok hE hev hm as h1 hs' hh fun e s1 sl1 H1 g1 g2 g3 => ?_
  cases e with
  | exit i => cases g3
  | ret => cases g3
  | normal =>
    simp only at g3 ⊢
    obtain ⟨st2, pend2, m2, F2, ps2, as2, body2, dr2, sl2, j1, j2, j3, j4, j5⟩ := loopW g2 hl g3
    cases st2 with
    | ready =>
      obtain ⟨st3, pend3, m3, sl3, ps3, as3, body3, M3, i1, i2, i3⟩ := turnE_spec g2 j3
      rw [j5] at i1; cases i1
      unfold roundBegin
      rw [j5]
      simp only [bsetK_eq]
      refine runC_ok hE hev hm body i3 g1 i2 fun e s4 sl4 H4 q1 q2 q3 => ?_
      unfold roundEnd
      cases e with
      | normal =>
        obtain ⟨st5, pend5, m5, sl5, ps5, as5, body5, M5, r1, r2, r3⟩ := turnE_spec q2 q3
        rw [r1]; simp only [bsetK_eq]
        exact ⟨M5, s4.n, r2, r3⟩
      | exit i =>
        obtain ⟨st5, pend5, m5, sl5, ps5, as5, body5, M5, r1, r2, r3⟩ := turnE_spec q2 q3
        rw [r1]; simp only [bsetK_eq]
        exact ⟨M5, s4.n, r2, r3⟩
      | ret =>
        obtain ⟨st5, pend5, m5, sl5, ps5, as5, body5, M5, r1, r2, r3⟩ := turnE_spec q2 q3
        rw [r1]; simp only [bsetK_eq]
        exact ⟨M5, s4.n, r2, r3⟩
    | _ => cases j3

theorem evN_ok {FN : Tr FI} (hF : FnOk P FN) (hE : EOk P E) (hm : P.follows .mixedOrders = true) : ∀ d, EvOk P (evN FN E d)
  | 0 => ⟨fun h _ => absurd (show false = true from h) (by simp), fun h _ => absurd (show false = true from h) (by simp)⟩
  | d + 1 => ⟨fun h hh => callB_ok hF hE (evN_ok hF hE hm d) hm h hh, fun h hh => yldB_ok hE (evN_ok hF hE hm d) hm h hh⟩
end

/-- A CALL THAT THE MACHINE COMPUTES, of memory that holds nothing: its answer. -/
theorem run_ok {P : Program} {E : Env} {FN : Tr FI} (hF : FnOk P FN) (hE : EOk P E) (hm : P.follows .mixedOrders = true) {d f : Nat} {args : List Value} {k : Value → Bool}
    (h : (evN FN E d).call 0 f args .e 0 (fun v _ _ => k v) = true) : ACall P f args [] (fun v _ => k v = true) :=
  ((evN_ok hF hE hm d).call h (B := .e) (H := []) ⟨rfl, Nat.le_refl _, fun i eb he => (by cases hp : psOf i <;> rw [hp] at he <;> cases he), fun i hi => (by omega), fun i hi => rfl⟩).mono fun v H ⟨_, _, _, h⟩ => h
end Go.Af
