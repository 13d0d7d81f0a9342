/-
  Forgetting: slots and blocks that are not needed any more; loops whose state is put into a form; calls over memory that is only read.
-/
import Derived.Test.YtkmhpolbhjgpoaaA18
namespace Go.Af
open Go
variable {rd : Bool}

/-- Some of the known slots. -/
def SlSub : List (Nat × Value) → List (Nat × Value) → Prop
  | [], _ => True
  | (i, v) :: r, sl => look sl i = some v ∧ SlSub r sl
theorem SlSub.get {sl : List (Nat × Value)} : ∀ {r : List (Nat × Value)} (_ : SlSub r sl) (s : Nat) (v : Value) (_ : look r s = some v), look sl s = some v
  | [], _, _, _, h => by cases h
  | (k, v) :: r, h, s, u, hl => by
    simp only [look] at hl
    split at hl
    · rename_i hk; cases hl; have := Nat.eq_of_beq_eq_true hk; subst this; exact h.1
    · exact h.2.get s u hl

/-- The state (sl, H) may be seen as the state (S, Hs). -/
def Rn (n0 : Nat) (sl : List (Nat × Value)) (H : List Blk) (S : List (Nat × Value)) (Hs : List Blk) : Prop :=
  (SlSub S sl ∧ H = Hs) ∨ ∃ ι, n0 ≤ Hs.length ∧ anch n0 ι ∧ BlksRen ι H ι Hs ∧ injB ι Hs = true ∧ SlRen ι sl S

section
variable {P : Program} {T : TT}

theorem awp_rn {n0 n : Nat} {c : Code} {Q : Ex → AF → List Blk → Prop} {sl S : List (Nat × Value)} {H Hs : List Blk} (hr : Rn n0 sl H S Hs) (h : awp P rd n0 c Q ⟨n, S⟩ Hs) : awp P rd n0 c Q ⟨n, sl⟩ H := by
  rcases hr with ⟨h1, rfl⟩ | ⟨ι, h1, h2, h3, h4, h5⟩
  · intro hn m aR w hs b k cs hb
    exact h hn m aR w ⟨hs.n, fun s v hv => hs.sl s v (h1.get s v hv), hs.df, hs.heap⟩ b k cs hb
  · exact awp_ren (a := ⟨n, sl⟩) ι S Hs h1 h2 h3 h4 h5 h

/-- A LOOP: its state is put into a form before each round. -/
theorem vcg_loopR (hT : TOk P T) {n0 n : Nat} {Q : Ex → List (Nat × Value) → List Blk → Prop} {sl : List (Nat × Value)} {H : List Blk} {c : Code} {α : Type} (I : α → Prop) (S : α → List (Nat × Value)) (Hf : α → List Blk) (μ : α → Nat)
    (x0 : α) (h0 : I x0) (hr : Rn n0 sl H (S x0) (Hf x0))
    (round : ∀ x, I x → vcg P T rd n0 n c (fun e sl' H' => match e with
      | .normal => ∃ x', I x' ∧ μ x' < μ x ∧ Rn n0 sl' H' (S x') (Hf x')
      | .exit i => Q (.exit i) sl' H'
      | .ret => Q .ret sl' H') (S x) (Hf x)) : awp P rd n0 (.loop c) (aft n Q) ⟨n, sl⟩ H := by
  refine awp_loop (fun k a H => a.n = n ∧ ∃ x, I x ∧ μ x = k ∧ Rn n0 a.sl H (S x) (Hf x)) (n := μ x0) ⟨rfl, x0, h0, rfl, hr⟩ ?_
  rintro k ⟨n', sl'⟩ H' ⟨rfl, x, hI, rfl, hrx⟩
  refine awp_rn hrx (awp_mono (vcg_sound hT c (round x hI)) ?_)
  rintro e ⟨n2, sl2⟩ H2 ⟨rfl, hq⟩
  cases e with
  | normal => obtain ⟨x', h1, h2, h3⟩ := hq; exact ⟨μ x', h2, rfl, x', h1, rfl, h3⟩
  | exit i => exact ⟨rfl, hq⟩
  | ret => exact ⟨rfl, hq⟩

/-- Something is put into a form before the rest. -/
theorem vcg_cut (hT : TOk P T) {n0 n : Nat} {Q : Ex → List (Nat × Value) → List Blk → Prop} {sl : List (Nat × Value)} {H : List Blk} {x y : Code} {α : Type} (I : α → Prop) (S : α → List (Nat × Value)) (Hf : α → List Blk)
    (hx : vcg P T rd n0 n x (fun e sl' H' => match e with
      | .normal => ∃ z, I z ∧ Rn n0 sl' H' (S z) (Hf z)
      | .exit i => Q (.exit i) sl' H'
      | .ret => Q .ret sl' H') sl H)
    (hy : ∀ z, I z → vcg P T rd n0 n y Q (S z) (Hf z)) : awp P rd n0 (.seq x y) (aft n Q) ⟨n, sl⟩ H := by
  refine awp_seq (awp_mono (vcg_sound hT x hx) ?_)
  rintro e ⟨n2, sl2⟩ H2 ⟨rfl, hq⟩
  cases e with
  | normal => obtain ⟨z, h1, h2⟩ := hq; exact awp_rn h2 (vcg_sound hT y (hy z h1))
  | exit i => exact ⟨rfl, hq⟩
  | ret => exact ⟨rfl, hq⟩

/-- Behind a call, blocks that nobody needs are forgotten. -/
def Drop (n0 : Nat) (R : Value → List Blk → Prop) (v : Value) (H : List Blk) : Prop :=
  ∃ ι v2 H2, n0 ≤ H2.length ∧ anch n0 ι ∧ BlksRen ι H ι H2 ∧ injB ι H2 = true ∧ VRen ι v2 v ∧ R v2 H2

theorem Fr.re' {n0 : Nat} {m m' : LM} {H H2 H' : List Blk} {w w' : World} {ι : List (Nat × Nat)} (hb : BlksRen ι H' ι H2) (ha : anch n0 ι) (hn : n0 ≤ H2.length) (h : Fr n0 m H w m' H' w') : Fr n0 m H w (m'.re ι) H2 w' := by
  have e : ∀ i, i < n0 → m'.re ι i = m' i := fun i hi => by simp [LM.re, ha i hi, shiftO_zero]
  refine ⟨h.size, fun _ => hn, fun i hi l hl => by rw [e i hi]; exact h.base i hi l hl, fun i hi hl => by rw [e i hi]; exact h.base' i hi hl, fun i hi b' hb' hr' => ?_, fun r hr hw => ?_, h.out⟩
  · obtain ⟨b, b2, k1, k2, k3⟩ := hb.get (ha i hi)
    rw [hb'] at k2; cases k2
    exact h.rw i hi b k1 (k3.1 hr')
  · obtain ⟨g1, g2⟩ := h.keep r hr hw
    exact ⟨g1, fun hw' => g2 (hw'.re hb)⟩

theorem acall_drop {f : FuncId} {args : List Value} {H : List Blk} {R : Value → List Blk → Prop} (h : ACall P f args H (Drop H.length R)) : ACall P f args H R :=
  ⟨h.1, fun m argsR w hl hh => (h.2 m argsR w hl hh).mono fun vR w' ⟨v, H', m', ⟨ι, v2, H2, h1, h2, h3, h4, h5, h6⟩, r2, r3, r4⟩ =>
    ⟨v2, H2, m'.re ι, h6, h5 m' _ r2, r3.re h3 h4, r4.re' h3 h2 h1⟩⟩

/-! ### Memory that is only read -/

def allRo : List Blk → Bool
  | [] => true
  | b :: r => !b.isRw && allRo r
theorem allRo_get : ∀ {H : List Blk} (_ : allRo H = true) {i : Nat} {b : Blk} (_ : H[i]? = some b), b.isRw = false
  | [], _, i, b, h => by simp at h
  | x :: r, hr, 0, b, h => by simp [allRo] at hr h; subst h; exact hr.1
  | x :: r, hr, i + 1, b, h => by simp [allRo] at hr; exact allRo_get hr.2 (by simpa using h)
theorem allRo_inj : ∀ {ι : List (Nat × Nat)} {H : List Blk} (_ : allRo H = true), injB ι H = true := by
  intro ι
  induction ι with
  | nil => intro H _; simp [injB]
  | cons x r ih =>
    intro H hH
    cases H with
    | nil => simp [injB]
    | cons b bs =>
      simp [allRo] at hH
      have nt : ∀ (l : List (Nat × Nat)) (bs : List Blk), allRo bs = true → noTwin (x.1, b.isRw) l bs = true := by
        intro l
        induction l with
        | nil => intro bs _; simp [noTwin]
        | cons y l ihl =>
          intro bs hbs
          cases bs with
          | nil => simp [noTwin]
          | cons c bs => simp [allRo] at hbs; simpa [noTwin, hH.1, hbs.1] using ihl bs hbs.2
      simp [injB, ih hH.2, nt r bs hH.2]

/-- A CALL OVER MEMORY THAT IS ONLY READ: of any heap in which its arguments can be read. -/
theorem acallx_ro {f : FuncId} {args2 args : List Value} {H2 H : List Blk} {R2 R : Value → List Blk → Prop} (hc : ACall P f args2 H2 R2) (ι : List (Nat × Nat)) (hro : allRo H2 = true) (ha : LRen ι args2 args) (hb : BlksRen ι H ι H2)
    (hR : ∀ v2 H2', R2 v2 H2' → ∃ v N2 N, H2' = H2 ++ N2 ∧ N.length = N2.length ∧ (∀ (k : Nat) (b2 : Blk), N2[k]? = some b2 → (b2.isRw = true ∨ b2 = .dead) ∧ ∃ b, N[k]? = some b ∧ BBack (ι ++ (List.range N2.length).map (fun k => (H.length + k, 0))) b2 b) ∧
      VBack (ι ++ (List.range N2.length).map (fun k => (H.length + k, 0))) v2 v ∧ R v (H ++ N)) : ACallX P f args H R :=
  ⟨hc.1, fun m argsR w hl hh => by
    have hi : injB ι H2 = true := allRo_inj hro
    have hno : ∀ (j i s : Nat) (b2 : Blk), ι[j]? = some (i, s) → H2[j]? = some b2 → b2.isRw = true → False := fun j i s b2 _ h2 h3 => by rw [allRo_get hro h2] at h3; cases h3
    refine (hc.2 (m.re ι) argsR w (ha m _ hl) (hh.re hb hi)).mono ?_
    rintro vR w' ⟨v2, H2', m2', r1, r2, r3, r4⟩
    obtain ⟨v, N2, N, rfl, e1, e2, e3, e4⟩ := hR v2 H2' r1
    have hlen := hb.len
    obtain ⟨m', k1, k2, k3⟩ := emb_core (H' := H ++ N) (ι' := ι ++ (List.range N2.length).map (fun k => (H.length + k, 0))) hh hb hi (fun j i s b2 h1 h2 h3 => (hno j i s b2 h1 h2 h3).elim) r3 r4
      ⟨by simp, by simp [e1], by simp, fun j i s b2 h1 h2 h3 => (hno j i s b2 h1 h2 h3).elim, fun i hi _ => by rw [List.getElem?_append_left hi], fun k b2 hk => by
        rw [List.getElem?_append_right (by omega), Nat.add_sub_cancel_left] at hk
        obtain ⟨g1, b, g2, g3⟩ := e2 k b2 hk
        exact ⟨g1, b, by rw [List.getElem?_append_right (by omega), Nat.add_sub_cancel_left]; exact g2, g3⟩⟩
    refine ⟨⟨v, _, m', e4, e3 m2' m' k3 _ r2, k1, k2⟩, r4.size, fun r hr => (r4.keep r hr ?_).1⟩
    rintro ⟨i, b, h1, h2, h3⟩
    rw [allRo_get hro h2] at h3; cases h3⟩

end
end Go.Af
