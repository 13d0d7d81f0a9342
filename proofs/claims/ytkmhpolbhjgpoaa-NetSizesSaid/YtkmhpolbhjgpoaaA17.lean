/-
  Regions whose order is drawn: one order, checked by a computation on the region's edges, serves every order.
-/
import Derived.Test.YtkmhpolbhjgpoaaA16
import Derived.Still
namespace Go.Af
open Go
variable {rd : Bool}

def sOp (P : Program) (ops : Array Oper) (q : Nat → Bool) (i : Nat) (K : Act → World → Prop) (a : Act) (w : World) : Prop :=
  match ops[i]? with
  | none => False
  | some o => if Region.wanted o (yielded ops a.tmps) then Op.isDefer o.op = false ∧ ∃ nx w1, (execOp a.eval o).run P w = .ok nx w1 ∧ NextRuns P nx w1 (fun v w' => (q i = true → ExtW w w') ∧ K (a.put o.dst v) w')
    else K (a.put o.dst undef) w

/-- Whatever order is picked from here on. -/
def sAny (P : Program) (ops : Array Oper) (q : Nat → Bool) (Q : Act → World → Prop) : Nat → Array Bool → Act → World → Prop
  | 0, listed, a, w => Region.ready .any ops listed = [] ∧ Q a w
  | fuel + 1, listed, a, w =>
    (Region.ready .any ops listed = [] → Q a w) ∧
    ∀ i ∈ Region.ready .any ops listed, sOp P ops q i (sAny P ops q Q fuel (listed.setIfInBounds i true)) a w

section
variable {P : Program} {ops : Array Oper} {q : Nat → Bool} {Q : Act → World → Prop}

theorem sOp_mono {i : Nat} {a : Act} {w : World} {K K' : Act → World → Prop} (h : ∀ a w, K a w → K' a w) (hh : sOp P ops q i K a w) : sOp P ops q i K' a w := by
  unfold sOp at *
  split
  · rename_i ho; simp only [ho] at hh
  · rename_i o ho
    simp only [ho] at hh
    split
    · rename_i hw; simp only [hw, if_true] at hh
      obtain ⟨h1, nx, w1, h2, h3⟩ := hh
      exact ⟨h1, nx, w1, h2, h3.mono fun _ _ ⟨g1, g2⟩ => ⟨g1, h _ _ g2⟩⟩
    · rename_i hw; simp only [hw] at hh; exact h _ _ hh

theorem sAny_steps (b : FB) (k : List Item) (cs : List Frame) : ∀ (fuel t : Nat) (listed : Array Bool) (a : Act) (w : World), sAny P ops q Q fuel listed a w →
    ∃ a' w', Q a' w' ∧ Steps P (lone (b.at a (.inRegion ops (Region.linearise.go .any ops fuel t listed []) :: k)) cs w) (lone (b.at a' k) cs w') := by
  intro fuel
  induction fuel with
  | zero => intro t listed a w h; exact ⟨a, w, h.2, by simpa [Region.linearise.go] using Steps.one st_region_end⟩
  | succ fuel ih =>
    intro t listed a w h
    obtain ⟨h₀, h₁⟩ := h
    simp only [Region.linearise.go]
    change ∃ a' w', Q a' w' ∧ Steps P (lone (b.at a (.inRegion ops (match (Region.ready .any ops listed)[t % (Region.ready .any ops listed).length]? with
      | some i => Region.linearise.go .any ops fuel (t / (Region.ready .any ops listed).length) (listed.setIfInBounds i true) [i]
      | none => [].reverse) :: k)) cs w) (lone (b.at a' k) cs w')
    cases hi : (Region.ready .any ops listed)[t % (Region.ready .any ops listed).length]? with
    | none =>
      have hnil : Region.ready .any ops listed = [] := by
        cases hr : Region.ready .any ops listed with
        | nil => rfl
        | cons x xs =>
          rw [hr] at hi
          have hlt : t % (x :: xs).length < (x :: xs).length := Nat.mod_lt _ (by simp)
          simp at hi
          simp at hlt
          omega
      exact ⟨a, w, h₀ hnil, by simpa using Steps.one st_region_end⟩
    | some i =>
      simp only []
      rw [linearise_go_acc, List.reverse_singleton, List.singleton_append]
      have hop := h₁ i (List.mem_of_getElem? hi)
      unfold sOp at hop
      split at hop
      · exact hop.elim
      · rename_i o ho
        split at hop
        · rename_i hw
          obtain ⟨hd, nx, w1, hr, hn⟩ := hop
          obtain ⟨v, w2, ⟨_, hK⟩, hst⟩ := op_runs (P := P) (b := b) (k := k) (cs := cs) (rest := Region.linearise.go .any ops fuel (t / (Region.ready .any ops listed).length) (listed.setIfInBounds i true) []) ho hw hd hr hn
          obtain ⟨a', w', hQ, hst'⟩ := ih _ _ _ _ hK
          exact ⟨a', w', hQ, hst.trans hst'⟩
        · rename_i hw
          obtain ⟨a', w', hQ, hst'⟩ := ih (t / (Region.ready .any ops listed).length) _ _ _ hop
          refine ⟨a', w', hQ, .head ?_ hst'⟩
          have := st_op_skip (P := P) (b := b) (a := a) (k := k) (cs := cs) (w := w) (ops := ops) (i := i) (rest := Region.linearise.go .any ops fuel (t / (Region.ready .any ops listed).length) (listed.setIfInBounds i true) []) (by rw [ho]; simpa using hw)
          rw [ho] at this
          exact this

/-- Operation j waits for operation i. -/
def waitsFor (bf : Array Nat) (j i : Nat) : Bool := (bf.getD j 0).testBit i

/-- What is listed has all that it waits for listed. -/
def DC (bf : Array Nat) (listed : Array Bool) : Prop := ∀ j, listed.getD j false = true → ∀ i, waitsFor bf j i = true → listed.getD i false = true
/-- The masks are closed: what j waits for is an edge's operation, or something that this one waits for. -/
def Closed (ops : Array Oper) (bf : Array Nat) : Prop := ∀ j o, ops[j]? = some o → ∀ i, waitsFor bf j i = true → ∃ e ∈ o.after, Region.binds .any e = true ∧ (e.on = i ∨ waitsFor bf e.on i = true)

theorem ready_dc {bf : Array Nat} {listed : Array Bool} (hc : Closed ops bf) (hd : DC bf listed) {j : Nat} (hj : j ∈ Region.ready .any ops listed) {i : Nat} (hi : waitsFor bf j i = true) : listed.getD i false = true := by
  obtain ⟨_, o, ho, hall⟩ := mem_ready.1 hj
  obtain ⟨e, he, hb, hor⟩ := hc j o ho i hi
  have h1 := hall e he hb
  rcases hor with rfl | hor
  · exact h1
  · exact hd _ h1 i hor

theorem dc_set {bf : Array Nat} {listed : Array Bool} (hc : Closed ops bf) (hd : DC bf listed) {j : Nat} (hj : j ∈ Region.ready .any ops listed) : DC bf (listed.setIfInBounds j true) := by
  intro k hk i hi
  by_cases hkj : j = k
  · subst hkj; exact getD_set_true (ready_dc hc hd hj hi)
  · rw [getD_set_ne false hkj] at hk
    exact getD_set_true (hd k hk i hi)

theorem ready_unlisted {listed : Array Bool} {i : Nat} (hi : i ∈ Region.ready .any ops listed) : listed.getD i false = false := by
  have h0 := (mem_ready.1 hi).1
  rcases Nat.lt_or_ge i listed.size with h' | h'
  · simp [h'] at h0 ⊢; exact h0
  · simp [Array.getElem?_eq_none h']

/-- In state 'a', from the world w on, operation 'o' yields v and touches nothing. -/
def YV (P : Program) (ops : Array Oper) (o : Oper) (v : Value) (a : Act) (w : World) : Prop :=
  (Region.wanted o (yielded ops a.tmps) = true ∧ Op.isDefer o.op = false ∧ ∀ w', (readOp o.op = true → ExtW w w') → (execOp a.eval o).run P w' = .ok (.value v) w') ∨
  (Region.wanted o (yielded ops a.tmps) = false ∧ v = undef)

theorem YV.sOp {i : Nat} {o : Oper} {v : Value} {a : Act} {w : World} (hi : ops[i]? = some o) (hy : YV P ops o v a w) {K : Act → World → Prop} (h : K (a.put o.dst v) w) : sOp P ops q i K a w := by
  unfold Af.sOp
  simp only [hi]
  rcases hy with ⟨hw, hd, hv⟩ | ⟨hw, rfl⟩
  · simp only [hw, if_true]; exact ⟨hd, _, _, hv w (fun _ => .refl w), fun _ => .refl w, h⟩
  · simp only [hw, Bool.false_eq_true, if_false]; exact h

theorem YV.of_same {o : Oper} {v : Value} {a a' : Act} {w w' : World} (hy : YV P ops o v a w) (hx : readOp o.op = true → ExtW w w') (he : execOp a'.eval o = execOp a.eval o)
    (hw : Region.wanted o (yielded ops a'.tmps) = Region.wanted o (yielded ops a.tmps)) : YV P ops o v a' w' := by
  unfold YV at *
  rw [he, hw]
  rcases hy with ⟨h1, h2, h3⟩ | h
  · exact .inl ⟨h1, h2, fun w'' hx' => h3 w'' (fun hr => (hx hr).trans (hx' hr))⟩
  · exact .inr h

theorem sAny_first {bf : Array Nat} (hc : Closed ops bf) {i : Nat} {oi : Oper} {v : Value} (hi : ops[i]? = some oi) (hsel : ∀ (j : Nat) (o : Oper) cs b, ops[j]? = some o → o.op ≠ .select cs b) :
    ∀ (fuel : Nat) (listed : Array Bool) (a : Act) (w : World), DC bf listed →
      (∀ j oj, ops[j]? = some oj → j ≠ i → listed.getD j true = false → waitsFor bf j i = false → oi.apart ops oj = true ∧ (readOp oi.op = true → q j = true)) →
      i ∈ Region.ready .any ops listed → YV P ops oi v a w →
      sAny P ops q Q fuel (listed.setIfInBounds i true) (a.put oi.dst v) w → sAny P ops q Q (fuel + 1) listed a w := by
  intro fuel
  induction fuel with
  | zero =>
    intro listed a w _ _ hr hy H
    refine ⟨fun h => (by rw [h] at hr; cases hr), fun j hj => ?_⟩
    by_cases hji : j = i
    · subst hji; exact hy.sOp hi H
    · have := ready_mono hj hji
      rw [H.1] at this
      cases this
  | succ fuel ih =>
    intro listed a w hdc hfree hr hy H
    refine ⟨fun h => (by rw [h] at hr; cases hr), fun j hj => ?_⟩
    by_cases hji : j = i
    · subst hji; exact hy.sOp hi H
    · have h1 := H.2 j (ready_mono hj hji)
      obtain ⟨hjun, oj, hoj, hall⟩ := mem_ready.1 hj
      have hnw : waitsFor bf j i = false := by
        cases hwf : waitsFor bf j i with
        | false => rfl
        | true =>
          have := ready_dc hc hdc hj hwf
          rw [ready_unlisted hr] at this; cases this
      obtain ⟨hap, hqj⟩ := hfree j oj hoj hji hjun hnw
      obtain ⟨p1, p2, p3⟩ := Oper.apart_spec hap
      have hsi := fun cs b => hsel i oi cs b hi
      have hsj := fun cs b => hsel j oj cs b hoj
      have hfree' : ∀ k ok, ops[k]? = some ok → k ≠ i → (listed.setIfInBounds j true).getD k true = false → waitsFor bf k i = false → oi.apart ops ok = true ∧ (readOp oi.op = true → q k = true) := fun k ok hk hki hun hno => by
        refine hfree k ok hk hki ?_ hno
        by_cases hjk : j = k
        · subst hjk; exact hjun
        · rw [getD_set_ne true hjk] at hun; exact hun
      have next : ∀ (u : Value) (w'' : World), (readOp oi.op = true → ExtW w w'') → sAny P ops q Q fuel ((listed.setIfInBounds i true).setIfInBounds j true) ((a.put oi.dst v).put oj.dst u) w'' →
          sAny P ops q Q (fuel + 1) (listed.setIfInBounds j true) (a.put oj.dst u) w'' := fun u w'' hx hh => by
        refine ih (listed.setIfInBounds j true) (a.put oj.dst u) w'' (dc_set hc hdc hj) hfree' (ready_mono hr (Ne.symm hji)) (hy.of_same hx (execOp_put oi hsi a oj.dst u p3) (wanted_put oi a oj.dst u p3)) ?_
        rw [Array.setIfInBounds_comm _ _ hji, ← Act.put_comm a v u p2]
        exact hh
      unfold sOp at h1 ⊢
      simp only [hoj] at h1 ⊢
      rw [wanted_put oj a oi.dst v p1, execOp_put oj hsj a oi.dst v p1] at h1
      split
      · rename_i hw
        simp only [hw, if_true] at h1
        obtain ⟨g1, nx, w1, g2, g3⟩ := h1
        exact ⟨g1, nx, w1, g2, g3.mono fun u w'' ⟨k1, k2⟩ => ⟨k1, next u w'' (fun hr => k1 (hqj hr)) k2⟩⟩
      · rename_i hw
        simp only [hw] at h1
        exact next undef w (fun _ => .refl w) h1

theorem sAny_forced {bf : Array Nat} (hc : Closed ops bf) {i fuel : Nat} {listed : Array Bool} {a : Act} {w : World} (hdc : DC bf listed) (hr : i ∈ Region.ready .any ops listed)
    (hall : ∀ j oj, ops[j]? = some oj → j ≠ i → listed.getD j true = false → waitsFor bf j i = true) (h : sOp P ops q i (sAny P ops q Q fuel (listed.setIfInBounds i true)) a w) : sAny P ops q Q (fuel + 1) listed a w := by
  refine ⟨fun h => (by rw [h] at hr; cases hr), fun j hj => ?_⟩
  by_cases hji : j = i
  · subst hji; exact h
  · obtain ⟨hjun, oj, hoj, _⟩ := mem_ready.1 hj
    have := ready_dc hc hdc hj (hall j oj hoj hji hjun)
    rw [ready_unlisted hr] at this; cases this
end

/-! ### The computation -/

def closedB (ops : Array Oper) (bf : Array Nat) : Bool :=
  (List.range ops.size).all fun j => match ops[j]? with
    | none => true
    | some o => (List.range (Nat.log2 (bf.getD j 0) + 1)).all fun i => !waitsFor bf j i || o.after.any fun e => Region.binds .any e && (e.on == i || waitsFor bf e.on i)

theorem closedB_spec {ops : Array Oper} {bf : Array Nat} (h : closedB ops bf = true) : Closed ops bf := by
  intro j o ho i hi
  unfold closedB at h
  rw [List.all_eq_true] at h
  have h1 := h j (List.mem_range.2 (Array.getElem?_eq_some_iff.1 ho).1)
  simp only [ho] at h1
  rw [List.all_eq_true] at h1
  have hlt : i < Nat.log2 (bf.getD j 0) + 1 := by
    rcases Nat.lt_or_ge i (Nat.log2 (bf.getD j 0) + 1) with h | h
    · exact h
    · have : bf.getD j 0 < 2 ^ i := Nat.lt_of_lt_of_le Nat.lt_log2_self (Nat.pow_le_pow_right (by omega) h)
      have := Nat.testBit_lt_two_pow this
      simp only [waitsFor] at hi
      rw [hi] at this; cases this
  have h2 := h1 i (List.mem_range.2 hlt)
  simp only [hi, Bool.not_true, Bool.false_or] at h2
  obtain ⟨e, he, hb⟩ := Array.any_eq_true'.1 h2
  simp only [Bool.and_eq_true, Bool.or_eq_true, beq_iff_eq] at hb
  exact ⟨e, he, hb.1, hb.2⟩

def orderB (ops : Array Oper) (bf : Array Nat) (q : Nat → Bool) : List Nat → Array Bool → Bool
  | [], listed => (Region.ready .any ops listed).isEmpty
  | i :: r, listed => (Region.ready .any ops listed).contains i &&
    (match ops[i]? with
     | none => false
     | some oi => (List.range ops.size).all fun j => j == i || listed.getD j true || waitsFor bf j i || (valOp oi.op && (match ops[j]? with | some oj => oi.apart ops oj && (!readOp oi.op || q j) | none => true))) &&
    orderB ops bf q r (listed.setIfInBounds i true)

/-- The order σ serves every order. -/
def drawB (ops : Array Oper) (bf : Array Nat) (qs : List Bool) (σ : List Nat) : Bool :=
  Region.noSelect ops && closedB ops bf && (σ.length == ops.size) && orderB ops bf (fun i => qs.getD i false) σ (Array.replicate ops.size false)

def opGet : List Oper → Nat → Option Oper
  | [], _ => none
  | o :: _, 0 => some o
  | _ :: r, n + 1 => opGet r n
theorem opGet_eq : ∀ (l : List Oper) (n : Nat), opGet l n = l[n]?
  | [], _ => by simp [opGet]
  | o :: _, 0 => rfl
  | o :: r, n + 1 => by simpa [opGet] using opGet_eq r n
def bAt : List Bool → Nat → Bool
  | [], _ => false
  | b :: _, 0 => b
  | _ :: r, n + 1 => bAt r n
theorem bAt_eq : ∀ (l : List Bool) (n : Nat), bAt l n = l.getD n false
  | [], _ => by simp [bAt]
  | o :: _, 0 => rfl
  | o :: r, n + 1 => by simpa [bAt] using bAt_eq r n

def stepQ (P : Program) (T : TT) (b : Bool) (o : Op) (sl : List (Nat × Value)) (H : List Blk) (K : Value → List Blk → Prop) : Prop :=
  match b with
  | true => xstep P T o sl H K
  | false => cstep P T o sl H K

def vopsO (P : Program) (T : TT) (n : Nat) (all : List Oper) (qs : List Bool) : List Nat → (List (Nat × Value) → List Blk → Prop) → List (Nat × Value) → List Blk → Prop
  | [], K, sl, H => K sl H
  | i :: r, K, sl, H => match opGet all i with
    | some o => guardK all o.guard sl (fun sl => stepQ P T (bAt qs i) o.op sl H (fun v H' => putK n o.dst v sl (fun sl' => vopsO P T n all qs r K sl' H')))
        (fun sl => putK n o.dst undef sl (fun sl' => vopsO P T n all qs r K sl' H))
    | none => False

section
variable {P : Program} {T : TT}

theorem xstep_valOp {o : Op} {sl : List (Nat × Value)} {H : List Blk} {K : Value → List Blk → Prop} (hv : valOp o = true) (h : xstep P T o sl H K) : astep P T o sl H K := by
  unfold xstep at h
  split at h
  · rename_i c
    obtain ⟨callee, args, ats⟩ := c
    cases callee with
    | value f => cases hv
    | invoke r n => cases hv
    | builtin b => simpa [hv] using h
  · simpa [hv] using h
theorem cstep_valOp {o : Op} {sl : List (Nat × Value)} {H : List Blk} {K : Value → List Blk → Prop} (hv : valOp o = true) (h : cstep P T o sl H K) : astep P T o sl H K := by
  unfold cstep at h
  split at h
  · rename_i c
    obtain ⟨callee, args, ats⟩ := c
    cases callee with
    | value f => cases hv
    | invoke r n => cases hv
    | builtin b => exact h
  · exact h

theorem vopsO_any (hT : TOk P T) {all : List Oper} {bf : Array Nat} {qs : List Bool} (hc : Closed all.toArray bf) (hsel : Region.noSelect all.toArray = true) {n n0 : Nat} {m0 : LM} {H0 : List Blk} {w0 : World} {K : List (Nat × Value) → List Blk → Prop} :
    ∀ (σ : List Nat) (listed : Array Bool) (_ : orderB all.toArray bf (fun i => qs.getD i false) σ listed = true) (_ : DC bf listed) {sl : List (Nat × Value)} {H : List Blk} (_ : vopsO P T n all qs σ K sl H) {m : LM} {aR : Act} {w : World}
      (_ : SRel m { n, sl } H aR w) (_ : Fr n0 m0 H0 w0 m H w) (_ : n0 ≤ H.length) {dfs : List Deferred} (_ : aR.defers = dfs),
      sAny P all.toArray (fun i => qs.getD i false) (fun aR' w' => ∃ sl' H' m', K sl' H' ∧ SRel m' { n, sl := sl' } H' aR' w' ∧ Fr n0 m0 H0 w0 m' H' w' ∧ aR'.defers = dfs) σ.length listed aR w
  | [], listed, hB, hdc, sl, H, h, m, aR, w, hs, hf, hn, dfs, hdf => by
    simp only [orderB] at hB
    exact ⟨by simpa using hB, sl, H, m, h, hs, hf, hdf⟩
  | i :: r, listed, hB, hdc, sl, H, h, m, aR, w, hs, hf, hn, dfs, hdf => by
    simp only [orderB, Bool.and_eq_true] at hB
    obtain ⟨⟨hr, hall⟩, hB'⟩ := hB
    have hr' : i ∈ Region.ready .any all.toArray listed := by simpa using hr
    simp only [vopsO, opGet_eq] at h
    cases ho : all[i]? with
    | none => rw [ho] at h; exact h.elim
    | some o =>
      rw [ho] at h
      have ho' : all.toArray[i]? = some o := by simpa using ho
      simp only [ho', List.all_eq_true, List.mem_range, Bool.or_eq_true, beq_iff_eq, Bool.and_eq_true] at hall
      have hdc' := dc_set hc hdc hr'
      obtain ⟨sl', hsl, hg⟩ := guardK_spec (aR := aR) h hs.sl o rfl
      simp only [List.length_cons]
      -- what follows a value
      have go : ∀ {v : Value} {H' : List Blk} {m' : LM} {vR : Value} {w' : World}, putK n o.dst v sl' (fun sl'' => vopsO P T n all qs r K sl'' H') → VRel m' v vR → HRel m' H' w' → Fr H.length m H w m' H' w' →
          sAny P all.toArray (fun i => qs.getD i false) (fun aR' w' => ∃ sl' H' m', K sl' H' ∧ SRel m' { n, sl := sl' } H' aR' w' ∧ Fr n0 m0 H0 w0 m' H' w' ∧ aR'.defers = dfs) r.length (listed.setIfInBounds i true) (aR.put o.dst vR) w' := by
        intro v H' m' vR w' hk hv hh hf'
        have hle : m.le m' := hf'.le hs.heap.dom
        obtain ⟨sl2, hk2, hs2, hn2, hd2⟩ := putK_spec (aR := aR) hk (hsl.mono hle) hs.n hv
        have hfw := hf'.weaken hn (Nat.le_refl _)
        exact vopsO_any hT hc hsel r _ hB' hdc' hk2 ⟨hn2, hs2, by rw [hd2]; exact hs.df.keep hf'.keep, hh⟩ (hf.trans hfw) (hfw.len hn) (hd2.trans hdf)
      by_cases hv : valOp o.op = true
      · -- it may be taken first
        have hfree : ∀ j oj, all.toArray[j]? = some oj → j ≠ i → listed.getD j true = false → waitsFor bf j i = false → o.apart all.toArray oj = true ∧ (readOp o.op = true → qs.getD j false = true) := fun j oj hj hne hun hno => by
          have h1 := hall j (Array.getElem?_eq_some_iff.1 hj).1
          simp only [hne, false_or, hun, hno, hj, Bool.false_eq_true] at h1
          have h2 := h1.2
          rw [Bool.and_eq_true] at h2
          refine ⟨h2.1, fun hr => ?_⟩
          have h3 := h2.2
          rw [hr] at h3; simpa using h3
        rcases hg with ⟨hw, hg⟩ | ⟨hw, hg⟩
        · have ha : astep P T o.op sl' H (fun v H' => putK n o.dst v sl' (fun sl' => vopsO P T n all qs r K sl' H')) := by
            unfold stepQ at hg
            split at hg
            · exact xstep_valOp hv hg
            · exact cstep_valOp hv hg
          obtain ⟨hV, hd⟩ := astep_val hT hv ha
          obtain ⟨v, vR, h1, h2, h3⟩ := hV m aR w hsl hs.heap
          exact sAny_first hc ho' (Region.noSelect_spec hsel) _ _ _ _ hdc hfree hr' (.inl ⟨hw, hd, h2⟩) (go h1 h3 hs.heap (.refl _ _ _ _))
        · exact sAny_first hc ho' (Region.noSelect_spec hsel) _ _ _ _ hdc hfree hr' (.inr ⟨hw, rfl⟩) (go hg (VRel.plain m 6 _ rfl) hs.heap (.refl _ _ _ _))
      · have hforce : ∀ j oj, all.toArray[j]? = some oj → j ≠ i → listed.getD j true = false → waitsFor bf j i = true := fun j oj hj hne hun => by
          have h1 := hall j (Array.getElem?_eq_some_iff.1 hj).1
          simp only [hne, false_or, hun, Bool.false_eq_true] at h1
          rcases h1 with h1 | h1
          · exact h1
          · exact absurd h1.1 hv
        refine sAny_forced hc hdc hr' hforce ?_
        unfold sOp
        simp only [ho']
        rcases hg with ⟨hw, hg⟩ | ⟨hw, hg⟩
        · simp only [hw, if_true]
          unfold stepQ at hg
          rw [bAt_eq] at hg
          split at hg
          · rename_i hq
            obtain ⟨hX, hd⟩ := xstep_sound hT hg
            obtain ⟨nx, w1, h1, h2⟩ := hX m aR w hsl hs.heap
            exact ⟨hd, nx, w1, h1, h2.mono fun vR w' ⟨⟨v, H', m', k1, k2, k3, k4⟩, k5⟩ => ⟨fun _ => k5, go k1 k2 k3 k4⟩⟩
          · rename_i hq
            obtain ⟨hS, hd⟩ := cstep_sound hT hg
            obtain ⟨nx, w1, h1, h2⟩ := hS m aR w hsl hs.heap
            exact ⟨hd, nx, w1, h1, h2.mono fun vR w' ⟨v, H', m', k1, k2, k3, k4⟩ => ⟨fun hq' => absurd hq' (by rw [hq]; simp), go k1 k2 k3 k4⟩⟩
        · simp only [hw, Bool.false_eq_true, if_false]
          exact go hg (VRel.plain m 6 _ rfl) hs.heap (.refl _ _ _ _)

/-- A REGION WHOSE ORDER IS DRAWN: walked in the order σ. -/
theorem awp_draw (hT : TOk P T) (hm : P.follows .mixedOrders = true) {n0 : Nat} {Q : Ex → AF → List Blk → Prop} {a : AF} {H : List Blk} {id : Nat} {ops : List Oper} (bf : List Nat) (qs : List Bool) (σ : List Nat) (hB : drawB ops.toArray bf.toArray qs σ = true)
    (h : vopsO P T a.n ops qs σ (fun sl H => Q .normal { n := a.n, sl := sl } H) a.sl H) : awp P rd n0 (.region id ops.toArray true) Q a H := by
  intro hn m aR w hs b k cs hb
  simp only [drawB, Bool.and_eq_true, beq_iff_eq] at hB
  obtain ⟨⟨⟨h1, h2⟩, h3⟩, h4⟩ := hB
  have hdc : DC bf.toArray (Array.replicate ops.toArray.size false) := fun j hj => by
    rcases Nat.lt_or_ge j ops.toArray.size with h | h
    · simp at h; simp [h] at hj
    · simp at h; simp [h] at hj
  have hs' : SRel m { n := a.n, sl := a.sl } H aR { w with drawn := w.drawn + 1 } := ⟨hs.n, hs.sl, DfOk.keep (w := w) (w' := { w with drawn := w.drawn + 1 }) (m := m) (m' := m) (H := H) (H' := H) (fun _ _ h => ⟨rfl, h⟩) hs.df, hs.heap.drawn _⟩
  have hany := vopsO_any hT (closedB_spec h2) h1 (n := a.n) (n0 := n0) (m0 := m) (H0 := H) (w0 := w) σ _ h4 hdc h (w := { w with drawn := w.drawn + 1 }) hs' (Fr.drawn _) hn rfl
  rw [h3] at hany
  obtain ⟨aR', w', ⟨sl', H', m', k1, k2, k3, k4⟩, hst⟩ := sAny_steps b k cs ops.toArray.size (w.tape w.drawn (.order b.fn id)) _ _ _ hany
  refine ⟨.normal, _, H', m', aR', w', k1, k2, ⟨k3, .of_eq k4⟩, .head st_region_draw ?_⟩
  simpa [Region.schedule, hm, Region.linearise] using hst

end
end Go.Af
