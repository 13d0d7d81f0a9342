/-
  Ranges over functions, and the rounds of their bodies.
-/
import Derived.Test.YtkmhpolbhjgpoaaA17
namespace Go.Af
open Go
variable {rd : Bool}

def jumpK (pend : Option Code) (K : Ex → Prop) : Prop :=
  match pend with
  | none => K .normal
  | some (.exit id) => K (.exit id)
  | some .ret => K .ret
  | _ => False

def rangeEnd (l : Nat) (H : List Blk) (K : Ex → List Blk → Prop) : Prop :=
  match bget H l with
  | some (.loop st pend n sl ps as body) => match st with
    | .busy => False
    | _ => bsetK H l (.loop .exhausted pend n sl ps as body) (fun H' => jumpK pend (fun e => K e H'))
  | _ => False

def roundEnd (l : Nat) (e : Ex) (H : List Blk) (R : Value → List Blk → Prop) : Prop :=
  match bget H l with
  | some (.loop _ _ n sl ps as body) => match e with
    | .normal => bsetK H l (.loop .ready none n sl ps as body) (fun H' => R (.bool true) H')
    | .exit id => bsetK H l (.loop .done (some (.exit id)) n sl ps as body) (fun H' => R (.bool false) H')
    | .ret => bsetK H l (.loop .done (some .ret) n sl ps as body) (fun H' => R (.bool false) H')
  | _ => False

def roundBegin (l : Nat) (H : List Blk) (K : List Blk → Prop) : Prop :=
  match bget H l with
  | some (.loop .ready pend n sl ps as body) => bsetK H l (.loop .busy pend n sl ps as body) K
  | _ => False

def bindK (n : Nat) : List Tmp → List Value → List (Nat × Value) → (List (Nat × Value) → Prop) → Prop
  | [], [], sl, K => K sl
  | p :: ps, v :: vs, sl, K => match Nat.blt p n with
    | true => bindK n ps vs ((p, v) :: sl) K
    | false => False
  | _, _, _, _ => False

section
variable {P : Program} {b : FB} {a : Act} {k : List Item} {cs : List Frame} {w : World}

theorem finish_inRangeFunc (l : Nat) (v : Value) : (b.at a (.inRangeFunc l :: k)).finish v = b.at a (.endRangeFunc l :: k) := by simp [Frame.finish, FB.at]

theorem st_endRangeFunc {l : Nat} {jump : Option Code} {w' : World} (h : (Instr.endLoop l).run P w = .ok jump w') :
    step P (lone (b.at a (.endRangeFunc l :: k)) cs w) = .next (lone (b.at a ((jump.map Item.code).toList ++ k)) cs w') :=
  step_lone_go (by simp [stepG, stepG.exec, FB.at, Sem.runT_eq, h, GStep.bare_after])

theorem st_rangeFunc {g : Operand} {ps : Array Tmp} {assign body : Code} {l : Nat} {mark : List Deferred} {w₁ w₁' w₂ : World} {d : Deferred} {f : FuncId} {args : Array Value}
    (he : (Instr.enterLoop b.fn a.tmps ps assign body b.roundOf).run P w = .ok (l, mark) w₁)
    (hres : (resolve a.eval { callee := .value g, args := #[.const (.func (.yield l) #[] #[])], argTypes := #[] } 0).run P w₁ = .ok d w₁') (hinv : (invoke d.target d.args).run P w₁' = .ok (.enter f args) w₂) :
    step P (lone (b.at a (.code (.rangeFunc g ps assign body) :: k)) cs w) =
      .next (lone (Frame.enter P f args .normal) (b.at { a with defers := mark ++ a.defers } (.inRangeFunc l :: k) :: cs) w₂) :=
  step_lone_go (by
    have hev := FB.eval b { a with defers := mark ++ a.defers } (.inRangeFunc l :: k)
    simp only [FB.at] at hev
    have hres' : Sem.run P (resolve ({ tmps := a.tmps, defers := mark ++ a.defers } : Act).eval { callee := .value g, args := #[.const (.func (.yield l) #[] #[])], argTypes := #[] } 0) w₁ = .ok d w₁' := hres
    simp [stepG, stepG.exec, FB.at, Sem.runT_eq, he, GStep.bare_after, stepG.apply, hev, Sem.run_bind, hres', hinv, Result.andThen])

theorem st_beginRound {l : Nat} {w' : World} (hb : b.roundOf = some l) (hr : (Instr.beginRound l).run P w = .ok () w') :
    step P (lone (b.at a (.beginRound :: k)) cs w) = .next (lone (b.at a k) cs w') :=
  step_lone_go (by simp [stepG, stepG.exec, stepG.apply, FB.at, hb, Sem.runT_eq, hr, Result.andThen, Frame.finish])

theorem st_round_end {l : Nat} {c : Frame} {v : Value} {w' : World} (hb : b.roundOf = some l) (hk : b.kind = .normal) (hr : (Instr.endRound l none).run P w = .ok v w') :
    step P (lone (b.at a []) (c :: cs) w) = .next (lone (c.finish v) cs w') :=
  step_lone_go (by simp [stepG, stepG.exec, FB.at, hb, hk, Sem.runT_eq, hr, doReturn])
theorem st_round_ret {l : Nat} {c : Frame} {v : Value} {w' : World} (hb : b.roundOf = some l) (hk : b.kind = .normal) (hr : (Instr.endRound l (some .ret)).run P w = .ok v w') :
    step P (lone (b.at a (.code .ret :: k)) (c :: cs) w) = .next (lone (c.finish v) cs w') :=
  step_lone_go (by simp [stepG, stepG.exec, FB.at, hb, hk, Sem.runT_eq, hr, doReturn])
theorem st_round_exit {l id : Nat} {c : Frame} {v : Value} {w' : World} (hb : b.roundOf = some l) (hk : b.kind = .normal) (hx : exitTo id k = none) (hr : (Instr.endRound l (some (.exit id))).run P w = .ok v w') :
    step P (lone (b.at a (.code (.exit id) :: k)) (c :: cs) w) = .next (lone (c.finish v) cs w') :=
  step_lone_go (by simp [stepG, stepG.exec, FB.at, hb, hk, hx, Sem.runT_eq, hr, doReturn])

theorem Fr.push {n : Nat} {m : LM} {H : List Blk} {w : World} (o : Obj) : Fr n m H w m H { w with heap := w.heap.push o } :=
  ⟨by simp, id, fun _ _ _ h => .inl h, fun _ _ h => h, fun _ _ b h k => ⟨b, h, k⟩, fun _ hr h => ⟨heap_push_lt hr, h⟩, ⟨rfl, rfl, rfl⟩⟩

/-- A loop's record in the real heap. -/
theorem loop_real {m : LM} {H : List Blk} {w : World} (hh : HRel m H w) {l r : Nat} (hm : m l = some (.obj r)) {st : LoopState} {pend : Option Code} {n : Nat} {sl : List (Nat × Value)} {ps : Array Tmp} {as body : Code}
    (hb : H[l]? = some (.loop st pend n sl ps as body)) : ∃ tmps d fn, w.heap[r]? = some (.loop { state := st, pending := pend, fn, tmps, params := ps, assign := as, body, defers := d }) ∧ tmps.size = n ∧ SlRel m sl tmps :=
  hh.blk l _ _ hm (by simp) hb

/-- The record is turned. -/
theorem loop_turn {m : LM} {H : List Blk} {w : World} (hh : HRel m H w) {l r : Nat} (hm : m l = some (.obj r)) {st st' : LoopState} {pend pend' : Option Code} {n d : Nat} {fn : FuncId} {sl : List (Nat × Value)} {ps : Array Tmp} {as body : Code} {tmps : Array Value}
    (hb : H[l]? = some (.loop st pend n sl ps as body)) (hw : w.heap[r]? = some (.loop { state := st, pending := pend, fn, tmps, params := ps, assign := as, body, defers := d })) (hn : tmps.size = n) (hs : SlRel m sl tmps) :
    HRel m (H.set l (.loop st' pend' n sl ps as body)) { w with heap := w.heap.setIfInBounds r (.loop { state := st', pending := pend', fn, tmps, params := ps, assign := as, body, defers := d }) } ∧
    Fr H.length m H w m (H.set l (.loop st' pend' n sl ps as body)) { w with heap := w.heap.setIfInBounds r (.loop { state := st', pending := pend', fn, tmps, params := ps, assign := as, body, defers := d }) } := by
  have hr : r < w.heap.size := (Array.getElem?_eq_some_iff.1 hw).1
  exact hh.setObj hm hb rfl (b' := .loop st' pend' n sl ps as body) ⟨tmps, d, fn, by show (w.heap.setIfInBounds r _)[r]? = _; simp [hr], hn, hs⟩

theorem enter_run {g : FuncId} {first captured : List Value} {m : LM} {H : List Blk} {yv : Value} {R : Value → List Blk → Prop} {fo : Operand} {a : Act} {lR : Nat} (hv : VRel m (.func (.func g) ⟨first⟩ ⟨captured⟩) (a.eval fo)) (hy : VRel m yv (.func (.yield lR) #[] #[]))
    (h : ACall P g (first ++ (yv :: captured)) H R) :
    ∃ d args, (∀ w, (resolve a.eval { callee := .value fo, args := #[.const (.func (.yield lR) #[] #[])], argTypes := #[] } 0).run P w = .ok d w) ∧ (∀ w, (invoke d.target d.args).run P w = .ok (.enter g args) w) ∧ LRel m (first ++ (yv :: captured)) args.toList := by
  obtain ⟨f', xs', ys', he, hfr, hx, hyy⟩ := hv.inv_func
  cases hfr
  refine ⟨{ target := .fn (.func g) ys', args := xs' ++ #[.func (.yield lR) #[] #[]] }, xs' ++ #[.func (.yield lR) #[] #[]] ++ ys', ?_, ?_, ?_⟩
  · intro w
    simp only [resolve, he, Deferred.ofValue]
    simp [Act.eval]
  · intro w
    simp only [invoke, h.1]
  · have := hx.append (LRel.cons hy hyy)
    simpa using this

theorem awp_range {n0 : Nat} {Q : Ex → AF → List Blk → Prop} {a : AF} {H : List Blk} {fo : Operand} {ps : Array Tmp} {as body : Code} {g : FuncId} {first captured : List Value} (hf : ev a.sl fo = some (.func (.func g) ⟨first⟩ ⟨captured⟩))
    (h : ACall P g (first ++ (.func (.yield H.length) #[] #[] :: captured)) (H ++ [.loop .ready none a.n a.sl ps as body]) (fun _ H2 => rangeEnd H.length H2 (fun e H3 => Q e a H3))) :
    awp P false n0 (.rangeFunc fo ps as body) Q a H := by
  intro hn m aR w hs b k cs hb
  have hro := hb rfl
  -- the record is laid
  let wA : World := { w with heap := w.heap.push (.deferred (some [])) }
  let lp : Obj := .loop { state := .ready, pending := none, fn := b.fn, tmps := aR.tmps, params := ps, assign := as, body, defers := w.heap.size }
  let wB : World := { wA with heap := wA.heap.push lp }
  let lR := w.heap.size + 1
  let d0 : Deferred := { target := .collected w.heap.size, args := #[] }
  have hsz : wA.heap.size = lR := by simp [wA, lR]
  have hh0 : HRel m H wA := hs.heap.ext (.push _ _)
  have hnone := hs.heap.none_len
  have hlA : locBlk (some (Loc.obj lR)) = some wA.heap.size := by rw [hsz]; rfl
  have hBR : BRel (m.put H.length (.obj lR)) (.loop .ready none a.n a.sl ps as body) (.obj lR) wB := by
    refine ⟨aR.tmps, w.heap.size, b.fn, ?_, hs.n, fun s v hv => ?_⟩
    · show (wA.heap.push lp)[lR]? = _
      rw [← hsz]; simp [lp]
    · obtain ⟨v', h1, h2⟩ := hs.sl s v hv
      exact ⟨v', h1, h2.mono (LM.le_put hnone)⟩
  have hhB : HRel (m.put H.length (.obj lR)) (H ++ [.loop .ready none a.n a.sl ps as body]) wB := hh0.alloc hlA hBR
  have hfB : Fr H.length m H w (m.put H.length (.obj lR)) (H ++ [.loop .ready none a.n a.sl ps as body]) wB := (Fr.push _).trans (Fr.alloc hh0 _ lp hlA)
  have hmB : (m.put H.length (.obj lR)) H.length = some (.obj lR) := LM.put_self _ _ _
  have hv : VRel (m.put H.length (.obj lR)) (.func (.func g) ⟨first⟩ ⟨captured⟩) (aR.eval fo) := (ev_rel hs.sl hf).mono (LM.le_put hnone)
  have hy : VRel (m.put H.length (.obj lR)) (.func (.yield H.length) #[] #[]) (.func (.yield lR) #[] #[]) := .func' (.yield _ _ hmB) (.nil _) (.nil _)
  obtain ⟨d, args, e1, e2, e3⟩ := enter_run (a := aR) hv hy h
  have he : (Instr.enterLoop b.fn aR.tmps ps as body b.roundOf).run P w = .ok (lR, [d0]) wB := by
    rw [hro]
    simp [Instr.enterLoop, newObj, Sem.run, wB, wA, lp, lR, d0]
  have hstep := st_rangeFunc (P := P) (b := b) (a := aR) (k := k) (cs := cs) he (e1 wB) (e2 wB)
  obtain ⟨v, w', ⟨v2, H2, m2, hE, _, hh2, hf2⟩, hst⟩ := h.2 _ args wB e3 hhB (b.at { aR with defers := [d0] ++ aR.defers } (.inRangeFunc lR :: k)) cs
  rw [finish_inRangeFunc] at hst
  have hle := hf2.le hhB.dom
  have hm2 : m2 H.length = some (.obj lR) := (hle _ _ hmB).obj
  unfold rangeEnd at hE
  rw [bget_eq] at hE
  split at hE
  · rename_i st pend n' sl' ps' as' body' hb2
    obtain ⟨tmps, dd, fn, k1, k2, k3⟩ := loop_real hh2 hm2 hb2
    have hnb : st ≠ .busy := fun e => by subst e; exact hE.elim
    have hE' : jumpK pend (fun e => Q e a (H2.set H.length (.loop .exhausted pend n' sl' ps' as' body'))) := by
      cases st <;> simp only [bsetK_eq] at hE <;> exact hE
    obtain ⟨t1, t2⟩ := loop_turn (st' := .exhausted) (pend' := pend) hh2 hm2 hb2 k1 k2 k3
    have hend : (Instr.endLoop lR).run P w' = .ok pend { w' with heap := w'.heap.setIfInBounds lR (.loop { state := .exhausted, pending := pend, fn, tmps, params := ps', assign := as', body := body', defers := dd }) } := by
      cases st with
      | busy => exact absurd rfl hnb
      | ready => simp [Instr.endLoop, Instr.getLoop, getObj, setObj, Sem.run, k1]
      | done => simp [Instr.endLoop, Instr.getLoop, getObj, setObj, Sem.run, k1]
      | exhausted => simp [Instr.endLoop, Instr.getLoop, getObj, setObj, Sem.run, k1]
    have hstep2 := st_endRangeFunc (P := P) (b := b) (a := { aR with defers := [d0] ++ aR.defers }) (k := k) (cs := cs) hend
    have hlen : H.length ≤ (H ++ [Blk.loop .ready none a.n a.sl ps as body]).length := by simp
    have hfAll : Fr H.length m H w m2 _ _ := (hfB.trans (hf2.weaken hlen (Nat.le_refl _))).trans (t2.weaken (Nat.le_trans hlen (hf2.len (Nat.le_refl _))) (Nat.le_refl _))
    have hfr : FrA n0 m H w aR m2 _ _ { aR with defers := [d0] ++ aR.defers } := ⟨hfAll.weaken hn (Nat.le_refl _), [d0], rfl, fun d hd r hr => by
      simp at hd; subst hd; simp [d0] at hr; omega⟩
    -- the deferred blocks
    have hdfA : DfOk m H wA ([d0] ++ aR.defers) := by
      refine ⟨⟨w.heap.size, rfl, by simp [wA], fun ⟨i, b', g1, _, _⟩ => absurd (hs.heap.lt g1) (Nat.lt_irrefl _), fun d' hd' he' => ?_⟩, hs.df.keep fun r hr hw => ⟨heap_push_lt hr, hw⟩⟩
      obtain ⟨r', g1, _, g2⟩ := hs.df.own hd'
      rw [he'] at g1; cases g1
      exact absurd (Array.getElem?_eq_some_iff.1 g2).1 (Nat.lt_irrefl _)
    have hdf : DfOk m2 _ _ ([d0] ++ aR.defers) := ((hdfA.keep (Fr.alloc hh0 _ lp hlA).keep).keep hf2.keep).keep t2.keep
    have hsr : SRel m2 a _ { aR with defers := [d0] ++ aR.defers } _ := ⟨hs.n, hs.sl.mono (hfAll.le hs.heap.dom), hdf, t1⟩
    have sall := (Steps.head hstep hst).trans (.one hstep2)
    unfold jumpK at hE'
    split at hE'
    · exact ⟨.normal, a, _, m2, _, _, hE', hsr, hfr, sall⟩
    · exact ⟨.exit _, a, _, m2, _, _, hE', hsr, hfr, k, rfl, sall⟩
    · exact ⟨.ret, a, _, m2, _, _, hE', hsr, hfr, k, sall⟩
    · exact hE'.elim
  · exact hE.elim

theorem bind_real {n : Nat} {m : LM} : ∀ {ps : List Tmp} {vs : List Value} {sl : List (Nat × Value)} {K : List (Nat × Value) → Prop} (_ : bindK n ps vs sl K) {t : Array Value} (_ : t.size = n) (_ : SlRel m sl t) {us : List Value} (_ : LRel m vs us),
    ∃ sl', K sl' ∧ SlRel m sl' ((ps.zip us).foldl (fun t p => t.setIfInBounds p.1 p.2) t) ∧ ((ps.zip us).foldl (fun t p => t.setIfInBounds p.1 p.2) t).size = n
  | [], [], sl, K, h, t, hn, hs, us, hu => ⟨sl, h, by simpa using hs, by simpa using hn⟩
  | p :: ps, v :: vs, sl, K, h, t, hn, hs, us, hu => by
    obtain ⟨u, us', rfl, h1, h2⟩ := hu.inv_cons
    simp only [bindK] at h
    split at h
    · rename_i hb
      have hp : p < n := Nat.le_of_ble_eq_true hb
      obtain ⟨sl', k1, k2, k3⟩ := bind_real h (t := t.setIfInBounds p u) (by simpa using hn) (hs.put (hn ▸ hp) h1) h2
      exact ⟨sl', k1, by simpa using k2, by simpa using k3⟩
    · exact h.elim
  | [], _ :: _, _, _, h, _, _, _, _, _ => h.elim
  | _ :: _, [], _, _, h, _, _, _, _, _ => h.elim

theorem bindK_len {n : Nat} : ∀ {ps : List Tmp} {vs : List Value} {sl : List (Nat × Value)} {K : List (Nat × Value) → Prop} (_ : bindK n ps vs sl K), ps.length = vs.length
  | [], [], _, _, _ => rfl
  | p :: ps, v :: vs, sl, K, h => by
    simp only [bindK] at h
    split at h
    · simp [bindK_len h]
    · exact h.elim
  | [], _ :: _, _, _, h => h.elim
  | _ :: _, [], _, _, h => h.elim

/-- What a call of the function value of a range is asked. -/
def yieldC (l : Nat) (args : List Value) (H : List Blk) (K : Nat → Code → Code → List (Nat × Value) → Prop) : Prop :=
  match bget H l with
  | some (.loop _ _ n sl ps as body) => bindK n ps.toList args sl (fun sl' => K n as body sl')
  | _ => False

/-- ONE ROUND. -/
theorem ayield_of {l : Nat} {args : List Value} {H : List Blk} {R : Value → List Blk → Prop}
    (h : yieldC l args H (fun n as body sl => awp P true H.length as (fun e a1 H1 => match e with
      | .normal => roundBegin l H1 (fun H2 => awp P true H.length body (fun e a2 H3 => roundEnd l e H3 R) a1 H2)
      | _ => False) ⟨n, sl⟩ H)) : AYield P l args H R := by
  intro m argsR w r hm hl hh
  unfold yieldC at h
  rw [bget_eq] at h
  split at h
  · rename_i st pend n sl ps as body hb
    obtain ⟨tmps, dd, fn, k1, k2, k3⟩ := loop_real hh hm hb
    have hlen := bindK_len h
    have hla := hl.1
    let tm := (ps.zip argsR).foldl (fun t (p : Tmp × Value) => t.setIfInBounds p.1 p.2) tmps
    obtain ⟨sl', hA, hsl, hsz⟩ := bind_real h k2 k3 hl
    have etm : (ps.toList.zip argsR.toList).foldl (fun t p => t.setIfInBounds p.1 p.2) tmps = tm := by simp [tm, ← Array.toList_zip]
    rw [etm] at hsl hsz
    refine ⟨.round r fn tm as body, w, ?_, ?_⟩
    · have : argsR.size = ps.size := by simp at hlen hla; omega
      simp [Instr.yield, Instr.getLoop, getObj, Sem.run, k1, this, tm]
    · show Enters P (Frame.round r fn tm as body .normal) w _
      intro c cs
      let b : FB := { fn, kind := .normal, roundOf := some r }
      let a0 : Act := { tmps := tm, defers := [] }
      have efr : Frame.round r fn tm as body .normal = b.at a0 [.code as, .beginRound, .code body] := by simp [Frame.round, FB.at, b, a0]
      obtain ⟨e, a1, H1, m1, aR1, w1, hq, hs1, hf1, harr⟩ := hA (Nat.le_refl _) m a0 w ⟨hsz, hsl, trivial, hh⟩ b [.beginRound, .code body] (c :: cs) (fun h => by cases h)
      cases e with
      | exit id => exact hq.elim
      | ret => exact hq.elim
      | normal =>
        have hm1 : m1 l = some (.obj r) := ((hf1.toFr.le hh.dom) _ _ hm).obj
        simp only [roundBegin, bget_eq] at hq
        split at hq
        · rename_i pend1 n1 sl1 ps1 as1 body1 hb1
          rw [bsetK_eq] at hq
          obtain ⟨tmps1, dd1, fn1, j1, j2, j3⟩ := loop_real hs1.heap hm1 hb1
          obtain ⟨t1, t2⟩ := loop_turn (st' := .busy) (pend' := pend1) hs1.heap hm1 hb1 j1 j2 j3
          let wb : World := { w1 with heap := w1.heap.setIfInBounds r (.loop { state := .busy, pending := pend1, fn := fn1, tmps := tmps1, params := ps1, assign := as1, body := body1, defers := dd1 }) }
          have hbeg : (Instr.beginRound r).run P w1 = .ok () wb := by
            simp [Instr.beginRound, Instr.getLoop, getObj, setObj, Sem.run, j1, wb]
          have hsB := st_beginRound (P := P) (b := b) (a := aR1) (k := [.code body]) (cs := c :: cs) rfl hbeg
          have hnl : H.length ≤ (H1.set l (Blk.loop .busy pend1 n1 sl1 ps1 as1 body1)).length := by simp; exact hf1.toFr.len (Nat.le_refl _)
          obtain ⟨e2, a2, H2, m2, aR2, w2, hq2, hs2, hf2, harr2⟩ := hq hnl m1 aR1 wb ⟨hs1.n, hs1.sl, hs1.df.keep t2.keep, t1⟩ b [] (c :: cs) (fun h => by cases h)
          have hm2 : m2 l = some (.obj r) := by
            rcases hf2.toFr.base l (hh.dom _ _ hm) _ hm1 with g | ⟨_, ⟨_, _, _, _, g⟩, _⟩
            · exact g
            · cases g
          have hfAll : Fr H.length m H w m2 H2 w2 := (hf1.toFr.trans (t2.weaken (hf1.toFr.len (Nat.le_refl _)) (Nat.le_refl _))).trans hf2.toFr
          have sall : Steps P (lone (Frame.round r fn tm as body .normal) (c :: cs) w) (lone (b.at aR1 [.code body]) (c :: cs) wb) := by
            rw [efr]; exact Steps.trans harr (.one hsB)
          simp only [roundEnd, bget_eq] at hq2
          split at hq2
          · rename_i st3 pend3 n3 sl3 ps3 as3 body3 hb3
            obtain ⟨tmps3, dd3, fn3, i1, i2, i3⟩ := loop_real hs2.heap hm2 hb3
            cases e2 with
            | normal =>
              simp only [bsetK_eq] at hq2
              obtain ⟨u1, u2⟩ := loop_turn (st' := .ready) (pend' := none) hs2.heap hm2 hb3 i1 i2 i3
              refine ⟨.bool true, _, ⟨.bool true, _, m2, hq2, .bool _, u1, hfAll.trans (u2.weaken (hfAll.len (Nat.le_refl _)) (Nat.le_refl _))⟩, Steps.trans sall (Steps.trans harr2 (.one (st_round_end rfl rfl ?_)))⟩
              simp [Instr.endRound, Instr.getLoop, getObj, setObj, Sem.run, i1]
            | exit id =>
              simp only [bsetK_eq] at hq2
              obtain ⟨k', x1, x2⟩ := harr2
              obtain ⟨u1, u2⟩ := loop_turn (st' := .done) (pend' := some (.exit id)) hs2.heap hm2 hb3 i1 i2 i3
              refine ⟨.bool false, _, ⟨.bool false, _, m2, hq2, .bool _, u1, hfAll.trans (u2.weaken (hfAll.len (Nat.le_refl _)) (Nat.le_refl _))⟩, Steps.trans sall (Steps.trans x2 (.one (st_round_exit rfl rfl (by rw [x1]; rfl) ?_)))⟩
              simp [Instr.endRound, Instr.getLoop, getObj, setObj, Sem.run, i1]
            | ret =>
              simp only [bsetK_eq] at hq2
              obtain ⟨k', x2⟩ := harr2
              obtain ⟨u1, u2⟩ := loop_turn (st' := .done) (pend' := some .ret) hs2.heap hm2 hb3 i1 i2 i3
              refine ⟨.bool false, _, ⟨.bool false, _, m2, hq2, .bool _, u1, hfAll.trans (u2.weaken (hfAll.len (Nat.le_refl _)) (Nat.le_refl _))⟩, Steps.trans sall (Steps.trans x2 (.one (st_round_ret rfl rfl ?_)))⟩
              simp [Instr.endRound, Instr.getLoop, getObj, setObj, Sem.run, i1]
          · exact hq2.elim
        · exact hq.elim
  · exact h.elim

theorem jumpK_mono {pend : Option Code} {K K' : Ex → Prop} (h : jumpK pend K) (hk : ∀ e, K e → K' e) : jumpK pend K' := by
  unfold jumpK at *
  split at h <;> first | exact hk _ h | exact h.elim
theorem rangeEnd_mono {l : Nat} {H : List Blk} {K K' : Ex → List Blk → Prop} (h : rangeEnd l H K) (hk : ∀ e H, K e H → K' e H) : rangeEnd l H K' := by
  unfold rangeEnd at *
  split at h
  · rename_i st pend n sl ps as body hb
    rw [hb] at *
    cases st <;> simp only [bsetK_eq] at h ⊢ <;> first | exact jumpK_mono h fun e h => hk _ _ h | exact h.elim
  · exact h.elim
theorem bindK_mono {n : Nat} {K K' : List (Nat × Value) → Prop} (hk : ∀ sl, K sl → K' sl) : ∀ {ps : List Tmp} {vs : List Value} {sl : List (Nat × Value)} (_ : bindK n ps vs sl K), bindK n ps vs sl K'
  | [], [], _, h => hk _ h
  | p :: ps, v :: vs, sl, h => by
    simp only [bindK] at h ⊢
    split at h
    · exact bindK_mono hk h
    · exact h.elim
  | [], _ :: _, _, h => h.elim
  | _ :: _, [], _, h => h.elim
theorem yieldC_mono {l : Nat} {args : List Value} {H : List Blk} {K K' : Nat → Code → Code → List (Nat × Value) → Prop} (h : yieldC l args H K) (hk : ∀ n as body sl, K n as body sl → K' n as body sl) : yieldC l args H K' := by
  unfold yieldC at *
  split at h
  · exact bindK_mono (fun sl h => hk _ _ _ sl h) h
  · exact h.elim
theorem roundBegin_mono {l : Nat} {H : List Blk} {K K' : List Blk → Prop} (h : roundBegin l H K) (hk : ∀ H, K H → K' H) : roundBegin l H K' := by
  unfold roundBegin at *
  split at h
  · rw [bsetK_eq] at *; exact hk _ h
  · exact h.elim
end
end Go.Af
