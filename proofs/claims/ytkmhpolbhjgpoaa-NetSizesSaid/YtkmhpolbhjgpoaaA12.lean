/-
  'astep' is sound: the built-in functions, and the theorem. Then: regions in the order of the text.
-/
import Derived.Test.YtkmhpolbhjgpoaaA11
namespace Go.Af
open Go
set_option linter.unusedSimpArgs false

section
variable {P : Program} {T : TT} {sl : List (Nat × Value)} {H : List Blk} {K : Value → List Blk → Prop} {o : Oper}

theorem arr1 {α : Type} {a : Array α} {x : α} (h : a.toList = [x]) : a = #[x] := by cases a; simp_all
theorem arr2 {α : Type} {a : Array α} {x y : α} (h : a.toList = [x, y]) : a = #[x, y] := by cases a; simp_all

theorem run_builtin {b : Builtin} {ats : Array TypeId} {args : Array Operand} {aR : Act} {w w' : World} {v : Value} (hop : o.op = .call { callee := .builtin b, args, argTypes := ats })
    (h : ∀ cs, (builtin b ats o.type cs (args.map aR.eval)).run P w = .ok (.value v) w') : (execOp aR.eval o).run P w = .ok (.value v) w' := by
  simp only [execOp, hop, resolve, Sem.run_bind, Sem.run_pure, Result.andThen_ok, invoke, h]

theorem s_len (hT : TOk P T) {args : Array Operand} {ats : Array TypeId} (hop : o.op = .call { callee := .builtin .len, args, argTypes := ats }) (h : astep P T (.call { callee := .builtin .len, args, argTypes := ats }) sl H K) : OpV P o sl H K := by
  intro m aR w hs hh
  simp only [astep] at h
  split at h
  · rename_i x t ha ht
    have ha := arr1 ha; have ht := arr1 ht; subst ha; subst ht
    split at h
    · rename_i i v hi hv
      have hu := (hT.get hi).und
      have hx := ev_rel hs hv
      have fin : ∀ n : Int, (∀ w, (Builtin.len_ #[t] o.type #[aR.eval x]).run P w = .ok (.int .i64 n) w) → K (.int .i64 n) H →
          ∃ v vR, K v H ∧ (∀ w', (readOp o.op = true → ExtW w w') → (execOp aR.eval o).run P w' = .ok (.value vR) w') ∧ VRel m v vR := fun n hr hk =>
        ⟨_, _, hk, fun w' _ => run_builtin hop (fun cs => by simp only [builtin]; simp [hr]), .int _ _⟩
      generalize hux : aR.eval x = ux at hx fin
      split at h
      · rename_i e a l c hk
        rw [hk] at hu; simp only [KOk] at hu
        refine fin _ (fun w => ?_) h
        have : ∃ a' c', ux = .slice a' l c' := by cases hx <;> exact ⟨_, _, rfl⟩
        obtain ⟨a', c', rfl⟩ := this
        simp [Builtin.len_, run_und hu, goInt]
      · rename_i s hk
        rw [hk] at hu; simp only [KOk] at hu
        cases hx
        refine fin _ (fun w => ?_) h
        simp [Builtin.len_, run_und hu, goInt]
      · rename_i n e hk
        rw [hk] at hu; simp only [KOk] at hu
        refine fin _ (fun w => ?_) h
        simp [Builtin.len_, run_und hu, goInt]
      · exact h.elim
    · exact h.elim
  · exact h.elim

theorem s_max {args : Array Operand} {ats : Array TypeId} (hop : o.op = .call { callee := .builtin .max, args, argTypes := ats }) (h : astep P T (.call { callee := .builtin .max, args, argTypes := ats }) sl H K) : OpV P o sl H K := by
  intro m aR w hs hh
  simp only [astep] at h
  split at h
  · rename_i x y ha
    have ha := arr2 ha; subst ha
    split at h
    · rename_i k a j b hx hy
      split at h
      · rename_i hk
        have := sameK_eq hk; subst this
        have ex := ev_rel hs hx
        have ey := ev_rel hs hy
        generalize hux : aR.eval x = ux at ex
        generalize huy : aR.eval y = uy at ey
        cases ex; cases ey
        refine ⟨_, _, h, fun w' _ => run_builtin hop (fun cs => ?_), .int _ _⟩
        have e : (if b > a then b else a) = max a b := by rw [Int.max_def]; split <;> split <;> omega
        simp only [builtin]
        simp [Builtin.max_, Builtin.max2, hux, huy]
        exact e
      · exact h.elim
    · exact h.elim
  · exact h.elim

theorem s_min {args : Array Operand} {ats : Array TypeId} (hop : o.op = .call { callee := .builtin .min, args, argTypes := ats }) (h : astep P T (.call { callee := .builtin .min, args, argTypes := ats }) sl H K) : OpV P o sl H K := by
  intro m aR w hs hh
  simp only [astep] at h
  split at h
  · rename_i x y ha
    have ha := arr2 ha; subst ha
    split at h
    · rename_i k a j b hx hy
      split at h
      · rename_i hk
        have := sameK_eq hk; subst this
        have ex := ev_rel hs hx
        have ey := ev_rel hs hy
        generalize hux : aR.eval x = ux at ex
        generalize huy : aR.eval y = uy at ey
        cases ex; cases ey
        refine ⟨_, _, h, fun w' _ => run_builtin hop (fun cs => ?_), .int _ _⟩
        have e : (if b < a then b else a) = min a b := by rw [Int.min_def]; split <;> split <;> omega
        simp only [builtin]
        simp [Builtin.min_, Builtin.min2, hux, huy]
        exact e
      · exact h.elim
    · exact h.elim
  · exact h.elim

theorem s_append (hT : TOk P T) {args : Array Operand} {ats : Array TypeId} (hop : o.op = .call { callee := .builtin .append, args, argTypes := ats }) (h : astep P T (.call { callee := .builtin .append, args, argTypes := ats }) sl H K) : OpS P o sl H K := by
  simp only [astep] at h
  split at h
  · rename_i s x ts tx ha ht
    have ha := arr2 ha; have ht := arr2 ht; subst ha; subst ht
    split at h
    · rename_i i ix sv xv hi hix hsv hxv
      split at h
      · rename_i e hk
        have hu := (hT.get hi).und
        rw [hk] at hu; simp only [KOk] at hu
        split at h
        · rename_i j hj
          have core : ∀ dx, P.underlying tx = some dx → (dx = .string ∨ ∃ e', dx = .slice e') → (cellsL j.zero).length = j.size ∧ aAppend H j.size j.bytes sv xv K → OpS P o sl H K := by
            intro dx hdx hor ⟨hz, ha⟩ m aR w hs hh
            obtain ⟨vR, w', h1, v, H', m', h2, h3, h4, h5⟩ := append_run (P := P) (ty := o.type) hu hdx hor (hT.get hj) hz hh (ev_rel hs hsv) (ev_rel hs hxv) ha
            exact ⟨_, w', run_builtin hop (fun cs => by simp only [builtin]; simp [h1]), v, H', m', h2, h3, h4, h5⟩
          split at h
          · rename_i e' hk'
            have hu' := (hT.get hix).und
            rw [hk'] at hu'; simp only [KOk] at hu'
            exact core _ hu' (.inr ⟨_, rfl⟩) h
          · rename_i hk'
            have hu' := (hT.get hix).und
            rw [hk'] at hu'; simp only [KOk] at hu'
            exact core _ hu' (.inl rfl) h
          · exact h.elim
        · exact h.elim
      · exact h.elim
    · exact h.elim
  · exact h.elim

/-- Operations that make a value and touch nothing. -/
def valOp : Op → Bool
  | .move _ | .assign _ | .pick .. | .build .. | .load .. | .nilCheck _ | .binOp .. | .unOp .. | .convert .. | .makeInterface .. | .makeFunc .. | .slice .. | .fieldAddr .. | .field .. | .indexAddr .. | .index .. | .typeAssert .. | .extract .. => true
  | .call { callee := .builtin .len, .. } | .call { callee := .builtin .max, .. } | .call { callee := .builtin .min, .. } => true
  | _ => false

theorem astep_val (hT : TOk P T) (hv : valOp o.op = true) (h : astep P T o.op sl H K) : OpV P o sl H K ∧ Op.isDefer o.op = false := by
  generalize hop : o.op = op at h hv
  cases op <;> try (cases hv; done)
  case move x => exact ⟨s_move (.inl hop) h, rfl⟩
  case assign x => exact ⟨s_move (.inr hop) h, rfl⟩
  case pick => exact ⟨s_pick hop h, rfl⟩
  case build => exact ⟨s_build hT hop h, rfl⟩
  case load => exact ⟨s_load hT hop h, rfl⟩
  case nilCheck => exact ⟨s_nilCheck hop h, rfl⟩
  case binOp => exact ⟨s_binOp hT hop h, rfl⟩
  case unOp => exact ⟨s_unOp hop h, rfl⟩
  case convert => exact ⟨s_convert hT hop h, rfl⟩
  case makeInterface => exact ⟨s_makeInterface hT hop h, rfl⟩
  case makeFunc => exact ⟨s_makeFunc hop h, rfl⟩
  case slice => exact ⟨s_slice hT hop h, rfl⟩
  case fieldAddr => exact ⟨s_fieldAddr hT hop h, rfl⟩
  case field => exact ⟨s_field hT hop h, rfl⟩
  case indexAddr => exact ⟨s_indexAddr hT hop h, rfl⟩
  case index => exact ⟨s_index hT hop h, rfl⟩
  case typeAssert => exact ⟨s_typeAssert hT hop h, rfl⟩
  case extract => exact ⟨s_extract hop h, rfl⟩
  case call c =>
    obtain ⟨callee, args, ats⟩ := c
    cases callee with
    | value f => cases hv
    | invoke r n => cases hv
    | builtin b =>
      cases b <;> try (cases hv; done)
      case len => exact ⟨s_len hT hop h, rfl⟩
      case max => exact ⟨s_max hop h, rfl⟩
      case min => exact ⟨s_min hop h, rfl⟩

theorem astep_sound (hT : TOk P T) (h : astep P T o.op sl H K) : OpS P o sl H K ∧ Op.isDefer o.op = false := by
  by_cases hv : valOp o.op = true
  · have := astep_val hT hv h; exact ⟨this.1.ops, this.2⟩
  · generalize hop : o.op = op at h hv
    cases op <;> try (exact absurd rfl hv)
    case alloc => exact ⟨(s_alloc hT hop h).ext.ops, rfl⟩
    case box => exact ⟨(s_box hop h).ext.ops, rfl⟩
    case buildSlice => exact ⟨(s_buildSlice hT hop h).ext.ops, rfl⟩
    case store => exact ⟨s_store hT hop h, rfl⟩
    case makeSlice => exact ⟨(s_makeSlice hT hop h).ext.ops, rfl⟩
    case call c =>
      obtain ⟨callee, args, ats⟩ := c
      cases callee with
      | value f => exact h.elim
      | invoke r n => exact h.elim
      | builtin b =>
        cases b <;> try (exact absurd rfl hv)
        case append => exact ⟨s_append hT hop h, rfl⟩
        all_goals exact h.elim
    all_goals exact h.elim

def allocOp : Op → Bool
  | .alloc _ | .box .. | .buildSlice .. | .makeSlice .. => true
  | _ => false
theorem astep_alloc (hT : TOk P T) (hv : allocOp o.op = true) (h : astep P T o.op sl H K) : OpA P o sl H K ∧ Op.isDefer o.op = false := by
  generalize hop : o.op = op at h hv
  cases op <;> try (cases hv; done)
  case alloc => exact ⟨s_alloc hT hop h, rfl⟩
  case box => exact ⟨s_box hop h, rfl⟩
  case buildSlice => exact ⟨s_buildSlice hT hop h, rfl⟩
  case makeSlice => exact ⟨s_makeSlice hT hop h, rfl⟩

end
end Go.Af
