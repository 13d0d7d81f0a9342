import Derived.Test.YtkmhpolbhjgpoaaS5
namespace Go.Af
open Go
theorem AInvokeX.call {P : Program} {t : TypeId} {v : Value} {name : String} {args : List Value} {H : List Blk} {R : Value → List Blk → Prop} (h : AInvokeX P t v name args H R) : AInvoke P t v name args H R :=
  let ⟨f, h1, h2⟩ := h; ⟨f, h1, h2.call⟩
end Go.Af
namespace Go.Af.Try
open Go Go.Proofs
attribute [local irreducible] awp ACall ACallX AYield AInvoke AInvokeX

theorem prod_take (g : List Int) : ∀ (n k : Int), 1 ≤ n → gridN g n = some k → (∀ m ∈ g, 2 ≤ m ∧ m ≤ 16) ∧ ∀ i, 1 ≤ (g.take i).foldl (fun n m => n * m) n ∧ ((g.take i).foldl (fun n m => n * m) n ≤ 256 ∨ i = 0 ∨ g = []) := by
  induction g with
  | nil => intro n k hn h; exact ⟨fun m hm => (by cases hm), fun i => (by simp [hn])⟩
  | cons m r ih =>
    intro n k hn h
    simp only [gridN] at h
    split at h
    · rename_i hc
      simp only [betw, Bool.and_eq_true, decide_eq_true_eq] at hc
      have h1 : 1 ≤ n * m := by
        have := Int.mul_le_mul hn (show (1 : Int) ≤ m by omega) (by decide) (by omega)
        simpa using this
      obtain ⟨k1, k2⟩ := ih (n * m) k h1 h
      refine ⟨fun x hx => ?_, fun i => ?_⟩
      · rcases List.mem_cons.1 hx with rfl | hx
        · exact ⟨hc.1.1, hc.1.2⟩
        · exact k1 x hx
      · cases i with
        | zero => exact ⟨by simpa using hn, .inr (.inl rfl)⟩
        | succ i =>
          refine ⟨by simpa using (k2 i).1, .inl ?_⟩
          rcases (k2 i).2 with h3 | rfl | rfl
          · simpa using h3
          · simpa using hc.2
          · simpa using hc.2
    · cases h

theorem shapeF_ok {kind hosts : Int} {sides : List Int} {s : Sh} (h : shapeF kind sides hosts = some s) : s.ok := by
  unfold shapeF at h
  split at h
  · split at h
    · rename_i k hk
      split at h
      · rename_i hc
        cases h
        simp only [betw, Bool.and_eq_true, decide_eq_true_eq] at hc
        obtain ⟨h1, h2⟩ := prod_take sides 1 _ (by decide) hk
        refine ⟨by omega, by omega, h1, fun i => ⟨(h2 i).1, ?_⟩⟩
        rcases (h2 i).2 with h3 | rfl | rfl
        · exact h3
        · simp [prodF]
        · simp [prodF]
      · cases h
    · cases h
  · split at h
    · split at h
      · split at h
        · rename_i hc
          cases h
          simp only [betw, Bool.and_eq_true, decide_eq_true_eq] at hc
          exact ⟨⟨hc.1.1, hc.1.2⟩, ⟨hc.2.1.1, hc.2.1.2⟩, hc.2.2.1⟩
        · cases h
      · cases h
    · split at h
      · split at h
        · split at h
          · rename_i hc
            cases h
            simp only [betw, Bool.and_eq_true, decide_eq_true_eq] at hc
            exact ⟨⟨hc.1.1, hc.1.2⟩, ⟨hc.2.1.1, hc.2.1.2⟩, hc.2.2.2⟩
          · cases h
        · cases h
      · cases h

def inAll (l : List Int) (n : Int) : Bool := l.all fun x => decide (0 ≤ x) && decide (x < n)
/-- What 'with' returns: the shape, or an error. -/
def withR (v : Value) (s : Option Sh) (l : List Int) : Value :=
  match s with
  | none => .tuple ⟨[.nilIface, .int .i64 2]⟩
  | some s => if inAll l s.sw then .tuple ⟨[shV v s, .int .i64 0]⟩ else .tuple ⟨[.nilIface, .int .i64 3]⟩

theorem inAll_get {l : List Int} {n : Int} {i : Nat} (hi : i < l.length) (h : ¬ (0 ≤ l[i]! ∧ l[i]! < n)) : inAll l n = false := by
  rw [Bool.eq_false_iff]
  intro h2
  simp only [inAll, List.all_eq_true, Bool.and_eq_true, decide_eq_true_eq] at h2
  have := h2 l[i]! (by rw [getElem!_pos l i hi]; exact List.getElem_mem hi)
  exact h this

theorem shapeF_grid {kind hosts : Int} {sides g : List Int} (h : shapeF kind sides hosts = some (.grid g)) : g = sides := by
  unfold shapeF at h
  split at h
  · split at h
    · split at h
      · cases h; rfl
      · cases h
    · cases h
  · split at h
    · split at h
      · split at h <;> cases h
      · cases h
    · split at h
      · split at h
        · split at h <;> cases h
        · cases h
      · cases h

theorem vren_with {ι : List (Nat × Nat)} {n : Nat} (h : ι[0]? = some (0, 0)) (s : Sh) (l : List Int) (hin : inAll l s.sw = true) : VRen ι (withR (sv 0 n) (some s) l) (.tuple ⟨[shV (sv 0 n) s, .int .i64 0]⟩) := by
  simp only [withR, hin, if_true]
  cases s with
  | grid g => exact VRen.tuple (.cons (.iface _ (VRen.slice h rfl (Nat.le_refl _))) (.cons (.int _ _) .nil))
  | fat k n => exact VRen.plain rfl
  | fly k n => exact VRen.plain rfl

theorem l62 (kind hosts : Int) (sides l : List Int) (hl : l.length ≤ 1000) : ACall Try.prog 62 [spV kind (sv 0 sides.length) hosts, sv 1 l.length] [ro sides, ro l]
    (fun v H => v = withR (sv 0 sides.length) (shapeF kind sides hosts) l ∧ H = [ro sides, ro l]) := by
  refine acall_drop (acall_vcg tok Try.call62 Try.func62 rfl Try.ntmps62 rfl (by simp) ?_)
  (repeat (first | refine And.intro (fun _ => ?_) (fun h => absurd h (by decide)) | refine And.intro (fun h => absurd h (by decide)) (fun _ => ?_) | refine Exists.intro _ (And.intro rfl ?_) | refine And.intro (by decide) ?_ | refine And.intro (by omega) ?_ | refine Or.inl (Exists.intro _ (And.intro rfl (And.intro (by unfold I64; omega) ?_)))))
  (first | refine c57 kind hosts rfl (Nat.le_refl _) ?_ | refine (c57 kind hosts rfl (Nat.le_refl _) ?_).call)
  cases hs : shapeF kind sides hosts with
  | none =>
    (repeat (first | refine And.intro (fun _ => ?_) (fun h => absurd h (by decide)) | refine And.intro (fun h => absurd h (by decide)) (fun _ => ?_) | refine Exists.intro _ (And.intro rfl ?_) | refine And.intro (by decide) ?_ | refine And.intro (by omega) ?_ | refine Or.inl (Exists.intro _ (And.intro rfl (And.intro (by unfold I64; omega) ?_)))))
    exact ⟨[(0, 0), (1, 0)], _, [ro sides, ro l], by simp, anch_of rfl, ⟨⟨_, rfl, BRen.ints _ _ _⟩, ⟨_, rfl, BRen.ints _ _ _⟩, trivial⟩, rfl, VRen.plain rfl, rfl, rfl⟩
  | some s =>
    have hok := shapeF_ok hs
    have hat : s.at [ro sides, ro l, .cells true 1 [.int .i64 kind, sv 0 sides.length, .int .i64 hosts]] 0 sides.length := by
      cases s with
      | grid g => have := shapeF_grid hs; subst this; exact ⟨rfl, false, rfl⟩
      | fat k n => trivial
      | fly k n => trivial
    (repeat (first | refine And.intro (fun _ => ?_) (fun h => absurd h (by decide)) | refine And.intro (fun h => absurd h (by decide)) (fun _ => ?_) | refine Exists.intro _ (And.intro rfl ?_) | refine And.intro (by decide) ?_ | refine And.intro (by omega) ?_ | refine Or.inl (Exists.intro _ (And.intro rfl (And.intro (by unfold I64; omega) ?_)))))
    refine vcg_loopR tok (fun i : Nat => i ≤ l.length ∧ inAll (l.take i) s.sw = true) (fun i => [(6, shV (sv 0 sides.length) s), (18, sv 1 l.length), (19, .int .i64 l.length), (20, .int .i64 i)])
      (fun _ => [ro sides, ro l, .cells true 1 [.int .i64 kind, sv 0 sides.length, .int .i64 hosts]]) (fun i => l.length - i) 0 ⟨Nat.zero_le _, rfl⟩ ?_ ?_
    · exact Or.inl ⟨⟨rfl, rfl, rfl, rfl, trivial⟩, rfl⟩
    rintro i ⟨hi, hin⟩
    refine And.intro (fun hc => ?_) (fun hc => ?_)
    · have hlt : i < l.length := by simpa using hc
      refine ⟨i, rfl, hlt, ?_⟩
      refine Ld_ints i l[i]! (by simp) (by simp [hlt]) ?_
      refine And.intro (fun hn => ?_) (fun hn => ?_)
      · have hn : ¬ l[i]! < 0 := by simpa using hn
        (repeat (first | refine And.intro (fun _ => ?_) (fun h => absurd h (by decide)) | refine And.intro (fun h => absurd h (by decide)) (fun _ => ?_) | refine Exists.intro _ (And.intro rfl ?_) | refine And.intro (by decide) ?_ | refine And.intro (by omega) ?_ | refine Or.inl (Exists.intro _ (And.intro rfl (And.intro (by unfold I64; omega) ?_)))))
        refine (x_sw hok hat ?_).call
        (repeat (first | refine And.intro (fun _ => ?_) (fun h => absurd h (by decide)) | refine And.intro (fun h => absurd h (by decide)) (fun _ => ?_) | refine Exists.intro _ (And.intro rfl ?_) | refine And.intro (by decide) ?_ | refine And.intro (by omega) ?_ | refine Or.inl (Exists.intro _ (And.intro rfl (And.intro (by unfold I64; omega) ?_)))))
        refine And.intro (fun hg => ?_) (fun hg => ?_)
        · have hg : s.sw ≤ l[i]! := by simpa using hg
          have e : inAll l s.sw = false := inAll_get hlt (by omega)
          exact ⟨[(0, 0), (1, 0)], _, [ro sides, ro l], by simp, anch_of rfl, ⟨⟨_, rfl, BRen.ints _ _ _⟩, ⟨_, rfl, BRen.ints _ _ _⟩, trivial⟩, rfl, VRen.plain rfl, by simp [withR, e]; rfl, rfl⟩
        · have hg : ¬ s.sw ≤ l[i]! := by simpa using hg
          refine Or.inl ⟨((i + 1 : Nat) : Int), by simp, by unfold I64; omega, ?_⟩
          refine ⟨i + 1, ⟨hlt, ?_⟩, by omega, .inl ⟨⟨rfl, rfl, rfl, rfl, trivial⟩, rfl⟩⟩
          rw [List.take_succ_eq_append_getElem hlt]
          rw [getElem!_pos l i hlt] at hn hg
          have h1 : ¬ s.sw ≤ l[i] := hg
          simp only [inAll, List.all_append, List.all_cons, List.all_nil, Bool.and_true, Bool.and_eq_true, decide_eq_true_eq] at hin ⊢
          exact ⟨hin, by omega, by omega⟩
      · have hn : l[i]! < 0 := by simpa using hn
        have e : inAll l s.sw = false := inAll_get hlt (by omega)
        (repeat (first | refine And.intro (fun _ => ?_) (fun h => absurd h (by decide)) | refine And.intro (fun h => absurd h (by decide)) (fun _ => ?_) | refine Exists.intro _ (And.intro rfl ?_) | refine And.intro (by decide) ?_ | refine And.intro (by omega) ?_ | refine Or.inl (Exists.intro _ (And.intro rfl (And.intro (by unfold I64; omega) ?_)))))
        exact ⟨[(0, 0), (1, 0)], _, [ro sides, ro l], by simp, anch_of rfl, ⟨⟨_, rfl, BRen.ints _ _ _⟩, ⟨_, rfl, BRen.ints _ _ _⟩, trivial⟩, rfl, VRen.plain rfl, by simp [withR, e]; rfl, rfl⟩
    · have : i = l.length := by simp at hc; omega
      subst this
      rw [List.take_of_length_le (Nat.le_refl _)] at hin
      (repeat (first | refine And.intro (fun _ => ?_) (fun h => absurd h (by decide)) | refine And.intro (fun h => absurd h (by decide)) (fun _ => ?_) | refine Exists.intro _ (And.intro rfl ?_) | refine And.intro (by decide) ?_ | refine And.intro (by omega) ?_ | refine Or.inl (Exists.intro _ (And.intro rfl (And.intro (by unfold I64; omega) ?_)))))
      exact ⟨[(0, 0), (1, 0)], withR (sv 0 sides.length) (some s) l, [ro sides, ro l], by simp, anch_of rfl, ⟨⟨_, rfl, BRen.ints _ _ _⟩, ⟨_, rfl, BRen.ints _ _ _⟩, trivial⟩, rfl, vren_with rfl _ _ hin, rfl, rfl⟩
end Go.Af.Try
