import Derived.Test.YtkmhpolbhjgpoaaS6
namespace Go.Af.Try
open Go Go.Proofs
attribute [local irreducible] awp ACall ACallX AYield AInvoke AInvokeX

/-! The reference's small functions. -/
theorem l60 (n lo hi : Int) : ACall Try.prog 60 [.int .i64 n, .int .i64 lo, .int .i64 hi] [] (fun v H => v = .bool (betw n lo hi) ∧ H = []) := by
  refine acall_vcg tok Try.call60 Try.func60 rfl Try.ntmps60 rfl (by simp) ?_
  refine And.intro (fun h1 => ?_) (fun h1 => ?_)
  all_goals repeat (first | refine And.intro (fun _ => ?_) (fun h => absurd h (by decide)) | refine And.intro (fun h => absurd h (by decide)) (fun _ => ?_))
  · exact ⟨by show Value.bool _ = _; rw [betw, h1, Bool.true_and], rfl⟩
  · exact ⟨by show Value.bool _ = _; rw [betw, h1]; rfl, rfl⟩
theorem x60 {H : List Blk} {R : Value → List Blk → Prop} (n lo hi : Int) (h : R (.bool (betw n lo hi)) H) : ACallX Try.prog 60 [.int .i64 n, .int .i64 lo, .int .i64 hi] H R :=
  acallx_s (l60 n lo hi) [] rfl (.cons (.int _ _) (.cons (.int _ _) (.cons (.int _ _) .nil))) trivial rfl h

/-- A specification that lies at b: its sides are read. -/
theorem acallx_sp {f : FuncId} {H : List Blk} {R : Value → List Blk → Prop} {b c : Nat} {wr : Bool} {sides : List Int} {kind hosts : Int} {xs : List Value} {V : Value} (hp : xs.all (plainV 6) = true)
    (hc : ACall Try.prog f (spV kind (sv 0 sides.length) hosts :: xs) [ro sides] (fun v H' => v = V ∧ H' = [ro sides])) (hb : bget H b = some (.cells wr 1 (ints sides))) (hl : sides.length ≤ c) (hV : plainV 6 V = true) (h : R V H) :
    ACallX Try.prog f (spV kind (.slice (some ⟨b, 0, none⟩) sides.length c) hosts :: xs) H R :=
  acallx_s hc [(b, 0)] rfl (.cons (.agg (.cons (.int _ _) (.cons (VRen.slice rfl rfl hl) (.cons (.int _ _) .nil)))) (LRen.of rfl fun i x2 x h1 h2 => by
      rw [h1] at h2; cases h2
      rw [List.all_eq_true] at hp
      exact VRen.plain (hp x2 (List.mem_of_getElem? h1))))
    ⟨⟨_, hb, BRen.seg fun i x hx => by rw [Nat.zero_add, ints_get, hx]; rfl⟩, trivial⟩ hV h
/-- The same, the answer a new row. -/
theorem acallx_spr {f : FuncId} {H : List Blk} {R : Value → List Blk → Prop} {b c : Nat} {wr : Bool} {sides : List Int} {kind hosts : Int} {xs : List Value} {out : List Int} {n k : Nat} (hp : xs.all (plainV 6) = true)
    (hc : ACall Try.prog f (spV kind (sv 0 sides.length) hosts :: xs) [ro sides] (fun v H' => v = .slice (some ⟨1, 0, none⟩) n k ∧ H' = [ro sides, rw' out])) (hb : bget H b = some (.cells wr 1 (ints sides))) (hl : sides.length ≤ c)
    (h : bsnocK H 0 (rw' out) (fun i H' => R (.slice (some ⟨i, 0, none⟩) n k) H')) :
    ACallX Try.prog f (spV kind (.slice (some ⟨b, 0, none⟩) sides.length c) hosts :: xs) H R :=
  acallx_r (H2 := [ro sides]) hc [(b, 0)] rfl (.cons (.agg (.cons (.int _ _) (.cons (VRen.slice rfl rfl hl) (.cons (.int _ _) .nil)))) (LRen.of rfl fun i x2 x h1 h2 => by
      rw [h1] at h2; cases h2
      rw [List.all_eq_true] at hp
      exact VRen.plain (hp x2 (List.mem_of_getElem? h1))))
    ⟨⟨_, hb, BRen.seg fun i x hx => by rw [Nat.zero_add, ints_get, hx]; rfl⟩, trivial⟩ h

theorem l65 (kind hosts k n : Int) (hk : 2 ≤ k ∧ k ≤ 8) (hn : 1 ≤ n ∧ n ≤ 4) : ACall Try.prog 65 [spV kind (sv 0 2) hosts] [ro [k, n]] (fun v H => v = .int .i64 (k ^ (n - 1).toNat) ∧ H = [ro [k, n]]) := by
  refine acall_drop (acall_vcg tok Try.call65 Try.func65 rfl Try.ntmps65 rfl (by simp) ?_)
  refine vcg_draw tok mx [0, 1, 3, 7, 0, 16, 48, 112, 240, 511, 1023] [false, false, false, false, true, true, true, true, true, false, false] [0, 1, 2, 3, 4, 5, 6, 7, 8, 9, 10] (by kernel_rfl) ?_
  (repeat (first | refine And.intro (fun _ => ?_) (fun h => absurd h (by decide)) | refine And.intro (fun h => absurd h (by decide)) (fun _ => ?_) | refine Exists.intro _ (And.intro rfl ?_) | refine And.intro (by decide) ?_ | refine And.intro (by omega) ?_ | refine Or.inl (Exists.intro _ (And.intro rfl (And.intro (by unfold I64; omega) ?_))) | refine And.intro (show (_ : Nat) < _ from by simp) ?_))
  (first | refine c61 k (n - 1) (powb (by omega) (by omega) (by omega)) (by omega) ?_ | refine (c61 k (n - 1) (powb (by omega) (by omega) (by omega)) (by omega) ?_).call)
  (repeat (first | refine And.intro (fun _ => ?_) (fun h => absurd h (by decide)) | refine And.intro (fun h => absurd h (by decide)) (fun _ => ?_) | refine Exists.intro _ (And.intro rfl ?_) | refine And.intro (by decide) ?_ | refine And.intro (by omega) ?_ | refine Or.inl (Exists.intro _ (And.intro rfl (And.intro (by unfold I64; omega) ?_))) | refine And.intro (show (_ : Nat) < _ from by simp) ?_))
  exact ⟨[(0, 0)], _, [ro [k, n]], by simp, anch_of rfl, ⟨⟨_, rfl, BRen.ints _ _ _⟩, trivial⟩, rfl, VRen.plain rfl, rfl, rfl⟩
theorem c65 {H : List Blk} {R : Value → List Blk → Prop} {b : Nat} {wr : Bool} {kind hosts k n : Int} (hk : 2 ≤ k ∧ k ≤ 8) (hn : 1 ≤ n ∧ n ≤ 4) (hb : bget H b = some (.cells wr 1 (ints [k, n]))) (h : R (.int .i64 (k ^ (n - 1).toNat)) H) :
    ACallX Try.prog 65 [spV kind (sv b 2) hosts] H R := acallx_sp (sides := [k, n]) rfl (l65 kind hosts k n hk hn) hb (Nat.le_refl _) rfl h

theorem l70 (kind hosts a b : Int) (ha : 1 ≤ a ∧ a ≤ 16) (hb : 1 ≤ b ∧ b ≤ 4) : ACall Try.prog 70 [spV kind (sv 0 2) hosts] [ro [a, b]] (fun v H => v = .int .i64 (a * b + 1) ∧ H = [ro [a, b]]) := by
  refine acall_drop (acall_vcg tok Try.call70 Try.func70 rfl Try.ntmps70 rfl (by simp) ?_)
  have hm := mulb (a := a) (b := b) (A := 16) (B := 4) (by omega) (by omega) (by omega) (by omega)
  refine vcg_draw tok mx [0, 1, 3, 7, 0, 16, 48, 112, 255, 511, 1023] [false, false, false, false, true, true, true, true, false, false, false] [0, 1, 2, 3, 4, 5, 6, 7, 8, 9, 10] (by kernel_rfl) ?_
  (repeat (first | refine And.intro (fun _ => ?_) (fun h => absurd h (by decide)) | refine And.intro (fun h => absurd h (by decide)) (fun _ => ?_) | refine Exists.intro _ (And.intro rfl ?_) | refine And.intro (by decide) ?_ | refine And.intro (by omega) ?_ | refine Or.inl (Exists.intro _ (And.intro rfl (And.intro (by unfold I64; omega) ?_))) | refine And.intro (show (_ : Nat) < _ from by simp) ?_))
  exact ⟨[(0, 0)], _, [ro [a, b]], by simp, anch_of rfl, ⟨⟨_, rfl, BRen.ints _ _ _⟩, trivial⟩, rfl, VRen.plain rfl, rfl, rfl⟩
theorem c70 {H : List Blk} {R : Value → List Blk → Prop} {b : Nat} {wr : Bool} {kind hosts k n : Int} (hk : 1 ≤ k ∧ k ≤ 16) (hn : 1 ≤ n ∧ n ≤ 4) (hb : bget H b = some (.cells wr 1 (ints [k, n]))) (h : R (.int .i64 (k * n + 1)) H) :
    ACallX Try.prog 70 [spV kind (sv b 2) hosts] H R := acallx_sp (sides := [k, n]) rfl (l70 kind hosts k n hk hn) hb (Nat.le_refl _) rfl h

/-- Which sides, and which kind, a shape comes from. -/
def Sh.of (kind : Int) (sides : List Int) : Sh → Prop
  | .grid g => kind = 1 ∧ g = sides
  | .fat k n => kind = 2 ∧ sides = [k, n]
  | .fly a h => kind = 3 ∧ sides = [a, h]
theorem shapeF_of {kind hosts : Int} {sides : List Int} {s : Sh} (h : shapeF kind sides hosts = some s) : s.of kind sides := by
  unfold shapeF at h
  split at h
  · rename_i hk
    split at h
    · split at h
      · cases h; exact ⟨hk, rfl⟩
      · cases h
    · cases h
  · split at h
    · rename_i hk
      split at h
      · split at h
        · cases h; exact ⟨hk, rfl⟩
        · cases h
      · cases h
    · split at h
      · rename_i hk
        split at h
        · split at h
          · cases h; exact ⟨hk, rfl⟩
          · cases h
        · cases h
      · cases h

theorem l58 (kind hosts : Int) (sides : List Int) (s : Sh) (hok : s.ok) (hof : s.of kind sides) : ACall Try.prog 58 [spV kind (sv 0 sides.length) hosts] [ro sides] (fun v H => v = .int .i64 s.sw ∧ H = [ro sides]) := by
  refine acall_drop (acall_vcg tok Try.call58 Try.func58 rfl Try.ntmps58 rfl (by simp) ?_)
  cases s with
  | grid g =>
    obtain ⟨rfl, rfl⟩ := hof
    obtain ⟨h1, h2, h3, h4⟩ := hok
    (repeat (first | refine And.intro (fun _ => ?_) (fun h => absurd h (by decide)) | refine And.intro (fun h => absurd h (by decide)) (fun _ => ?_) | refine Exists.intro _ (And.intro rfl ?_) | refine And.intro (by decide) ?_ | refine And.intro (by omega) ?_ | refine Or.inl (Exists.intro _ (And.intro rfl (And.intro (by unfold I64; omega) ?_)))))
    refine vcg_loopR tok (fun i : Nat => i ≤ g.length) (fun i => [(1, .pointer (some ⟨1, 0, none⟩)), (3, .int .i64 (prodF (g.take i))), (4, .int .i64 i)]) (fun _ => [ro g, .cells true 1 [.int .i64 1, sv 0 g.length, .int .i64 hosts]])
      (fun i => g.length - i) 0 (Nat.zero_le _) ?_ ?_
    · exact Or.inl ⟨⟨rfl, rfl, rfl, trivial⟩, rfl⟩
    intro i hi
    (repeat (first | refine And.intro (fun _ => ?_) (fun h => absurd h (by decide)) | refine And.intro (fun h => absurd h (by decide)) (fun _ => ?_) | refine Exists.intro _ (And.intro rfl ?_) | refine And.intro (by decide) ?_ | refine And.intro (by omega) ?_ | refine Or.inl (Exists.intro _ (And.intro rfl (And.intro (by unfold I64; omega) ?_)))))
    refine And.intro (fun hc => ?_) (fun hc => ?_)
    · have hlt : i < g.length := by simpa using hc
      (repeat (first | refine And.intro (fun _ => ?_) (fun h => absurd h (by decide)) | refine And.intro (fun h => absurd h (by decide)) (fun _ => ?_) | refine Exists.intro _ (And.intro rfl ?_) | refine And.intro (by decide) ?_ | refine And.intro (by omega) ?_ | refine Or.inl (Exists.intro _ (And.intro rfl (And.intro (by unfold I64; omega) ?_)))))
      refine Ld_ints i g[i]! (by simp) (by simp [hlt]) ?_
      refine Or.inl ⟨_, (prodF_snoc g i hlt).symm, i64_of (by have := h4 (i + 1); omega), ?_⟩
      refine Or.inl ⟨((i + 1 : Nat) : Int), by simp, by unfold I64; omega, ?_⟩
      exact ⟨i + 1, hlt, by omega, .inl ⟨⟨rfl, rfl, rfl, trivial⟩, rfl⟩⟩
    · have : i = g.length := by simp at hc; omega
      subst this
      refine ⟨[(0, 0)], _, [ro g], by simp, anch_of rfl, ⟨⟨_, rfl, BRen.ints _ _ _⟩, trivial⟩, rfl, VRen.plain rfl, ?_, rfl⟩
      rw [List.take_of_length_le (Nat.le_refl _)]; rfl
  | fat k n =>
    obtain ⟨rfl, rfl⟩ := hof
    obtain ⟨h1, h2, h3⟩ := hok
    have hp := powle (k := k) (by omega) (by omega) (n - 1).toNat (by omega)
    have hm := mulb (a := n) (A := 4) (by omega) (by omega) hp.1 hp.2
    (repeat (first | refine And.intro (fun _ => ?_) (fun h => absurd h (by decide)) | refine And.intro (fun h => absurd h (by decide)) (fun _ => ?_) | refine Exists.intro _ (And.intro rfl ?_) | refine And.intro (by decide) ?_ | refine And.intro (by omega) ?_ | refine Or.inl (Exists.intro _ (And.intro rfl (And.intro (by unfold I64; omega) ?_)))))
    refine vcg_draw tok mx [0, 1, 3, 7, 0, 16, 63, 127] [false, false, false, false, true, true, false, false] [0, 1, 2, 3, 4, 5, 6, 7] (by kernel_rfl) ?_
    (repeat (first | refine And.intro (fun _ => ?_) (fun h => absurd h (by decide)) | refine And.intro (fun h => absurd h (by decide)) (fun _ => ?_) | refine Exists.intro _ (And.intro rfl ?_) | refine And.intro (by decide) ?_ | refine And.intro (by omega) ?_ | refine Or.inl (Exists.intro _ (And.intro rfl (And.intro (by unfold I64; omega) ?_))) | refine And.intro (show (_ : Nat) < _ from by simp) ?_))
    (first | refine c65 h1 h2 rfl ?_ | refine (c65 h1 h2 rfl ?_).call)
    (repeat (first | refine And.intro (fun _ => ?_) (fun h => absurd h (by decide)) | refine And.intro (fun h => absurd h (by decide)) (fun _ => ?_) | refine Exists.intro _ (And.intro rfl ?_) | refine And.intro (by decide) ?_ | refine And.intro (by omega) ?_ | refine Or.inl (Exists.intro _ (And.intro rfl (And.intro (by unfold I64; omega) ?_))) | refine And.intro (show (_ : Nat) < _ from by simp) ?_))
    exact ⟨[(0, 0)], _, [ro [k, n]], by simp, anch_of rfl, ⟨⟨_, rfl, BRen.ints _ _ _⟩, trivial⟩, rfl, VRen.plain rfl, rfl, rfl⟩
  | fly a h =>
    obtain ⟨rfl, rfl⟩ := hof
    obtain ⟨h1, h2, h3⟩ := hok
    have hm := mulb (a := a) (b := h) (A := 16) (B := 4) (by omega) (by omega) (by omega) (by omega)
    have hm2 := mulb (a := a) (b := a * h + 1) (A := 16) (B := 65) (by omega) (by omega) (by omega) (by omega)
    (repeat (first | refine And.intro (fun _ => ?_) (fun h => absurd h (by decide)) | refine And.intro (fun h => absurd h (by decide)) (fun _ => ?_) | refine Exists.intro _ (And.intro rfl ?_) | refine And.intro (by decide) ?_ | refine And.intro (by omega) ?_ | refine Or.inl (Exists.intro _ (And.intro rfl (And.intro (by unfold I64; omega) ?_)))))
    refine vcg_draw tok mx [0, 1, 3, 7, 0, 16, 63, 127] [false, false, false, false, true, true, false, false] [0, 1, 2, 3, 4, 5, 6, 7] (by kernel_rfl) ?_
    (repeat (first | refine And.intro (fun _ => ?_) (fun h => absurd h (by decide)) | refine And.intro (fun h => absurd h (by decide)) (fun _ => ?_) | refine Exists.intro _ (And.intro rfl ?_) | refine And.intro (by decide) ?_ | refine And.intro (by omega) ?_ | refine Or.inl (Exists.intro _ (And.intro rfl (And.intro (by unfold I64; omega) ?_))) | refine And.intro (show (_ : Nat) < _ from by simp) ?_))
    (first | refine c70 h1 h2 rfl ?_ | refine (c70 h1 h2 rfl ?_).call)
    (repeat (first | refine And.intro (fun _ => ?_) (fun h => absurd h (by decide)) | refine And.intro (fun h => absurd h (by decide)) (fun _ => ?_) | refine Exists.intro _ (And.intro rfl ?_) | refine And.intro (by decide) ?_ | refine And.intro (by omega) ?_ | refine Or.inl (Exists.intro _ (And.intro rfl (And.intro (by unfold I64; omega) ?_))) | refine And.intro (show (_ : Nat) < _ from by simp) ?_))
    exact ⟨[(0, 0)], _, [ro [a, h]], by simp, anch_of rfl, ⟨⟨_, rfl, BRen.ints _ _ _⟩, trivial⟩, rfl, VRen.plain rfl, rfl, rfl⟩
theorem c58 {H : List Blk} {R : Value → List Blk → Prop} {b c : Nat} {wr : Bool} {kind hosts : Int} {sides : List Int} {s : Sh} (hok : s.ok) (hof : s.of kind sides) (hb : bget H b = some (.cells wr 1 (ints sides))) (hl : sides.length ≤ c) (h : R (.int .i64 s.sw) H) :
    ACallX Try.prog 58 [spV kind (.slice (some ⟨b, 0, none⟩) sides.length c) hosts] H R := acallx_sp rfl (l58 kind hosts sides s hok hof) hb hl rfl h

theorem l59 (kind hosts : Int) (sides : List Int) (s : Sh) (hok : s.ok) (hof : s.of kind sides) : ACall Try.prog 59 [spV kind (sv 0 sides.length) hosts] [ro sides] (fun v H => v = .int .i64 s.hm ∧ H = [ro sides]) := by
  refine acall_drop (acall_vcg tok Try.call59 Try.func59 rfl Try.ntmps59 rfl (by simp) ?_)
  (repeat (first | refine And.intro (fun _ => ?_) (fun h => absurd h (by decide)) | refine And.intro (fun h => absurd h (by decide)) (fun _ => ?_) | refine Exists.intro _ (And.intro rfl ?_) | refine And.intro (by decide) ?_ | refine And.intro (by omega) ?_ | refine Or.inl (Exists.intro _ (And.intro rfl (And.intro (by unfold I64; omega) ?_)))))
  have fin : ∀ {V : Value} {H : List Blk} {z : Value}, V = .int .i64 s.hm → H = [ro sides, .cells true 1 [.int .i64 kind, sv 0 sides.length, .int .i64 hosts]] → Drop [ro sides].length (fun v H => v = Value.int .i64 s.hm ∧ H = [ro sides]) V H := by
    rintro V H z rfl rfl
    exact ⟨[(0, 0)], _, [ro sides], by simp, anch_of rfl, ⟨⟨_, rfl, BRen.ints _ _ _⟩, trivial⟩, rfl, VRen.plain rfl, rfl, rfl⟩
  cases s with
  | grid g =>
    obtain ⟨rfl, rfl⟩ := hof
    (repeat (first | refine And.intro (fun _ => ?_) (fun h => absurd h (by decide)) | refine And.intro (fun h => absurd h (by decide)) (fun _ => ?_) | refine Exists.intro _ (And.intro rfl ?_) | refine And.intro (by decide) ?_ | refine And.intro (by omega) ?_ | refine Or.inl (Exists.intro _ (And.intro rfl (And.intro (by unfold I64; omega) ?_)))))
    (first | refine c58 hok ⟨rfl, rfl⟩ rfl (Nat.le_refl _) ?_ | refine (c58 hok ⟨rfl, rfl⟩ rfl (Nat.le_refl _) ?_).call)
    (repeat (first | refine And.intro (fun _ => ?_) (fun h => absurd h (by decide)) | refine And.intro (fun h => absurd h (by decide)) (fun _ => ?_) | refine Exists.intro _ (And.intro rfl ?_) | refine And.intro (by decide) ?_ | refine And.intro (by omega) ?_ | refine Or.inl (Exists.intro _ (And.intro rfl (And.intro (by unfold I64; omega) ?_)))))
    exact fin (z := undef) rfl rfl
  | fat k n =>
    obtain ⟨rfl, rfl⟩ := hof
    (repeat (first | refine And.intro (fun _ => ?_) (fun h => absurd h (by decide)) | refine And.intro (fun h => absurd h (by decide)) (fun _ => ?_) | refine Exists.intro _ (And.intro rfl ?_) | refine And.intro (by decide) ?_ | refine And.intro (by omega) ?_ | refine Or.inl (Exists.intro _ (And.intro rfl (And.intro (by unfold I64; omega) ?_)))))
    (first | refine c65 hok.1 hok.2.1 rfl ?_ | refine (c65 hok.1 hok.2.1 rfl ?_).call)
    (repeat (first | refine And.intro (fun _ => ?_) (fun h => absurd h (by decide)) | refine And.intro (fun h => absurd h (by decide)) (fun _ => ?_) | refine Exists.intro _ (And.intro rfl ?_) | refine And.intro (by decide) ?_ | refine And.intro (by omega) ?_ | refine Or.inl (Exists.intro _ (And.intro rfl (And.intro (by unfold I64; omega) ?_)))))
    exact fin (z := undef) rfl rfl
  | fly a h =>
    obtain ⟨rfl, rfl⟩ := hof
    (repeat (first | refine And.intro (fun _ => ?_) (fun h => absurd h (by decide)) | refine And.intro (fun h => absurd h (by decide)) (fun _ => ?_) | refine Exists.intro _ (And.intro rfl ?_) | refine And.intro (by decide) ?_ | refine And.intro (by omega) ?_ | refine Or.inl (Exists.intro _ (And.intro rfl (And.intro (by unfold I64; omega) ?_)))))
    (first | refine c58 hok ⟨rfl, rfl⟩ rfl (Nat.le_refl _) ?_ | refine (c58 hok ⟨rfl, rfl⟩ rfl (Nat.le_refl _) ?_).call)
    (repeat (first | refine And.intro (fun _ => ?_) (fun h => absurd h (by decide)) | refine And.intro (fun h => absurd h (by decide)) (fun _ => ?_) | refine Exists.intro _ (And.intro rfl ?_) | refine And.intro (by decide) ?_ | refine And.intro (by omega) ?_ | refine Or.inl (Exists.intro _ (And.intro rfl (And.intro (by unfold I64; omega) ?_)))))
    exact fin (z := undef) rfl rfl
theorem c59 {H : List Blk} {R : Value → List Blk → Prop} {b c : Nat} {wr : Bool} {kind hosts : Int} {sides : List Int} {s : Sh} (hok : s.ok) (hof : s.of kind sides) (hb : bget H b = some (.cells wr 1 (ints sides))) (hl : sides.length ≤ c) (h : R (.int .i64 s.hm) H) :
    ACallX Try.prog 59 [spV kind (.slice (some ⟨b, 0, none⟩) sides.length c) hosts] H R := acallx_sp rfl (l59 kind hosts sides s hok hof) hb hl rfl h
end Go.Af.Try
