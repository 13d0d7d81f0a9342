import Derived.Test.YtkmhpolbhjgpoaaS4
namespace Go.Af.Try
open Go Go.Proofs
attribute [local irreducible] awp ACall ACallX AYield

theorem me_sw_grid (v : Value) (w : World) : (method (Try.prog.types.size + Made.depth) 106 v "armada/net.switches").run Try.prog w = .ok (135, v) w := by kernel_rfl
theorem me_sw_fat (v : Value) (w : World) : (method (Try.prog.types.size + Made.depth) 120 v "armada/net.switches").run Try.prog w = .ok (145, v) w := by kernel_rfl
theorem me_sw_fly (v : Value) (w : World) : (method (Try.prog.types.size + Made.depth) 122 v "armada/net.switches").run Try.prog w = .ok (157, v) w := by kernel_rfl
theorem me_ho_grid (v : Value) (w : World) : (method (Try.prog.types.size + Made.depth) 106 v "armada/net.homes").run Try.prog w = .ok (131, v) w := by kernel_rfl
theorem me_ho_fat (v : Value) (w : World) : (method (Try.prog.types.size + Made.depth) 120 v "armada/net.homes").run Try.prog w = .ok (140, v) w := by kernel_rfl
theorem me_ho_fly (v : Value) (w : World) : (method (Try.prog.types.size + Made.depth) 122 v "armada/net.homes").run Try.prog w = .ok (152, v) w := by kernel_rfl

abbrev twoV (k n : Int) : Value := .agg ⟨[.int .i64 k, .int .i64 n]⟩
theorem lren_two {ι : List (Nat × Nat)} {k n : Int} : VRen ι (twoV k n) (twoV k n) := VRen.plain rfl

theorem l146 (k n : Int) (hk : 2 ≤ k ∧ k ≤ 8) (hn : 1 ≤ n ∧ n ≤ 4) : ACall Try.prog 146 [twoV k n] [] (fun v H => v = .int .i64 (k ^ (n - 1).toNat) ∧ H = []) := by
  refine acall_drop (acall_vcg tok Try.call146 Try.func146 rfl Try.ntmps146 rfl (by simp) ?_)
  (repeat (first | refine And.intro (fun _ => ?_) (fun h => absurd h (by decide)) | refine And.intro (fun h => absurd h (by decide)) (fun _ => ?_) | refine Exists.intro _ (And.intro rfl ?_) | refine And.intro (by decide) ?_ | refine And.intro (by omega) ?_ | refine Or.inl (Exists.intro _ (And.intro rfl (And.intro (by unfold I64; omega) ?_)))))
  (first | refine c82 k (n - 1) (powb (by omega) (by omega) (by omega)) (by omega) ?_ | refine (c82 k (n - 1) (powb (by omega) (by omega) (by omega)) (by omega) ?_).call)
  exact ⟨[], _, [], by simp, anch_of rfl, trivial, rfl, VRen.plain rfl, rfl, rfl⟩
theorem c146 {H : List Blk} {R : Value → List Blk → Prop} (k n : Int) (hk : 2 ≤ k ∧ k ≤ 8) (hn : 1 ≤ n ∧ n ≤ 4) (h : R (.int .i64 (k ^ (n - 1).toNat)) H) : ACallX Try.prog 146 [twoV k n] H R :=
  acallx_s (l146 k n hk hn) [] rfl (.cons lren_two .nil) trivial rfl h

theorem powle {k : Int} (h0 : 0 ≤ k) (h1 : k ≤ 16) (i : Nat) (hi : i ≤ 4) : 0 ≤ k ^ i ∧ k ^ i ≤ 65536 := by
  obtain ⟨q, rfl⟩ : ∃ q : Nat, k = q := ⟨k.toNat, by omega⟩
  have e1 : q ^ i ≤ 16 ^ i := Nat.pow_le_pow_left (by omega) i
  have e2 : 16 ^ i ≤ 16 ^ 4 := Nat.pow_le_pow_right (by decide) hi
  have e3 : ((q : Int) ^ i) = ((q ^ i : Nat) : Int) := by simp
  rw [e3]; omega

theorem l145 (k n : Int) (hk : 2 ≤ k ∧ k ≤ 8) (hn : 1 ≤ n ∧ n ≤ 4) : ACall Try.prog 145 [twoV k n] [] (fun v H => v = .int .i64 (n * k ^ (n - 1).toNat) ∧ H = []) := by
  refine acall_drop (acall_vcg tok Try.call145 Try.func145 rfl Try.ntmps145 rfl (by simp) ?_)
  refine vcg_draw tok mx [0, 1, 0, 4, 15, 31] [false, false, true, true, false, false] [0, 1, 2, 3, 4, 5] (by kernel_rfl) ?_
  (repeat (first | refine And.intro (fun _ => ?_) (fun h => absurd h (by decide)) | refine And.intro (fun h => absurd h (by decide)) (fun _ => ?_) | refine Exists.intro _ (And.intro rfl ?_) | refine And.intro (by decide) ?_ | refine And.intro (by omega) ?_ | refine Or.inl (Exists.intro _ (And.intro rfl (And.intro (by unfold I64; omega) ?_)))))
  (first | refine c146 k n hk hn ?_ | refine (c146 k n hk hn ?_).call)
  have hp := powle (k := k) (by omega) (by omega) (n - 1).toNat (by omega)
  have hm := mulb (a := n) (A := 4) (by omega) (by omega) hp.1 hp.2
  (repeat (first | refine And.intro (fun _ => ?_) (fun h => absurd h (by decide)) | refine And.intro (fun h => absurd h (by decide)) (fun _ => ?_) | refine Exists.intro _ (And.intro rfl ?_) | refine And.intro (by decide) ?_ | refine And.intro (by omega) ?_ | refine Or.inl (Exists.intro _ (And.intro rfl (And.intro (by unfold I64; omega) ?_)))))
  exact ⟨[], _, [], by simp, anch_of rfl, trivial, rfl, VRen.plain rfl, rfl, rfl⟩
theorem l140 (k n : Int) (hk : 2 ≤ k ∧ k ≤ 8) (hn : 1 ≤ n ∧ n ≤ 4) : ACall Try.prog 140 [twoV k n] [] (fun v H => v = .int .i64 (k ^ (n - 1).toNat) ∧ H = []) := by
  refine acall_drop (acall_vcg tok Try.call140 Try.func140 rfl Try.ntmps140 rfl (by simp) ?_)
  (repeat (first | refine And.intro (fun _ => ?_) (fun h => absurd h (by decide)) | refine And.intro (fun h => absurd h (by decide)) (fun _ => ?_) | refine Exists.intro _ (And.intro rfl ?_) | refine And.intro (by decide) ?_ | refine And.intro (by omega) ?_ | refine Or.inl (Exists.intro _ (And.intro rfl (And.intro (by unfold I64; omega) ?_)))))
  (first | refine c146 k n hk hn ?_ | refine (c146 k n hk hn ?_).call)
  exact ⟨[], _, [], by simp, anch_of rfl, trivial, rfl, VRen.plain rfl, rfl, rfl⟩

theorem l151 (a b : Int) (ha : 1 ≤ a ∧ a ≤ 16) (hb : 1 ≤ b ∧ b ≤ 4) : ACall Try.prog 151 [twoV a b] [] (fun v H => v = .int .i64 (a * b + 1) ∧ H = []) := by
  refine acall_drop (acall_vcg tok Try.call151 Try.func151 rfl Try.ntmps151 rfl (by simp) ?_)
  have hm := mulb (a := a) (b := b) (A := 16) (B := 4) (by omega) (by omega) (by omega) (by omega)
  (repeat (first | refine And.intro (fun _ => ?_) (fun h => absurd h (by decide)) | refine And.intro (fun h => absurd h (by decide)) (fun _ => ?_) | refine Exists.intro _ (And.intro rfl ?_) | refine And.intro (by decide) ?_ | refine And.intro (by omega) ?_ | refine Or.inl (Exists.intro _ (And.intro rfl (And.intro (by unfold I64; omega) ?_)))))
  exact ⟨[], _, [], by simp, anch_of rfl, trivial, rfl, VRen.plain rfl, rfl, rfl⟩
theorem c151 {H : List Blk} {R : Value → List Blk → Prop} (a b : Int) (ha : 1 ≤ a ∧ a ≤ 16) (hb : 1 ≤ b ∧ b ≤ 4) (h : R (.int .i64 (a * b + 1)) H) : ACallX Try.prog 151 [twoV a b] H R :=
  acallx_s (l151 a b ha hb) [] rfl (.cons lren_two .nil) trivial rfl h
theorem l157 (a b : Int) (ha : 1 ≤ a ∧ a ≤ 16) (hb : 1 ≤ b ∧ b ≤ 4) : ACall Try.prog 157 [twoV a b] [] (fun v H => v = .int .i64 (a * (a * b + 1)) ∧ H = []) := by
  refine acall_drop (acall_vcg tok Try.call157 Try.func157 rfl Try.ntmps157 rfl (by simp) ?_)
  have hm := mulb (a := a) (b := b) (A := 16) (B := 4) (by omega) (by omega) (by omega) (by omega)
  have hm2 := mulb (a := a) (b := a * b + 1) (A := 16) (B := 65) (by omega) (by omega) (by omega) (by omega)
  refine vcg_draw tok mx [0, 1, 0, 4, 15, 31] [false, false, true, true, false, false] [0, 1, 2, 3, 4, 5] (by kernel_rfl) ?_
  (repeat (first | refine And.intro (fun _ => ?_) (fun h => absurd h (by decide)) | refine And.intro (fun h => absurd h (by decide)) (fun _ => ?_) | refine Exists.intro _ (And.intro rfl ?_) | refine And.intro (by decide) ?_ | refine And.intro (by omega) ?_ | refine Or.inl (Exists.intro _ (And.intro rfl (And.intro (by unfold I64; omega) ?_)))))
  (first | refine c151 a b ha hb ?_ | refine (c151 a b ha hb ?_).call)
  (repeat (first | refine And.intro (fun _ => ?_) (fun h => absurd h (by decide)) | refine And.intro (fun h => absurd h (by decide)) (fun _ => ?_) | refine Exists.intro _ (And.intro rfl ?_) | refine And.intro (by decide) ?_ | refine And.intro (by omega) ?_ | refine Or.inl (Exists.intro _ (And.intro rfl (And.intro (by unfold I64; omega) ?_)))))
  exact ⟨[], _, [], by simp, anch_of rfl, trivial, rfl, VRen.plain rfl, rfl, rfl⟩
theorem c157 {H : List Blk} {R : Value → List Blk → Prop} (a b : Int) (ha : 1 ≤ a ∧ a ≤ 16) (hb : 1 ≤ b ∧ b ≤ 4) (h : R (.int .i64 (a * (a * b + 1))) H) : ACallX Try.prog 157 [twoV a b] H R :=
  acallx_s (l157 a b ha hb) [] rfl (.cons lren_two .nil) trivial rfl h
theorem l152 (a b : Int) (ha : 1 ≤ a ∧ a ≤ 16) (hb : 1 ≤ b ∧ b ≤ 4) : ACall Try.prog 152 [twoV a b] [] (fun v H => v = .int .i64 (a * (a * b + 1)) ∧ H = []) := by
  refine acall_drop (acall_vcg tok Try.call152 Try.func152 rfl Try.ntmps152 rfl (by simp) ?_)
  (repeat (first | refine And.intro (fun _ => ?_) (fun h => absurd h (by decide)) | refine And.intro (fun h => absurd h (by decide)) (fun _ => ?_) | refine Exists.intro _ (And.intro rfl ?_) | refine And.intro (by decide) ?_ | refine And.intro (by omega) ?_ | refine Or.inl (Exists.intro _ (And.intro rfl (And.intro (by unfold I64; omega) ?_)))))
  (first | refine c157 a b ha hb ?_ | refine (c157 a b ha hb ?_).call)
  (repeat (first | refine And.intro (fun _ => ?_) (fun h => absurd h (by decide)) | refine And.intro (fun h => absurd h (by decide)) (fun _ => ?_) | refine Exists.intro _ (And.intro rfl ?_) | refine And.intro (by decide) ?_ | refine And.intro (by omega) ?_ | refine Or.inl (Exists.intro _ (And.intro rfl (And.intro (by unfold I64; omega) ?_)))))
  exact ⟨[], _, [], by simp, anch_of rfl, trivial, rfl, VRen.plain rfl, rfl, rfl⟩

def prodF (g : List Int) : Int := g.foldl (fun n m => n * m) 1
theorem prodF_snoc (g : List Int) (i : Nat) (hi : i < g.length) : prodF (g.take (i + 1)) = prodF (g.take i) * g[i]! := by
  unfold prodF
  rw [List.take_succ_eq_append_getElem hi, List.foldl_append, getElem!_pos g i hi]; rfl
theorem l135 (g : List Int) (hl : g.length ≤ 1000) (hg : ∀ i, i ≤ g.length → I64 (prodF (g.take i))) : ACall Try.prog 135 [sv 0 g.length] [ro g] (fun v H => v = .int .i64 (prodF g) ∧ H = [ro g]) := by
  refine acall_vcg tok Try.call135 Try.func135 rfl Try.ntmps135 rfl (by simp) ?_
  refine vcg_loopR tok (fun i : Nat => i ≤ g.length) (fun i => [(6, sv 0 g.length), (3, .int .i64 (prodF (g.take i))), (7, .int .i64 g.length), (8, .int .i64 i)]) (fun _ => [ro g]) (fun i => g.length - i) 0 (Nat.zero_le _) ?_ ?_
  · exact Or.inl ⟨⟨rfl, rfl, rfl, rfl, trivial⟩, rfl⟩
  intro i hi
  refine And.intro (fun hc => ?_) (fun hc => ?_)
  · have hlt : i < g.length := by simpa using hc
    refine ⟨i, rfl, hlt, ?_⟩
    refine Ld_ints i g[i]! (by simp) (by simp [hlt]) ?_
    refine Or.inl ⟨_, (prodF_snoc g i hlt).symm, hg (i + 1) hlt, ?_⟩
    refine Or.inl ⟨((i + 1 : Nat) : Int), by simp, by unfold I64; omega, ?_⟩
    exact ⟨i + 1, hlt, by omega, .inl ⟨⟨rfl, rfl, rfl, rfl, trivial⟩, rfl⟩⟩
  · have : i = g.length := by simp at hc; omega
    subst this
    exact ⟨by rw [List.take_of_length_le (Nat.le_refl _)]; rfl, rfl⟩

def Sh.sw : Sh → Int
  | .grid g => prodF g
  | .fat k n => n * k ^ (n - 1).toNat
  | .fly a b => a * (a * b + 1)
def Sh.hm : Sh → Int
  | .grid g => prodF g
  | .fat k n => k ^ (n - 1).toNat
  | .fly a b => a * (a * b + 1)
def Sh.ok : Sh → Prop
  | .grid g => 1 ≤ g.length ∧ g.length ≤ 4 ∧ (∀ m ∈ g, 2 ≤ m ∧ m ≤ 16) ∧ (∀ i, 1 ≤ prodF (g.take i) ∧ prodF (g.take i) ≤ 256)
  | .fat k n => (2 ≤ k ∧ k ≤ 8) ∧ (1 ≤ n ∧ n ≤ 4) ∧ k ^ n.toNat ≤ 256
  | .fly a b => (1 ≤ a ∧ a ≤ 16) ∧ (1 ≤ b ∧ b ≤ 4) ∧ a * (a * b + 1) ≤ 256
/-- The shape's own row, if it is a grid, lies at b. -/
def Sh.at (H : List Blk) (b : Nat) (n : Nat) : Sh → Prop
  | .grid g => n = g.length ∧ ∃ wr, bget H b = some (.cells wr 1 (ints g))
  | _ => True
theorem i64_of {x : Int} (h : 0 ≤ x ∧ x ≤ 65536) : I64 x := by unfold I64; omega

theorem x_sw {H : List Blk} {R : Value → List Blk → Prop} {s : Sh} {b n : Nat} (hs : s.ok) (ha : s.at H b n) (h : R (.int .i64 s.sw) H) : AInvokeX Try.prog (shT s) (shU (sv b n) s) "armada/net.switches" [] H R := by
  cases s with
  | grid g =>
    obtain ⟨_, h2, _, h4⟩ := hs
    obtain ⟨e, wr, hb⟩ := ha
    subst e
    exact ⟨135, me_sw_grid, acallx_s (l135 g (by omega) (fun i _ => i64_of (by have := h4 i; omega))) [(b, 0)] rfl (.cons (VRen.slice rfl rfl (Nat.le_refl _)) .nil)
      ⟨⟨_, hb, BRen.seg fun i x hx => by rw [Nat.zero_add, ints_get, hx]; rfl⟩, trivial⟩ rfl h⟩
  | fat k n' => exact ⟨145, me_sw_fat, acallx_s (l145 k n' hs.1 hs.2.1) [] rfl (.cons lren_two .nil) trivial rfl h⟩
  | fly k n' => exact ⟨157, me_sw_fly, c157 k n' hs.1 hs.2.1 h⟩
end Go.Af.Try
