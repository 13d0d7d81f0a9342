import Derived.Test.YtkmhpolbhjgpoaaS8
namespace Go.Af.Try
open Go Go.Proofs
attribute [local irreducible] awp ACall ACallX AYield AInvoke

theorem c25 {H : List Blk} {R : Value → List Blk → Prop} {b c : Nat} {wr : Bool} {kind hosts : Int} {sides : List Int} (hb : bget H b = some (.cells wr 1 (ints sides))) (hl : sides.length ≤ c) (h : R (.int .i64 (eF (shapeF kind sides hosts))) H) :
    ACallX Try.prog 25 [spV kind (.slice (some ⟨b, 0, none⟩) sides.length c) hosts] H R := acallx_sp rfl (l25 kind hosts sides) hb hl rfl h

/-- A switch's number: an error, or none. -/
def isF (s : Option Sh) (x : Int) : Int :=
  match s with
  | none => 2
  | some s => if 0 ≤ x ∧ x < s.sw then 0 else 3

theorem l63 (kind hosts : Int) (sides : List Int) (x : Int) : ACall Try.prog 63 [spV kind (sv 0 sides.length) hosts, .int .i64 x] [ro sides] (fun v H => v = .int .i64 (isF (shapeF kind sides hosts) x) ∧ H = [ro sides]) := by
  refine acall_drop (acall_vcg tok Try.call63 Try.func63 rfl Try.ntmps63 rfl (by simp) ?_)
  (repeat (first | refine And.intro (fun _ => ?_) (fun h => absurd h (by decide)) | refine And.intro (fun h => absurd h (by decide)) (fun _ => ?_) | refine Exists.intro _ (And.intro rfl ?_) | refine And.intro (by decide) ?_ | refine And.intro (by omega) ?_ | refine Or.inl (Exists.intro _ (And.intro rfl (And.intro (by unfold I64; omega) ?_)))))
  (first | refine c25 rfl (Nat.le_refl _) ?_ | refine (c25 rfl (Nat.le_refl _) ?_).call)
  cases hs : shapeF kind sides hosts with
  | none =>
    (repeat (first | refine And.intro (fun _ => ?_) (fun h => absurd h (by decide)) | refine And.intro (fun h => absurd h (by decide)) (fun _ => ?_) | refine Exists.intro _ (And.intro rfl ?_) | refine And.intro (by decide) ?_ | refine And.intro (by omega) ?_ | refine Or.inl (Exists.intro _ (And.intro rfl (And.intro (by unfold I64; omega) ?_)))))
    refine ⟨[(0, 0)], _, [ro (sides)], by simp, anch_of rfl, ⟨⟨_, rfl, BRen.ints _ _ _⟩, trivial⟩, rfl, VRen.plain rfl, rfl, rfl⟩
  | some s =>
    have hok := shapeF_ok hs
    have hof := shapeF_of hs
    simp only [eF]
    (repeat (first | refine And.intro (fun _ => ?_) (fun h => absurd h (by decide)) | refine And.intro (fun h => absurd h (by decide)) (fun _ => ?_) | refine Exists.intro _ (And.intro rfl ?_) | refine And.intro (by decide) ?_ | refine And.intro (by omega) ?_ | refine Or.inl (Exists.intro _ (And.intro rfl (And.intro (by unfold I64; omega) ?_)))))
    refine And.intro (fun hn => ?_) (fun hn => ?_)
    · have hn : ¬ x < 0 := by simpa using hn
      (repeat (first | refine And.intro (fun _ => ?_) (fun h => absurd h (by decide)) | refine And.intro (fun h => absurd h (by decide)) (fun _ => ?_) | refine Exists.intro _ (And.intro rfl ?_) | refine And.intro (by decide) ?_ | refine And.intro (by omega) ?_ | refine Or.inl (Exists.intro _ (And.intro rfl (And.intro (by unfold I64; omega) ?_)))))
      (first | refine c58 hok hof rfl (Nat.le_refl _) ?_ | refine (c58 hok hof rfl (Nat.le_refl _) ?_).call)
      (repeat (first | refine And.intro (fun _ => ?_) (fun h => absurd h (by decide)) | refine And.intro (fun h => absurd h (by decide)) (fun _ => ?_) | refine Exists.intro _ (And.intro rfl ?_) | refine And.intro (by decide) ?_ | refine And.intro (by omega) ?_ | refine Or.inl (Exists.intro _ (And.intro rfl (And.intro (by unfold I64; omega) ?_)))))
      refine And.intro (fun hg => ?_) (fun hg => ?_)
      · have hg : s.sw ≤ x := by simpa using hg
        (repeat (first | refine And.intro (fun _ => ?_) (fun h => absurd h (by decide)) | refine And.intro (fun h => absurd h (by decide)) (fun _ => ?_) | refine Exists.intro _ (And.intro rfl ?_) | refine And.intro (by decide) ?_ | refine And.intro (by omega) ?_ | refine Or.inl (Exists.intro _ (And.intro rfl (And.intro (by unfold I64; omega) ?_)))))
        refine ⟨[(0, 0)], _, [ro (sides)], by simp, anch_of rfl, ⟨⟨_, rfl, BRen.ints _ _ _⟩, trivial⟩, rfl, VRen.plain rfl, (by simp only [isF]; rw [if_neg (by omega)]; rfl), rfl⟩
      · have hg : ¬ s.sw ≤ x := by simpa using hg
        (repeat (first | refine And.intro (fun _ => ?_) (fun h => absurd h (by decide)) | refine And.intro (fun h => absurd h (by decide)) (fun _ => ?_) | refine Exists.intro _ (And.intro rfl ?_) | refine And.intro (by decide) ?_ | refine And.intro (by omega) ?_ | refine Or.inl (Exists.intro _ (And.intro rfl (And.intro (by unfold I64; omega) ?_)))))
        refine ⟨[(0, 0)], _, [ro (sides)], by simp, anch_of rfl, ⟨⟨_, rfl, BRen.ints _ _ _⟩, trivial⟩, rfl, VRen.plain rfl, (by simp only [isF]; rw [if_pos (by omega)]; rfl), rfl⟩
    · have hn : x < 0 := by simpa using hn
      (repeat (first | refine And.intro (fun _ => ?_) (fun h => absurd h (by decide)) | refine And.intro (fun h => absurd h (by decide)) (fun _ => ?_) | refine Exists.intro _ (And.intro rfl ?_) | refine And.intro (by decide) ?_ | refine And.intro (by omega) ?_ | refine Or.inl (Exists.intro _ (And.intro rfl (And.intro (by unfold I64; omega) ?_)))))
      refine ⟨[(0, 0)], _, [ro (sides)], by simp, anch_of rfl, ⟨⟨_, rfl, BRen.ints _ _ _⟩, trivial⟩, rfl, VRen.plain rfl, (by simp only [isF]; rw [if_neg (by omega)]; rfl), rfl⟩
theorem c63 {H : List Blk} {R : Value → List Blk → Prop} {b c : Nat} {wr : Bool} {kind hosts : Int} {sides : List Int} {x : Int} (hb : bget H b = some (.cells wr 1 (ints sides))) (hl : sides.length ≤ c) (h : R (.int .i64 (isF (shapeF kind sides hosts) x)) H) :
    ACallX Try.prog 63 [spV kind (.slice (some ⟨b, 0, none⟩) sides.length c) hosts, .int .i64 x] H R := acallx_sp rfl (l63 kind hosts sides x) hb hl rfl h

theorem l64 (kind hosts : Int) (g : List Int) (hg : ∀ m ∈ g, 2 ≤ m) (hl : g.length ≤ 1000) (x : Int) (hx : I64 x) :
    ACall Try.prog 64 [spV kind (sv 0 g.length) hosts, .int .i64 x] [ro g] (fun v H => v = sv 1 g.length ∧ H = [ro g, rw' (coords g x)]) := by
  refine acall_drop (acall_vcg tok Try.call64 Try.func64 rfl Try.ntmps64 rfl (by simp) ?_)
  refine And.intro (by decide) ?_
  refine ⟨_, rfl, ?_⟩
  refine And.intro ⟨by decide, rfl⟩ ?_
  refine ⟨g.length, g.length, ⟨rfl, rfl⟩, ⟨Nat.le_refl _, ?_⟩, _, rfl, ?_⟩
  · show g.length * 9 ≤ _
    omega
  refine And.intro (by decide) ?_
  refine ⟨_, rfl, ?_⟩
  refine Or.inl ⟨(g.length : Int) - 1, rfl, by unfold I64; omega, ?_⟩
  refine vcg_loopR tok (fun j : Nat => j ≤ g.length) (fun j => [(2, .pointer (some ⟨1, 0, none⟩)), (1, .int .i64 (quoF (g.drop j) x)), (5, sv 2 g.length), (6, .int .i64 ((j : Int) - 1))])
    (fun j => [ro g, .cells true 1 [.int .i64 kind, sv 0 g.length, .int .i64 hosts], .cells true 1 (ints (List.replicate j 0 ++ coords (g.drop j) x))]) (fun j => j) g.length (Nat.le_refl _) ?_ ?_
  · refine Or.inl ⟨⟨rfl, by rw [List.drop_length]; rfl, rfl, rfl, trivial⟩, ?_⟩
    simp [zeroRep, ints, coords, cellsL]
  intro j hj
  refine And.intro (fun hc => ?_) (fun hc => ?_)
  · have hc' : 0 < j := by simp at hc; omega
    obtain ⟨i, rfl⟩ : ∃ i, j = i + 1 := ⟨j - 1, by omega⟩
    have hi : i < g.length := by omega
    have hm : 2 ≤ g[i]! := by rw [getElem!_pos g i hi]; exact hg _ (List.getElem_mem hi)
    have hq := quo_i64 (g.drop (i + 1)) (fun m h => hg m (List.mem_of_mem_drop h)) hx
    have hd : g.drop i = g[i]! :: g.drop (i + 1) := by rw [getElem!_pos g i hi]; exact List.drop_eq_getElem_cons hi
    refine And.intro (by decide) ?_
    refine ⟨_, rfl, ?_⟩
    refine ⟨i, by omega, by omega, ?_⟩
    refine Ld_ints i g[i]! (by simp) (by simp [hi]) ?_
    refine ⟨by omega, _, rfl, ?_⟩
    refine ⟨i, by omega, by omega, ?_⟩
    refine ⟨⟨rfl, rfl, ?_⟩, _, rfl, ?_⟩
    · simp [coords_len]
    refine And.intro (by decide) ?_
    refine ⟨_, rfl, ?_⟩
    refine ⟨i, by omega, by omega, ?_⟩
    refine Ld_ints i g[i]! (by simp) (by simp [hi]) ?_
    refine ⟨by omega, Or.inl ⟨_, rfl, tdiv_i64 hq hm, ?_⟩⟩
    refine Or.inl ⟨(i : Int) - 1, by omega, by unfold I64; omega, ?_⟩
    refine ⟨i, by omega, by omega, Or.inl ⟨⟨rfl, ?_, rfl, rfl, trivial⟩, ?_⟩⟩
    · have e1 : quoF (g.drop i) x = (quoF (g.drop (i + 1)) x).tdiv g[i]! := by rw [hd]; rfl
      rw [e1]; rfl
    have e2 : (List.replicate (i + 1) 0 ++ coords (g.drop (i + 1)) x).set i ((quoF (g.drop (i + 1)) x).tmod g[i]!) = List.replicate i 0 ++ coords (g.drop i) x := by
      rw [hd, List.replicate_succ', List.append_assoc, List.set_append_right _ _ (by simp)]; simp [coords]
    rw [← e2, ← ints_set]
    simp [setSeg_one, cellsL, coords_len]
  · have : j = 0 := by simp at hc; omega
    subst this
    exact ⟨[(0, 0), (2, 0)], sv 1 g.length, [ro g, rw' (coords g x)], by simp, anch_of rfl, ⟨⟨_, rfl, BRen.ints _ _ _⟩, ⟨_, rfl, BRen.ints _ _ _⟩, trivial⟩, rfl, VRen.slice rfl rfl (Nat.le_refl _), rfl, rfl⟩
theorem c64 {H : List Blk} {R : Value → List Blk → Prop} {b c : Nat} {wr : Bool} {kind hosts : Int} {g : List Int} {x : Int} (hg : ∀ m ∈ g, 2 ≤ m) (hl : g.length ≤ 1000) (hx : I64 x) (hb : bget H b = some (.cells wr 1 (ints g))) (hc : g.length ≤ c)
    (h : bsnocK H 0 (rw' (coords g x)) (fun i H' => R (.slice (some ⟨i, 0, none⟩) g.length g.length) H')) :
    ACallX Try.prog 64 [spV kind (.slice (some ⟨b, 0, none⟩) g.length c) hosts, .int .i64 x] H R := acallx_spr rfl (l64 kind hosts g hg hl x hx) hb hc h

/-! Places. -/
theorem div_i64 {x w : Int} (hx : I64 x) (hw : 1 ≤ w) : I64 (x.tdiv w) := by
  by_cases h : w = 1
  · subst h; rw [Int.tdiv_one]; exact hx
  · exact tdiv_i64 hx (by omega)
theorem powpos {k : Int} (hk : 1 ≤ k) (i : Nat) : 1 ≤ k ^ i := by have := Int.pow_pos (n := k) (m := i) (by omega); omega

theorem l142 (k n x : Int) (hk : 2 ≤ k ∧ k ≤ 8) (hn : 1 ≤ n ∧ n ≤ 4) (hx : I64 x) : ACall Try.prog 142 [twoV k n, .int .i64 x] [] (fun v H => v = sv 0 2 ∧ H = [rw' [x.tdiv (k ^ (n - 1).toNat), x.tmod (k ^ (n - 1).toNat)]]) := by
  refine acall_drop (acall_vcg tok Try.call142 Try.func142 rfl Try.ntmps142 rfl (by simp) ?_)
  have hp := powpos (k := k) (by omega) (n - 1).toNat
  refine vcg_draw tok mx [0, 0, 2, 7, 0, 0, 38, 118, 255, 511] [false, false, true, true, true, true, false, false, false, false] [0, 1, 4, 5, 2, 3, 6, 7, 8, 9] (by kernel_rfl) ?_
  (repeat (first | refine And.intro (fun _ => ?_) (fun h => absurd h (by decide)) | refine And.intro (fun h => absurd h (by decide)) (fun _ => ?_) | refine Exists.intro _ (And.intro rfl ?_) | refine And.intro (by decide) ?_ | refine And.intro (by omega) ?_ | refine Or.inl (Exists.intro _ (And.intro rfl (And.intro (by unfold I64; omega) ?_)))))
  (first | refine c146 k n hk hn ?_ | refine (c146 k n hk hn ?_).call)
  refine ⟨by omega, Or.inl ⟨_, rfl, div_i64 hx hp, ?_⟩⟩
  (repeat (first | refine And.intro (fun _ => ?_) (fun h => absurd h (by decide)) | refine And.intro (fun h => absurd h (by decide)) (fun _ => ?_) | refine Exists.intro _ (And.intro rfl ?_) | refine And.intro (by decide) ?_ | refine And.intro (by omega) ?_ | refine Or.inl (Exists.intro _ (And.intro rfl (And.intro (by unfold I64; omega) ?_)))))
  (first | refine c146 k n hk hn ?_ | refine (c146 k n hk hn ?_).call)
  (repeat (first | refine And.intro (fun _ => ?_) (fun h => absurd h (by decide)) | refine And.intro (fun h => absurd h (by decide)) (fun _ => ?_) | refine Exists.intro _ (And.intro rfl ?_) | refine And.intro (by decide) ?_ | refine And.intro (by omega) ?_ | refine Or.inl (Exists.intro _ (And.intro rfl (And.intro (by unfold I64; omega) ?_)))))
  exact ⟨[(1, 0)], sv 0 2, [rw' [_, _]], by simp, anch_of rfl, ⟨⟨_, rfl, BRen.ints _ _ [_, _]⟩, trivial⟩, rfl, VRen.slice rfl rfl (Nat.le_refl _), rfl, rfl⟩
theorem l154 (a b x : Int) (ha : 1 ≤ a ∧ a ≤ 16) (hx : I64 x) : ACall Try.prog 154 [twoV a b, .int .i64 x] [] (fun v H => v = sv 0 2 ∧ H = [rw' [x.tdiv a, x.tmod a]]) := by
  refine acall_drop (acall_vcg tok Try.call154 Try.func154 rfl Try.ntmps154 rfl (by simp) ?_)
  refine vcg_draw tok mx [0, 0, 2, 7, 0, 0, 32, 112, 255, 511] [false, false, false, false, true, true, true, true, false, false] [0, 1, 2, 3, 4, 5, 6, 7, 8, 9] (by kernel_rfl) ?_
  (repeat (first | refine And.intro (fun _ => ?_) (fun h => absurd h (by decide)) | refine And.intro (fun h => absurd h (by decide)) (fun _ => ?_) | refine Exists.intro _ (And.intro rfl ?_) | refine And.intro (by decide) ?_ | refine And.intro (by omega) ?_ | refine Or.inl (Exists.intro _ (And.intro rfl (And.intro (by unfold I64; omega) ?_)))))
  refine Or.inl ⟨_, rfl, div_i64 hx ha.1, ?_⟩
  (repeat (first | refine And.intro (fun _ => ?_) (fun h => absurd h (by decide)) | refine And.intro (fun h => absurd h (by decide)) (fun _ => ?_) | refine Exists.intro _ (And.intro rfl ?_) | refine And.intro (by decide) ?_ | refine And.intro (by omega) ?_ | refine Or.inl (Exists.intro _ (And.intro rfl (And.intro (by unfold I64; omega) ?_)))))
  exact ⟨[(1, 0)], sv 0 2, [rw' [_, _]], by simp, anch_of rfl, ⟨⟨_, rfl, BRen.ints _ _ [_, _]⟩, trivial⟩, rfl, VRen.slice rfl rfl (Nat.le_refl _), rfl, rfl⟩

def Sh.pl (x : Int) : Sh → List Int
  | .grid g => coords g x
  | .fat k n => [x.tdiv (k ^ (n - 1).toNat), x.tmod (k ^ (n - 1).toNat)]
  | .fly a _ => [x.tdiv a, x.tmod a]
theorem me_pl_grid (v : Value) (w : World) : (method (Try.prog.types.size + Made.depth) 106 v "armada/net.place").run Try.prog w = .ok (66, v) w := by kernel_rfl
theorem me_pl_fat (v : Value) (w : World) : (method (Try.prog.types.size + Made.depth) 120 v "armada/net.place").run Try.prog w = .ok (142, v) w := by kernel_rfl
theorem me_pl_fly (v : Value) (w : World) : (method (Try.prog.types.size + Made.depth) 122 v "armada/net.place").run Try.prog w = .ok (154, v) w := by kernel_rfl

theorem x_pl {H : List Blk} {R : Value → List Blk → Prop} {s : Sh} {b n : Nat} {x : Int} (hs : s.ok) (ha : s.at H b n) (hx : I64 x) (h : bsnocK H 0 (rw' (s.pl x)) (fun i H' => R (.slice (some ⟨i, 0, none⟩) (s.pl x).length (s.pl x).length) H')) :
    AInvokeX Try.prog (shT s) (shU (sv b n) s) "armada/net.place" [.int .i64 x] H R := by
  cases s with
  | grid g =>
    obtain ⟨h1, h2, h3, h4⟩ := hs
    obtain ⟨e, wr, hb⟩ := ha
    subst e
    refine ⟨66, me_pl_grid, acallx_r (H2 := [ro g]) (l66 g (fun m hm => (h3 m hm).1) (by omega) x hx) [(b, 0)] rfl (.cons (VRen.slice rfl rfl (Nat.le_refl _)) (.cons (.int _ _) .nil))
      ⟨⟨_, hb, BRen.seg fun i x hx => by rw [Nat.zero_add, ints_get, hx]; rfl⟩, trivial⟩ ?_⟩
    simpa only [Sh.pl, coords_len] using h
  | fat k n' => exact ⟨142, me_pl_fat, acallx_r (H2 := []) (l142 k n' x hs.1 hs.2.1 hx) [] rfl (.cons lren_two (.cons (.int _ _) .nil)) trivial h⟩
  | fly k n' => exact ⟨154, me_pl_fly, acallx_r (H2 := []) (l154 k n' x hs.1 hx) [] rfl (.cons lren_two (.cons (.int _ _) .nil)) trivial h⟩
theorem x_ho {H : List Blk} {R : Value → List Blk → Prop} {s : Sh} {b n : Nat} (hs : s.ok) (ha : s.at H b n) (h : R (.int .i64 s.hm) H) : AInvokeX Try.prog (shT s) (shU (sv b n) s) "armada/net.homes" [] H R := by
  cases s with
  | grid g =>
    obtain ⟨e, wr, hb⟩ := ha
    subst e
    refine ⟨131, me_ho_grid, acallx_s (V := .int .i64 (prodF g)) (H2 := [ro g]) (args2 := [sv 0 g.length]) ?_ [(b, 0)] rfl (.cons (VRen.slice rfl rfl (Nat.le_refl _)) .nil)
      ⟨⟨_, hb, BRen.seg fun i x hx => by rw [Nat.zero_add, ints_get, hx]; rfl⟩, trivial⟩ rfl h⟩
    obtain ⟨_, h2, _, h4⟩ := hs
    refine acall_vcg tok Try.call131 Try.func131 rfl Try.ntmps131 rfl (by simp) ?_
    (repeat (first | refine And.intro (fun _ => ?_) (fun h => absurd h (by decide)) | refine And.intro (fun h => absurd h (by decide)) (fun _ => ?_) | refine Exists.intro _ (And.intro rfl ?_) | refine And.intro (by decide) ?_ | refine And.intro (by omega) ?_ | refine Or.inl (Exists.intro _ (And.intro rfl (And.intro (by unfold I64; omega) ?_)))))
    refine (l135 g (by omega) (fun i _ => i64_of (by have := h4 i; omega))).mono ?_
    rintro v H ⟨rfl, rfl⟩
    exact ⟨rfl, rfl⟩
  | fat k n' => exact ⟨140, me_ho_fat, acallx_s (l140 k n' hs.1 hs.2.1) [] rfl (.cons lren_two .nil) trivial rfl h⟩
  | fly k n' => exact ⟨152, me_ho_fly, acallx_s (l152 k n' hs.1 hs.2.1) [] rfl (.cons lren_two .nil) trivial rfl h⟩
end Go.Af.Try
