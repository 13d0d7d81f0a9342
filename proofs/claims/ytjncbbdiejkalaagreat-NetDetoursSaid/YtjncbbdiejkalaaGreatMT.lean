/-

-/
import Derived.Test.YtjncbbdiejkalaaGreatMS
import Derived.Test.YtjncbbdiejkalaaGreatMW
set_option linter.all false
namespace Go.Af.Tryz
open Go Go.Proofs
attribute [local irreducible] awp ACall ACallX AYield AInvoke AInvokeX

end Go.Af.Tryz
namespace Go.Af.Tryz
open Go Go.Proofs
attribute [local irreducible] awp ACall ACallX AYield AInvoke

/-- A switch's number: an error, or none. -/
def isF (s : Option Sh) (x : Int) : Int :=
  match s with
  | none => 2
  | some s => if 0 ≤ x ∧ x < s.sw then 0 else 3

/-! Places. -/
theorem div_i64 {x w : Int} (hx : I64 x) (hw : 1 ≤ w) : I64 (x.tdiv w) := by
  by_cases h : w = 1
  · subst h; rw [Int.tdiv_one]; exact hx
  · exact tdiv_i64 hx (by omega)
theorem powpos {k : Int} (hk : 1 ≤ k) (i : Nat) : 1 ≤ k ^ i := by have := Int.pow_pos (n := k) (m := i) (by omega); omega

theorem l142 (k n x : Int) (hk : 2 ≤ k ∧ k ≤ 8) (hn : 1 ≤ n ∧ n ≤ 4) (hx : I64 x) : ACall Tryz.prog 158 [twoV k n, .int .i64 x] [] (fun v H => v = sv 0 2 ∧ H = [rw' [x.tdiv (k ^ (n - 1).toNat), x.tmod (k ^ (n - 1).toNat)]]) := by
  refine acall_drop (acall_vcg tok Tryz.call158 Tryz.func158 rfl Tryz.ntmps158 rfl (by simp) ?_)
  have hp := powpos (k := k) (by omega) (n - 1).toNat
  refine vcg_draw tok mx [0, 0, 2, 7, 0, 0, 38, 118, 255, 511] [false, false, true, true, true, true, false, false, false, false] [0, 1, 4, 5, 2, 3, 6, 7, 8, 9] (by kernel_rfl) ?_
  (repeat (first | refine And.intro (fun _ => ?_) (fun h => absurd h (by decide)) | refine And.intro (fun h => absurd h (by decide)) (fun _ => ?_) | refine Exists.intro _ (And.intro rfl ?_) | refine And.intro (by decide) ?_ | refine And.intro (by omega) ?_ | refine Or.inl (Exists.intro _ (And.intro rfl (And.intro (by unfold I64; omega) ?_)))))
  (first | refine c146 k n hk hn ?_ | refine (c146 k n hk hn ?_).call)
  refine ⟨by omega, Or.inl ⟨_, rfl, div_i64 hx hp, ?_⟩⟩
  (repeat (first | refine And.intro (fun _ => ?_) (fun h => absurd h (by decide)) | refine And.intro (fun h => absurd h (by decide)) (fun _ => ?_) | refine Exists.intro _ (And.intro rfl ?_) | refine And.intro (by decide) ?_ | refine And.intro (by omega) ?_ | refine Or.inl (Exists.intro _ (And.intro rfl (And.intro (by unfold I64; omega) ?_)))))
  (first | refine c146 k n hk hn ?_ | refine (c146 k n hk hn ?_).call)
  (repeat (first | refine And.intro (fun _ => ?_) (fun h => absurd h (by decide)) | refine And.intro (fun h => absurd h (by decide)) (fun _ => ?_) | refine Exists.intro _ (And.intro rfl ?_) | refine And.intro (by decide) ?_ | refine And.intro (by omega) ?_ | refine Or.inl (Exists.intro _ (And.intro rfl (And.intro (by unfold I64; omega) ?_)))))
  exact ⟨[(1, 0)], sv 0 2, [rw' [_, _]], by simp, anch_of rfl, ⟨⟨_, rfl, BRen.ints _ _ [_, _]⟩, trivial⟩, rfl, VRen.slice rfl rfl (Nat.le_refl _), rfl, rfl⟩
theorem l154 (a b x : Int) (ha : 1 ≤ a ∧ a ≤ 16) (hx : I64 x) : ACall Tryz.prog 168 [twoV a b, .int .i64 x] [] (fun v H => v = sv 0 2 ∧ H = [rw' [x.tdiv a, x.tmod a]]) := by
  refine acall_drop (acall_vcg tok Tryz.call168 Tryz.func168 rfl Tryz.ntmps168 rfl (by simp) ?_)
  refine vcg_draw tok mx [0, 0, 2, 7, 0, 0, 32, 112, 255, 511] [false, false, false, false, true, true, true, true, false, false] [0, 1, 2, 3, 4, 5, 6, 7, 8, 9] (by kernel_rfl) ?_
  (repeat (first | refine And.intro (fun _ => ?_) (fun h => absurd h (by decide)) | refine And.intro (fun h => absurd h (by decide)) (fun _ => ?_) | refine Exists.intro _ (And.intro rfl ?_) | refine And.intro (by decide) ?_ | refine And.intro (by omega) ?_ | refine Or.inl (Exists.intro _ (And.intro rfl (And.intro (by unfold I64; omega) ?_)))))
  refine Or.inl ⟨_, rfl, div_i64 hx ha.1, ?_⟩
  (repeat (first | refine And.intro (fun _ => ?_) (fun h => absurd h (by decide)) | refine And.intro (fun h => absurd h (by decide)) (fun _ => ?_) | refine Exists.intro _ (And.intro rfl ?_) | refine And.intro (by decide) ?_ | refine And.intro (by omega) ?_ | refine Or.inl (Exists.intro _ (And.intro rfl (And.intro (by unfold I64; omega) ?_)))))
  exact ⟨[(1, 0)], sv 0 2, [rw' [_, _]], by simp, anch_of rfl, ⟨⟨_, rfl, BRen.ints _ _ [_, _]⟩, trivial⟩, rfl, VRen.slice rfl rfl (Nat.le_refl _), rfl, rfl⟩

def Sh.pl (x : Int) : Sh → List Int
  | .grid g => coords g x
  | .fat k n => [x.tdiv (k ^ (n - 1).toNat), x.tmod (k ^ (n - 1).toNat)]
  | .fly a _ => [x.tdiv a, x.tmod a]
theorem me_pl_grid (v : Value) (w : World) : (method (Tryz.prog.types.size + Made.depth) 118 v "armada/net.place").run Tryz.prog w = .ok (76, v) w := by kernel_rfl
theorem me_pl_fat (v : Value) (w : World) : (method (Tryz.prog.types.size + Made.depth) 136 v "armada/net.place").run Tryz.prog w = .ok (158, v) w := by kernel_rfl
theorem me_pl_fly (v : Value) (w : World) : (method (Tryz.prog.types.size + Made.depth) 138 v "armada/net.place").run Tryz.prog w = .ok (168, v) w := by kernel_rfl

theorem x_pl {H : List Blk} {R : Value → List Blk → Prop} {s : Sh} {b n : Nat} {x : Int} (hs : s.ok) (ha : s.at H b n) (hx : I64 x) (h : bsnocK H 0 (rw' (s.pl x)) (fun i H' => R (.slice (some ⟨i, 0, none⟩) (s.pl x).length (s.pl x).length) H')) :
    AInvokeX Tryz.prog (shT s) (shU (sv b n) s) "armada/net.place" [.int .i64 x] H R := by
  cases s with
  | grid g =>
    obtain ⟨h1, h2, h3, h4⟩ := hs
    obtain ⟨e, wr, hb⟩ := ha
    subst e
    refine ⟨76, me_pl_grid, acallx_r (H2 := [ro g]) (l66 g (fun m hm => (h3 m hm).1) (by omega) x hx) [(b, 0)] rfl (.cons (VRen.slice rfl rfl (Nat.le_refl _)) (.cons (.int _ _) .nil))
      ⟨⟨_, hb, BRen.seg fun i x hx => by rw [Nat.zero_add, ints_get, hx]; rfl⟩, trivial⟩ ?_⟩
    simpa only [Sh.pl, coords_len] using h
  | fat k n' => exact ⟨158, me_pl_fat, acallx_r (H2 := []) (l142 k n' x hs.1 hs.2.1 hx) [] rfl (.cons lren_two (.cons (.int _ _) .nil)) trivial h⟩
  | fly k n' => exact ⟨168, me_pl_fly, acallx_r (H2 := []) (l154 k n' x hs.1 hx) [] rfl (.cons lren_two (.cons (.int _ _) .nil)) trivial h⟩
theorem x_ho {H : List Blk} {R : Value → List Blk → Prop} {s : Sh} {b n : Nat} (hs : s.ok) (ha : s.at H b n) (h : R (.int .i64 s.hm) H) : AInvokeX Tryz.prog (shT s) (shU (sv b n) s) "armada/net.homes" [] H R := by
  cases s with
  | grid g =>
    obtain ⟨e, wr, hb⟩ := ha
    subst e
    refine ⟨149, me_ho_grid, acallx_s (V := .int .i64 (prodF g)) (H2 := [ro g]) (args2 := [sv 0 g.length]) ?_ [(b, 0)] rfl (.cons (VRen.slice rfl rfl (Nat.le_refl _)) .nil)
      ⟨⟨_, hb, BRen.seg fun i x hx => by rw [Nat.zero_add, ints_get, hx]; rfl⟩, trivial⟩ rfl h⟩
    obtain ⟨_, h2, _, h4⟩ := hs
    refine acall_vcg tok Tryz.call149 Tryz.func149 rfl Tryz.ntmps149 rfl (by simp) ?_
    (repeat (first | refine And.intro (fun _ => ?_) (fun h => absurd h (by decide)) | refine And.intro (fun h => absurd h (by decide)) (fun _ => ?_) | refine Exists.intro _ (And.intro rfl ?_) | refine And.intro (by decide) ?_ | refine And.intro (by omega) ?_ | refine Or.inl (Exists.intro _ (And.intro rfl (And.intro (by unfold I64; omega) ?_)))))
    refine (l135 g (by omega) (fun i _ => i64_of (by have := h4 i; omega))).mono ?_
    rintro v H ⟨rfl, rfl⟩
    exact ⟨rfl, rfl⟩
  | fat k n' => exact ⟨156, me_ho_fat, acallx_s (l140 k n' hs.1 hs.2.1) [] rfl (.cons lren_two .nil) trivial rfl h⟩
  | fly k n' => exact ⟨166, me_ho_fly, acallx_s (l152 k n' hs.1 hs.2.1) [] rfl (.cons lren_two .nil) trivial rfl h⟩
end Go.Af.Tryz
namespace Go.Af
open Go
end Go.Af
namespace Go.Af.Tryz
open Go Go.Proofs
attribute [local irreducible] awp ACall ACallX AYield AInvoke

theorem sw_bd {s : Sh} (h : s.ok) : (1 ≤ s.sw ∧ s.sw ≤ 1024) ∧ (1 ≤ s.hm ∧ s.hm ≤ 65536) := by
  cases s with
  | grid g =>
    have := h.2.2.2 g.length
    rw [List.take_of_length_le (Nat.le_refl _)] at this
    simp only [Sh.sw, Sh.hm]; omega
  | fat k n =>
    obtain ⟨hk, hn, hp⟩ := h
    have h1 := powpos (k := k) (by omega) (n - 1).toNat
    have h2 := powle (k := k) (by omega) (by omega) (n - 1).toNat (by omega)
    have e : k ^ n.toNat = k ^ (n - 1).toNat * k := by rw [← Int.pow_succ]; congr 1; omega
    have h3 := Int.mul_le_mul_of_nonneg_left (show (1 : Int) ≤ k by omega) (show 0 ≤ k ^ (n - 1).toNat by omega)
    have h4 := mulb (a := n) (b := k ^ (n - 1).toNat) (A := 4) (B := 256) (by omega) (by omega) (by omega) (by omega)
    have h5 := Int.mul_le_mul_of_nonneg_right (show (1 : Int) ≤ n by omega) (show 0 ≤ k ^ (n - 1).toNat by omega)
    simp only [Sh.sw, Sh.hm]; omega
  | fly a b =>
    obtain ⟨ha, hb, hp⟩ := h
    have h3 := mulb (a := a) (b := b) (A := 16) (B := 4) (by omega) (by omega) (by omega) (by omega)
    have h5 := Int.mul_le_mul ha.1 (show (1 : Int) ≤ a * b + 1 by omega) (by decide) (by omega)
    simp only [Sh.sw, Sh.hm]; omega
theorem shapeF_hosts {kind hosts : Int} {sides : List Int} {s : Sh} (h : shapeF kind sides hosts = some s) : 1 ≤ hosts ∧ hosts ≤ 8 := by
  unfold shapeF at h
  split at h
  · split at h
    · split at h
      · rename_i hc; simp only [betw, Bool.and_eq_true, decide_eq_true_eq] at hc; omega
      · cases h
    · cases h
  · split at h
    · split at h
      · split at h
        · rename_i hc; simp only [betw, Bool.and_eq_true, decide_eq_true_eq] at hc; omega
        · cases h
      · cases h
    · split at h
      · split at h
        · split at h
          · rename_i hc; simp only [betw, Bool.and_eq_true, decide_eq_true_eq] at hc; omega
          · cases h
        · cases h
      · cases h
theorem at_of {kind : Int} {sides : List Int} {s : Sh} {H : List Blk} {b : Nat} {wr : Bool} (h : s.of kind sides) (hb : bget H b = some (.cells wr 1 (ints sides))) : s.at H b sides.length := by
  cases s with
  | grid g => obtain ⟨_, rfl⟩ := h; exact ⟨rfl, wr, hb⟩
  | fat k n => trivial
  | fly k n => trivial

def sizeV (hosts : Int) : Option Sh → Value
  | none => .tuple ⟨[.int .i64 0, .int .i64 0, .int .i64 2]⟩
  | some s => .tuple ⟨[.int .i64 s.sw, .int .i64 (s.hm * hosts), .int .i64 0]⟩

theorem l22 (kind hosts : Int) (sides : List Int) : ACall Tryz.prog 40 [spV kind (sv 0 sides.length) hosts] [ro sides] (fun v H => v = sizeV hosts (shapeF kind sides hosts) ∧ H = [ro sides]) := by
  refine acall_drop (acall_vcg tok Tryz.call40 Tryz.func40 rfl Tryz.ntmps40 rfl (by simp) ?_)
  (repeat (first | refine And.intro (fun _ => ?_) (fun h => absurd h (by decide)) | refine And.intro (fun h => absurd h (by decide)) (fun _ => ?_) | refine Exists.intro _ (And.intro rfl ?_) | refine And.intro (by decide) ?_ | refine And.intro (by omega) ?_ | refine Or.inl (Exists.intro _ (And.intro rfl (And.intro (by unfold I64; omega) ?_)))))
  (first | refine c57 kind hosts rfl (Nat.le_refl _) ?_ | refine (c57 kind hosts rfl (Nat.le_refl _) ?_).call)
  cases hs : shapeF kind sides hosts with
  | none =>
    (repeat (first | refine And.intro (fun _ => ?_) (fun h => absurd h (by decide)) | refine And.intro (fun h => absurd h (by decide)) (fun _ => ?_) | refine Exists.intro _ (And.intro rfl ?_) | refine And.intro (by decide) ?_ | refine And.intro (by omega) ?_ | refine Or.inl (Exists.intro _ (And.intro rfl (And.intro (by unfold I64; omega) ?_)))))
    refine ⟨[(0, 0)], _, [ro (sides)], by simp, anch_of rfl, ⟨⟨_, rfl, BRen.ints _ _ _⟩, trivial⟩, rfl, VRen.plain rfl, rfl, rfl⟩
  | some s =>
    have hok := shapeF_ok hs
    have hof := shapeF_of hs
    have hh := shapeF_hosts hs
    have hbd := sw_bd hok
    have hm := mulb (a := s.hm) (b := hosts) (A := 65536) (B := 8) (by omega) (by omega) (by omega) (by omega)
    (repeat (first | refine And.intro (fun _ => ?_) (fun h => absurd h (by decide)) | refine And.intro (fun h => absurd h (by decide)) (fun _ => ?_) | refine Exists.intro _ (And.intro rfl ?_) | refine And.intro (by decide) ?_ | refine And.intro (by omega) ?_ | refine Or.inl (Exists.intro _ (And.intro rfl (And.intro (by unfold I64; omega) ?_)))))
    refine vcg_draw tok mx [0, 1, 0, 7, 0, 16, 63, 15, 255, 511] [false, true, false, true, false, false, false, true, false, false] [0, 2, 4, 5, 1, 3, 6, 7, 8, 9] (by kernel_rfl) ?_
    (repeat (first | refine And.intro (fun _ => ?_) (fun h => absurd h (by decide)) | refine And.intro (fun h => absurd h (by decide)) (fun _ => ?_) | refine Exists.intro _ (And.intro rfl ?_) | refine And.intro (by decide) ?_ | refine And.intro (by omega) ?_ | refine Or.inl (Exists.intro _ (And.intro rfl (And.intro (by unfold I64; omega) ?_)))))
    (first | refine x_sw hok (at_of hof rfl) ?_ | refine (x_sw hok (at_of hof rfl) ?_).call)
    (repeat (first | refine And.intro (fun _ => ?_) (fun h => absurd h (by decide)) | refine And.intro (fun h => absurd h (by decide)) (fun _ => ?_) | refine Exists.intro _ (And.intro rfl ?_) | refine And.intro (by decide) ?_ | refine And.intro (by omega) ?_ | refine Or.inl (Exists.intro _ (And.intro rfl (And.intro (by unfold I64; omega) ?_)))))
    (first | refine x_ho hok (at_of hof rfl) ?_ | refine (x_ho hok (at_of hof rfl) ?_).call)
    (repeat (first | refine And.intro (fun _ => ?_) (fun h => absurd h (by decide)) | refine And.intro (fun h => absurd h (by decide)) (fun _ => ?_) | refine Exists.intro _ (And.intro rfl ?_) | refine And.intro (by decide) ?_ | refine And.intro (by omega) ?_ | refine Or.inl (Exists.intro _ (And.intro rfl (And.intro (by unfold I64; omega) ?_)))))
    refine ⟨[(0, 0)], _, [ro (sides)], by simp, anch_of rfl, ⟨⟨_, rfl, BRen.ints _ _ _⟩, trivial⟩, rfl, VRen.plain rfl, rfl, rfl⟩
theorem c22 {H : List Blk} {R : Value → List Blk → Prop} {b c : Nat} {wr : Bool} {kind hosts : Int} {sides : List Int} (hb : bget H b = some (.cells wr 1 (ints sides))) (hl : sides.length ≤ c) (h : R (sizeV hosts (shapeF kind sides hosts)) H) :
    ACallX Tryz.prog 40 [spV kind (.slice (some ⟨b, 0, none⟩) sides.length c) hosts] H R := acallx_sp rfl (l22 kind hosts sides) hb hl (by cases shapeF kind sides hosts <;> rfl) h

theorem vback_with {ι : List (Nat × Nat)} {j i n : Nat} (h : ι[j]? = some (i, 0)) (s : Option Sh) (l : List Int) : VBack ι (withR (sv j n) s l) (withR (sv i n) s l) := by
  match s with
  | none => exact VBack.plain rfl
  | some s =>
    simp only [withR]
    split
    · cases s with
      | grid g => exact VBack.tuple (.cons (.iface _ (vback_sv h)) (.cons (.int _ _) .nil))
      | fat k n => exact VBack.plain rfl
      | fly k n => exact VBack.plain rfl
    · exact VBack.plain rfl
theorem c62 {H : List Blk} {R : Value → List Blk → Prop} {b c j d : Nat} {wr wr2 : Bool} {sides l : List Int} (kind hosts : Int) (hb : bget H b = some (.cells wr 1 (ints sides))) (hc : sides.length ≤ c) (hj : bget H j = some (.cells wr2 1 (ints l))) (hd : l.length ≤ d) (hl : l.length ≤ 1000)
    (h : R (withR (sv b sides.length) (shapeF kind sides hosts) l) H) : ACallX Tryz.prog 41 [spV kind (.slice (some ⟨b, 0, none⟩) sides.length c) hosts, .slice (some ⟨j, 0, none⟩) l.length d] H R :=
  acallx_ro (l62 kind hosts sides l hl) [(b, 0), (j, 0)] rfl (.cons (.agg (.cons (.int _ _) (.cons (VRen.slice rfl rfl hc) (.cons (.int _ _) .nil)))) (.cons (VRen.slice rfl rfl hd) .nil))
    ⟨⟨_, hb, BRen.seg fun i x hx => by rw [Nat.zero_add, ints_get, hx]; rfl⟩, ⟨_, hj, BRen.seg fun i x hx => by rw [Nat.zero_add, ints_get, hx]; rfl⟩, trivial⟩ (by
      rintro v2 H2' ⟨rfl, rfl⟩
      exact ⟨_, [], [], by simp, rfl, fun k b2 hk => by simp at hk, vback_with rfl _ _, by simpa using h⟩)

end Go.Af.Tryz
namespace Go.Af.Tryz
open Go Go.Proofs
attribute [local irreducible] awp ACall ACallX AYield AInvoke

theorem c12 {H : List Blk} {R : Value → List Blk → Prop} (h : R (.bool true) H) : ACallX Tryz.prog 8 [] H R := acallx_s W.works [] rfl .nil trivial rfl h

end Go.Af.Tryz
