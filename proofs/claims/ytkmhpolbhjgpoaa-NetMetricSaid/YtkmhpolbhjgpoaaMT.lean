/-

-/
import Derived.Test.YtkmhpolbhjgpoaaMS
import Derived.Test.YtkmhpolbhjgpoaaMW
set_option linter.all false
namespace Go.Af.Try
open Go Go.Proofs
attribute [local irreducible] awp ACall ACallX AYield AInvoke AInvokeX

end Go.Af.Try
namespace Go.Af.Try
open Go Go.Proofs
attribute [local irreducible] awp ACall ACallX AYield AInvoke

/-- A switch's number: an error, or none. -/
def isF (s : Option Sh) (x : Int) : Int :=
  match s with
  | none => 2
  | some s => if 0 ≤ x ∧ x < s.sw then 0 else 3

/-! Places. -/
theorem div_i64 {x w : Int} (hx : I64 x) (hw : 1 ≤ w) : I64 (x.tdiv w) := by
  by_cases h : w = 1
  · subst h; rw [Int.tdiv_one]; exact hx
  · exact tdiv_i64 hx (by omega)
theorem powpos {k : Int} (hk : 1 ≤ k) (i : Nat) : 1 ≤ k ^ i := by have := Int.pow_pos (n := k) (m := i) (by omega); omega

theorem l142 (k n x : Int) (hk : 2 ≤ k ∧ k ≤ 8) (hn : 1 ≤ n ∧ n ≤ 4) (hx : I64 x) : ACall Try.prog 142 [twoV k n, .int .i64 x] [] (fun v H => v = sv 0 2 ∧ H = [rw' [x.tdiv (k ^ (n - 1).toNat), x.tmod (k ^ (n - 1).toNat)]]) := by
  refine acall_drop (acall_vcg tok Try.call142 Try.func142 rfl Try.ntmps142 rfl (by simp) ?_)
  have hp := powpos (k := k) (by omega) (n - 1).toNat
  refine vcg_draw tok mx [0, 0, 2, 7, 0, 0, 38, 118, 255, 511] [false, false, true, true, true, true, false, false, false, false] [0, 1, 4, 5, 2, 3, 6, 7, 8, 9] (by kernel_rfl) ?_
  (repeat (first | refine And.intro (fun _ => ?_) (fun h => absurd h (by decide)) | refine And.intro (fun h => absurd h (by decide)) (fun _ => ?_) | refine Exists.intro _ (And.intro rfl ?_) | refine And.intro (by decide) ?_ | refine And.intro (by omega) ?_ | refine Or.inl (Exists.intro _ (And.intro rfl (And.intro (by unfold I64; omega) ?_)))))
  (first | refine c146 k n hk hn ?_ | refine (c146 k n hk hn ?_).call)
  refine ⟨by omega, Or.inl ⟨_, rfl, div_i64 hx hp, ?_⟩⟩
  (repeat (first | refine And.intro (fun _ => ?_) (fun h => absurd h (by decide)) | refine And.intro (fun h => absurd h (by decide)) (fun _ => ?_) | refine Exists.intro _ (And.intro rfl ?_) | refine And.intro (by decide) ?_ | refine And.intro (by omega) ?_ | refine Or.inl (Exists.intro _ (And.intro rfl (And.intro (by unfold I64; omega) ?_)))))
  (first | refine c146 k n hk hn ?_ | refine (c146 k n hk hn ?_).call)
  (repeat (first | refine And.intro (fun _ => ?_) (fun h => absurd h (by decide)) | refine And.intro (fun h => absurd h (by decide)) (fun _ => ?_) | refine Exists.intro _ (And.intro rfl ?_) | refine And.intro (by decide) ?_ | refine And.intro (by omega) ?_ | refine Or.inl (Exists.intro _ (And.intro rfl (And.intro (by unfold I64; omega) ?_)))))
  exact ⟨[(1, 0)], sv 0 2, [rw' [_, _]], by simp, anch_of rfl, ⟨⟨_, rfl, BRen.ints _ _ [_, _]⟩, trivial⟩, rfl, VRen.slice rfl rfl (Nat.le_refl _), rfl, rfl⟩
theorem l154 (a b x : Int) (ha : 1 ≤ a ∧ a ≤ 16) (hx : I64 x) : ACall Try.prog 154 [twoV a b, .int .i64 x] [] (fun v H => v = sv 0 2 ∧ H = [rw' [x.tdiv a, x.tmod a]]) := by
  refine acall_drop (acall_vcg tok Try.call154 Try.func154 rfl Try.ntmps154 rfl (by simp) ?_)
  refine vcg_draw tok mx [0, 0, 2, 7, 0, 0, 32, 112, 255, 511] [false, false, false, false, true, true, true, true, false, false] [0, 1, 2, 3, 4, 5, 6, 7, 8, 9] (by kernel_rfl) ?_
  (repeat (first | refine And.intro (fun _ => ?_) (fun h => absurd h (by decide)) | refine And.intro (fun h => absurd h (by decide)) (fun _ => ?_) | refine Exists.intro _ (And.intro rfl ?_) | refine And.intro (by decide) ?_ | refine And.intro (by omega) ?_ | refine Or.inl (Exists.intro _ (And.intro rfl (And.intro (by unfold I64; omega) ?_)))))
  refine Or.inl ⟨_, rfl, div_i64 hx ha.1, ?_⟩
  (repeat (first | refine And.intro (fun _ => ?_) (fun h => absurd h (by decide)) | refine And.intro (fun h => absurd h (by decide)) (fun _ => ?_) | refine Exists.intro _ (And.intro rfl ?_) | refine And.intro (by decide) ?_ | refine And.intro (by omega) ?_ | refine Or.inl (Exists.intro _ (And.intro rfl (And.intro (by unfold I64; omega) ?_)))))
  exact ⟨[(1, 0)], sv 0 2, [rw' [_, _]], by simp, anch_of rfl, ⟨⟨_, rfl, BRen.ints _ _ [_, _]⟩, trivial⟩, rfl, VRen.slice rfl rfl (Nat.le_refl _), rfl, rfl⟩

def Sh.pl (x : Int) : Sh → List Int
  | .grid g => coords g x
  | .fat k n => [x.tdiv (k ^ (n - 1).toNat), x.tmod (k ^ (n - 1).toNat)]
  | .fly a _ => [x.tdiv a, x.tmod a]
theorem me_pl_grid (v : Value) (w : World) : (method (Try.prog.types.size + Made.depth) 106 v "armada/net.place").run Try.prog w = .ok (66, v) w := by kernel_rfl
theorem me_pl_fat (v : Value) (w : World) : (method (Try.prog.types.size + Made.depth) 120 v "armada/net.place").run Try.prog w = .ok (142, v) w := by kernel_rfl
theorem me_pl_fly (v : Value) (w : World) : (method (Try.prog.types.size + Made.depth) 122 v "armada/net.place").run Try.prog w = .ok (154, v) w := by kernel_rfl

theorem x_pl {H : List Blk} {R : Value → List Blk → Prop} {s : Sh} {b n : Nat} {x : Int} (hs : s.ok) (ha : s.at H b n) (hx : I64 x) (h : bsnocK H 0 (rw' (s.pl x)) (fun i H' => R (.slice (some ⟨i, 0, none⟩) (s.pl x).length (s.pl x).length) H')) :
    AInvokeX Try.prog (shT s) (shU (sv b n) s) "armada/net.place" [.int .i64 x] H R := by
  cases s with
  | grid g =>
    obtain ⟨h1, h2, h3, h4⟩ := hs
    obtain ⟨e, wr, hb⟩ := ha
    subst e
    refine ⟨66, me_pl_grid, acallx_r (H2 := [ro g]) (l66 g (fun m hm => (h3 m hm).1) (by omega) x hx) [(b, 0)] rfl (.cons (VRen.slice rfl rfl (Nat.le_refl _)) (.cons (.int _ _) .nil))
      ⟨⟨_, hb, BRen.seg fun i x hx => by rw [Nat.zero_add, ints_get, hx]; rfl⟩, trivial⟩ ?_⟩
    simpa only [Sh.pl, coords_len] using h
  | fat k n' => exact ⟨142, me_pl_fat, acallx_r (H2 := []) (l142 k n' x hs.1 hs.2.1 hx) [] rfl (.cons lren_two (.cons (.int _ _) .nil)) trivial h⟩
  | fly k n' => exact ⟨154, me_pl_fly, acallx_r (H2 := []) (l154 k n' x hs.1 hx) [] rfl (.cons lren_two (.cons (.int _ _) .nil)) trivial h⟩
theorem x_ho {H : List Blk} {R : Value → List Blk → Prop} {s : Sh} {b n : Nat} (hs : s.ok) (ha : s.at H b n) (h : R (.int .i64 s.hm) H) : AInvokeX Try.prog (shT s) (shU (sv b n) s) "armada/net.homes" [] H R := by
  cases s with
  | grid g =>
    obtain ⟨e, wr, hb⟩ := ha
    subst e
    refine ⟨131, me_ho_grid, acallx_s (V := .int .i64 (prodF g)) (H2 := [ro g]) (args2 := [sv 0 g.length]) ?_ [(b, 0)] rfl (.cons (VRen.slice rfl rfl (Nat.le_refl _)) .nil)
      ⟨⟨_, hb, BRen.seg fun i x hx => by rw [Nat.zero_add, ints_get, hx]; rfl⟩, trivial⟩ rfl h⟩
    obtain ⟨_, h2, _, h4⟩ := hs
    refine acall_vcg tok Try.call131 Try.func131 rfl Try.ntmps131 rfl (by simp) ?_
    (repeat (first | refine And.intro (fun _ => ?_) (fun h => absurd h (by decide)) | refine And.intro (fun h => absurd h (by decide)) (fun _ => ?_) | refine Exists.intro _ (And.intro rfl ?_) | refine And.intro (by decide) ?_ | refine And.intro (by omega) ?_ | refine Or.inl (Exists.intro _ (And.intro rfl (And.intro (by unfold I64; omega) ?_)))))
    refine (l135 g (by omega) (fun i _ => i64_of (by have := h4 i; omega))).mono ?_
    rintro v H ⟨rfl, rfl⟩
    exact ⟨rfl, rfl⟩
  | fat k n' => exact ⟨140, me_ho_fat, acallx_s (l140 k n' hs.1 hs.2.1) [] rfl (.cons lren_two .nil) trivial rfl h⟩
  | fly k n' => exact ⟨152, me_ho_fly, acallx_s (l152 k n' hs.1 hs.2.1) [] rfl (.cons lren_two .nil) trivial rfl h⟩
end Go.Af.Try
namespace Go.Af
open Go
/-- A row or an error, as Go returns them. -/
def orV (b : Nat) : Int ⊕ List Int → Value
  | .inl e => .tuple ⟨[.slice none 0 0, .int .i64 e]⟩
  | .inr out => .tuple ⟨[.slice (some ⟨b, 0, none⟩) out.length out.length, .int .i64 0]⟩
def orH (H : List Blk) : Int ⊕ List Int → List Blk
  | .inl _ => H
  | .inr out => H ++ [rw' out]
theorem acallx_or {P : Program} {f : FuncId} {args2 args : List Value} {H2 H : List Blk} {R : Value → List Blk → Prop} {q : Int ⊕ List Int} (hc : ACall P f args2 H2 (fun v H' => v = orV H2.length q ∧ H' = orH H2 q)) (ι : List (Nat × Nat)) (hro : allRo H2 = true) (ha : LRen ι args2 args) (hb : BlksRen ι H ι H2)
    (h : R (orV H.length q) (orH H q)) : ACallX P f args H R :=
  acallx_ro hc ι hro ha hb (by
    rintro v2 H2' ⟨rfl, rfl⟩
    cases q with
    | inl e => exact ⟨_, [], [], by simp [orH], rfl, fun k b2 hk => by simp at hk, VBack.plain rfl, by rw [List.append_nil]; exact h⟩
    | inr out =>
      have hl := hb.len
      refine ⟨_, [rw' out], [rw' out], rfl, rfl, fun k b2 hk => ?_, ?_, h⟩
      · cases k with
        | zero => simp at hk; subst hk; exact ⟨.inl rfl, _, rfl, BBack.cells (LBack.plain (ints_plain out)) rfl⟩
        | succ k => simp at hk
      · have := VBack.slice (ι := ι ++ (List.range 1).map (fun k => (H.length + k, 0))) (j := H2.length) (o := 0) (i := H.length) (s := 0) (l := out.length) (c := out.length) (by rw [← hl]; simp)
        exact VBack.tuple (.cons (by simpa using this) (.cons (VBack.int _ _) .nil)))
end Go.Af
namespace Go.Af.Try
open Go Go.Proofs
attribute [local irreducible] awp ACall ACallX AYield AInvoke

theorem sw_bd {s : Sh} (h : s.ok) : (1 ≤ s.sw ∧ s.sw ≤ 1024) ∧ (1 ≤ s.hm ∧ s.hm ≤ 65536) := by
  cases s with
  | grid g =>
    have := h.2.2.2 g.length
    rw [List.take_of_length_le (Nat.le_refl _)] at this
    simp only [Sh.sw, Sh.hm]; omega
  | fat k n =>
    obtain ⟨hk, hn, hp⟩ := h
    have h1 := powpos (k := k) (by omega) (n - 1).toNat
    have h2 := powle (k := k) (by omega) (by omega) (n - 1).toNat (by omega)
    have e : k ^ n.toNat = k ^ (n - 1).toNat * k := by rw [← Int.pow_succ]; congr 1; omega
    have h3 := Int.mul_le_mul_of_nonneg_left (show (1 : Int) ≤ k by omega) (show 0 ≤ k ^ (n - 1).toNat by omega)
    have h4 := mulb (a := n) (b := k ^ (n - 1).toNat) (A := 4) (B := 256) (by omega) (by omega) (by omega) (by omega)
    have h5 := Int.mul_le_mul_of_nonneg_right (show (1 : Int) ≤ n by omega) (show 0 ≤ k ^ (n - 1).toNat by omega)
    simp only [Sh.sw, Sh.hm]; omega
  | fly a b =>
    obtain ⟨ha, hb, hp⟩ := h
    have h3 := mulb (a := a) (b := b) (A := 16) (B := 4) (by omega) (by omega) (by omega) (by omega)
    have h5 := Int.mul_le_mul ha.1 (show (1 : Int) ≤ a * b + 1 by omega) (by decide) (by omega)
    simp only [Sh.sw, Sh.hm]; omega
theorem shapeF_hosts {kind hosts : Int} {sides : List Int} {s : Sh} (h : shapeF kind sides hosts = some s) : 1 ≤ hosts ∧ hosts ≤ 8 := by
  unfold shapeF at h
  split at h
  · split at h
    · split at h
      · rename_i hc; simp only [betw, Bool.and_eq_true, decide_eq_true_eq] at hc; omega
      · cases h
    · cases h
  · split at h
    · split at h
      · split at h
        · rename_i hc; simp only [betw, Bool.and_eq_true, decide_eq_true_eq] at hc; omega
        · cases h
      · cases h
    · split at h
      · split at h
        · split at h
          · rename_i hc; simp only [betw, Bool.and_eq_true, decide_eq_true_eq] at hc; omega
          · cases h
        · cases h
      · cases h
theorem at_of {kind : Int} {sides : List Int} {s : Sh} {H : List Blk} {b : Nat} {wr : Bool} (h : s.of kind sides) (hb : bget H b = some (.cells wr 1 (ints sides))) : s.at H b sides.length := by
  cases s with
  | grid g => obtain ⟨_, rfl⟩ := h; exact ⟨rfl, wr, hb⟩
  | fat k n => trivial
  | fly k n => trivial

def sizeV (hosts : Int) : Option Sh → Value
  | none => .tuple ⟨[.int .i64 0, .int .i64 0, .int .i64 2]⟩
  | some s => .tuple ⟨[.int .i64 s.sw, .int .i64 (s.hm * hosts), .int .i64 0]⟩

theorem l22 (kind hosts : Int) (sides : List Int) : ACall Try.prog 22 [spV kind (sv 0 sides.length) hosts] [ro sides] (fun v H => v = sizeV hosts (shapeF kind sides hosts) ∧ H = [ro sides]) := by
  refine acall_drop (acall_vcg tok Try.call22 Try.func22 rfl Try.ntmps22 rfl (by simp) ?_)
  (repeat (first | refine And.intro (fun _ => ?_) (fun h => absurd h (by decide)) | refine And.intro (fun h => absurd h (by decide)) (fun _ => ?_) | refine Exists.intro _ (And.intro rfl ?_) | refine And.intro (by decide) ?_ | refine And.intro (by omega) ?_ | refine Or.inl (Exists.intro _ (And.intro rfl (And.intro (by unfold I64; omega) ?_)))))
  (first | refine c57 kind hosts rfl (Nat.le_refl _) ?_ | refine (c57 kind hosts rfl (Nat.le_refl _) ?_).call)
  cases hs : shapeF kind sides hosts with
  | none =>
    (repeat (first | refine And.intro (fun _ => ?_) (fun h => absurd h (by decide)) | refine And.intro (fun h => absurd h (by decide)) (fun _ => ?_) | refine Exists.intro _ (And.intro rfl ?_) | refine And.intro (by decide) ?_ | refine And.intro (by omega) ?_ | refine Or.inl (Exists.intro _ (And.intro rfl (And.intro (by unfold I64; omega) ?_)))))
    refine ⟨[(0, 0)], _, [ro (sides)], by simp, anch_of rfl, ⟨⟨_, rfl, BRen.ints _ _ _⟩, trivial⟩, rfl, VRen.plain rfl, rfl, rfl⟩
  | some s =>
    have hok := shapeF_ok hs
    have hof := shapeF_of hs
    have hh := shapeF_hosts hs
    have hbd := sw_bd hok
    have hm := mulb (a := s.hm) (b := hosts) (A := 65536) (B := 8) (by omega) (by omega) (by omega) (by omega)
    (repeat (first | refine And.intro (fun _ => ?_) (fun h => absurd h (by decide)) | refine And.intro (fun h => absurd h (by decide)) (fun _ => ?_) | refine Exists.intro _ (And.intro rfl ?_) | refine And.intro (by decide) ?_ | refine And.intro (by omega) ?_ | refine Or.inl (Exists.intro _ (And.intro rfl (And.intro (by unfold I64; omega) ?_)))))
    refine vcg_draw tok mx [0, 1, 0, 7, 0, 16, 63, 15, 255, 511] [false, true, false, true, false, false, false, true, false, false] [0, 2, 4, 5, 1, 3, 6, 7, 8, 9] (by kernel_rfl) ?_
    (repeat (first | refine And.intro (fun _ => ?_) (fun h => absurd h (by decide)) | refine And.intro (fun h => absurd h (by decide)) (fun _ => ?_) | refine Exists.intro _ (And.intro rfl ?_) | refine And.intro (by decide) ?_ | refine And.intro (by omega) ?_ | refine Or.inl (Exists.intro _ (And.intro rfl (And.intro (by unfold I64; omega) ?_)))))
    (first | refine x_sw hok (at_of hof rfl) ?_ | refine (x_sw hok (at_of hof rfl) ?_).call)
    (repeat (first | refine And.intro (fun _ => ?_) (fun h => absurd h (by decide)) | refine And.intro (fun h => absurd h (by decide)) (fun _ => ?_) | refine Exists.intro _ (And.intro rfl ?_) | refine And.intro (by decide) ?_ | refine And.intro (by omega) ?_ | refine Or.inl (Exists.intro _ (And.intro rfl (And.intro (by unfold I64; omega) ?_)))))
    (first | refine x_ho hok (at_of hof rfl) ?_ | refine (x_ho hok (at_of hof rfl) ?_).call)
    (repeat (first | refine And.intro (fun _ => ?_) (fun h => absurd h (by decide)) | refine And.intro (fun h => absurd h (by decide)) (fun _ => ?_) | refine Exists.intro _ (And.intro rfl ?_) | refine And.intro (by decide) ?_ | refine And.intro (by omega) ?_ | refine Or.inl (Exists.intro _ (And.intro rfl (And.intro (by unfold I64; omega) ?_)))))
    refine ⟨[(0, 0)], _, [ro (sides)], by simp, anch_of rfl, ⟨⟨_, rfl, BRen.ints _ _ _⟩, trivial⟩, rfl, VRen.plain rfl, rfl, rfl⟩
theorem c22 {H : List Blk} {R : Value → List Blk → Prop} {b c : Nat} {wr : Bool} {kind hosts : Int} {sides : List Int} (hb : bget H b = some (.cells wr 1 (ints sides))) (hl : sides.length ≤ c) (h : R (sizeV hosts (shapeF kind sides hosts)) H) :
    ACallX Try.prog 22 [spV kind (.slice (some ⟨b, 0, none⟩) sides.length c) hosts] H R := acallx_sp rfl (l22 kind hosts sides) hb hl (by cases shapeF kind sides hosts <;> rfl) h

theorem vback_with {ι : List (Nat × Nat)} {j i n : Nat} (h : ι[j]? = some (i, 0)) (s : Option Sh) (l : List Int) : VBack ι (withR (sv j n) s l) (withR (sv i n) s l) := by
  match s with
  | none => exact VBack.plain rfl
  | some s =>
    simp only [withR]
    split
    · cases s with
      | grid g => exact VBack.tuple (.cons (.iface _ (vback_sv h)) (.cons (.int _ _) .nil))
      | fat k n => exact VBack.plain rfl
      | fly k n => exact VBack.plain rfl
    · exact VBack.plain rfl
theorem c62 {H : List Blk} {R : Value → List Blk → Prop} {b c j d : Nat} {wr wr2 : Bool} {sides l : List Int} (kind hosts : Int) (hb : bget H b = some (.cells wr 1 (ints sides))) (hc : sides.length ≤ c) (hj : bget H j = some (.cells wr2 1 (ints l))) (hd : l.length ≤ d) (hl : l.length ≤ 1000)
    (h : R (withR (sv b sides.length) (shapeF kind sides hosts) l) H) : ACallX Try.prog 62 [spV kind (.slice (some ⟨b, 0, none⟩) sides.length c) hosts, .slice (some ⟨j, 0, none⟩) l.length d] H R :=
  acallx_ro (l62 kind hosts sides l hl) [(b, 0), (j, 0)] rfl (.cons (.agg (.cons (.int _ _) (.cons (VRen.slice rfl rfl hc) (.cons (.int _ _) .nil)))) (.cons (VRen.slice rfl rfl hd) .nil))
    ⟨⟨_, hb, BRen.seg fun i x hx => by rw [Nat.zero_add, ints_get, hx]; rfl⟩, ⟨_, hj, BRen.seg fun i x hx => by rw [Nat.zero_add, ints_get, hx]; rfl⟩, trivial⟩ (by
      rintro v2 H2' ⟨rfl, rfl⟩
      exact ⟨_, [], [], by simp, rfl, fun k b2 hk => by simp at hk, vback_with rfl _ _, by simpa using h⟩)

def placeF (x : Int) : Option Sh → Int ⊕ List Int
  | none => .inl 2
  | some s => if 0 ≤ x ∧ x < s.sw then .inr (s.pl x) else .inl 3

theorem l28 (kind hosts : Int) (sides : List Int) (x : Int) (hx : I64 x) : ACall Try.prog 28 [spV kind (sv 0 sides.length) hosts, .int .i64 x] [ro sides] (fun v H => v = orV 1 (placeF x (shapeF kind sides hosts)) ∧ H = orH [ro sides] (placeF x (shapeF kind sides hosts))) := by
  refine acall_drop (acall_vcg tok Try.call28 Try.func28 rfl Try.ntmps28 rfl (by simp) ?_)
  (repeat (first | refine And.intro (fun _ => ?_) (fun h => absurd h (by decide)) | refine And.intro (fun h => absurd h (by decide)) (fun _ => ?_) | refine Exists.intro _ (And.intro rfl ?_) | refine And.intro (by decide) ?_ | refine And.intro (by omega) ?_ | refine Or.inl (Exists.intro _ (And.intro rfl (And.intro (by unfold I64; omega) ?_)))))
  (first | refine c62 (l := [x]) kind hosts rfl (Nat.le_refl _) rfl (Nat.le_refl _) (by simp) ?_ | refine (c62 (l := [x]) kind hosts rfl (Nat.le_refl _) rfl (Nat.le_refl _) (by simp) ?_).call)
  cases hs : shapeF kind sides hosts with
  | none =>
    (repeat (first | refine And.intro (fun _ => ?_) (fun h => absurd h (by decide)) | refine And.intro (fun h => absurd h (by decide)) (fun _ => ?_) | refine Exists.intro _ (And.intro rfl ?_) | refine And.intro (by decide) ?_ | refine And.intro (by omega) ?_ | refine Or.inl (Exists.intro _ (And.intro rfl (And.intro (by unfold I64; omega) ?_)))))
    refine ⟨[(0, 0)], _, [ro (sides)], by simp, anch_of rfl, ⟨⟨_, rfl, BRen.ints _ _ _⟩, trivial⟩, rfl, VRen.plain rfl, rfl, rfl⟩
  | some s =>
    have hok := shapeF_ok hs
    have hof := shapeF_of hs
    by_cases hin : 0 ≤ x ∧ x < s.sw
    · have e1 : withR (sv 0 sides.length) (some s) [x] = .tuple ⟨[shV (sv 0 sides.length) s, .int .i64 0]⟩ := by simp [withR, inAll, hin]
      have e2 : placeF x (some s) = .inr (s.pl x) := by simp [placeF, hin]
      rw [e1, e2]
      (repeat (first | refine And.intro (fun _ => ?_) (fun h => absurd h (by decide)) | refine And.intro (fun h => absurd h (by decide)) (fun _ => ?_) | refine Exists.intro _ (And.intro rfl ?_) | refine And.intro (by decide) ?_ | refine And.intro (by omega) ?_ | refine Or.inl (Exists.intro _ (And.intro rfl (And.intro (by unfold I64; omega) ?_)))))
      (first | refine x_pl hok (at_of hof rfl) hx ?_ | refine (x_pl hok (at_of hof rfl) hx ?_).call)
      (repeat (first | refine And.intro (fun _ => ?_) (fun h => absurd h (by decide)) | refine And.intro (fun h => absurd h (by decide)) (fun _ => ?_) | refine Exists.intro _ (And.intro rfl ?_) | refine And.intro (by decide) ?_ | refine And.intro (by omega) ?_ | refine Or.inl (Exists.intro _ (And.intro rfl (And.intro (by unfold I64; omega) ?_)))))
      exact ⟨[(0, 0), (3, 0)], orV 1 (.inr (s.pl x)), [ro sides, rw' (s.pl x)], by simp, anch_of rfl, ⟨⟨_, rfl, BRen.ints _ _ _⟩, ⟨_, rfl, BRen.ints _ _ _⟩, trivial⟩, rfl, VRen.tuple (.cons (VRen.slice rfl rfl (Nat.le_refl _)) (.cons (.int _ _) .nil)), rfl, rfl⟩
    · have e1 : withR (sv 0 sides.length) (some s) [x] = .tuple ⟨[.nilIface, .int .i64 3]⟩ := by
        have : inAll [x] s.sw = false := by simp [inAll]; omega
        simp [withR, this]
      have e2 : placeF x (some s) = .inl 3 := by simp only [placeF]; rw [if_neg hin]
      rw [e1, e2]
      (repeat (first | refine And.intro (fun _ => ?_) (fun h => absurd h (by decide)) | refine And.intro (fun h => absurd h (by decide)) (fun _ => ?_) | refine Exists.intro _ (And.intro rfl ?_) | refine And.intro (by decide) ?_ | refine And.intro (by omega) ?_ | refine Or.inl (Exists.intro _ (And.intro rfl (And.intro (by unfold I64; omega) ?_)))))
      refine ⟨[(0, 0)], _, [ro (sides)], by simp, anch_of rfl, ⟨⟨_, rfl, BRen.ints _ _ _⟩, trivial⟩, rfl, VRen.plain rfl, rfl, rfl⟩
theorem c28 {H : List Blk} {R : Value → List Blk → Prop} {b c : Nat} {wr : Bool} {kind hosts : Int} {sides : List Int} {x : Int} (hx : I64 x) (hb : bget H b = some (.cells wr 1 (ints sides))) (hl : sides.length ≤ c)
    (h : R (orV H.length (placeF x (shapeF kind sides hosts))) (orH H (placeF x (shapeF kind sides hosts)))) :
    ACallX Try.prog 28 [spV kind (.slice (some ⟨b, 0, none⟩) sides.length c) hosts, .int .i64 x] H R :=
  acallx_or (H2 := [ro sides]) (l28 kind hosts sides x hx) [(b, 0)] rfl (.cons (.agg (.cons (.int _ _) (.cons (VRen.slice rfl rfl hl) (.cons (.int _ _) .nil)))) (.cons (.int _ _) .nil))
    ⟨⟨_, hb, BRen.seg fun i x hx => by rw [Nat.zero_add, ints_get, hx]; rfl⟩, trivial⟩ h

end Go.Af.Try
namespace Go.Af.Try
open Go Go.Proofs
attribute [local irreducible] awp ACall ACallX AYield AInvoke

theorem c12 {H : List Blk} {R : Value → List Blk → Prop} (h : R (.bool true) H) : ACallX Try.prog 12 [] H R := acallx_s W.works [] rfl .nil trivial rfl h

end Go.Af.Try
