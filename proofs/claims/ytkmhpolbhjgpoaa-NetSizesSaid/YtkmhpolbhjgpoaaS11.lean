import Derived.Test.YtkmhpolbhjgpoaaS10
import Derived.Test.YtkmhpolbhjgpoaaW10
namespace Go.Af.Try
open Go Go.Proofs
attribute [local irreducible] awp ACall ACallX AYield AInvoke

theorem c12 {H : List Blk} {R : Value → List Blk → Prop} (h : R (.bool true) H) : ACallX Try.prog 12 [] H R := acallx_s W.works [] rfl .nil trivial rfl h

theorem l18 (xs ys : List Int) (hx : xs.length ≤ 1000000000) : ACall Try.prog 18 [sv 0 xs.length, sv 1 ys.length] [ro xs, ro ys] (fun v H => v = .bool (decide (xs = ys)) ∧ H = [ro xs, ro ys]) := by
  refine acall_vcg tok Try.call18 Try.func18 rfl Try.ntmps18 rfl (by simp) ?_
  refine And.intro (fun hn => ?_) (fun hn => ?_)
  · have hn : ¬ xs.length = ys.length := by have : ¬ (xs.length : Int) = ys.length := by simpa using hn
                                            omega
    exact ⟨by rw [decide_eq_false (fun e => hn (by rw [e]))]; rfl, rfl⟩
  · have hn : xs.length = ys.length := by have : (xs.length : Int) = ys.length := by simpa using hn
                                          omega
    refine vcg_loopR tok (fun i : Nat => i ≤ xs.length ∧ xs.take i = ys.take i) (fun i => [(0, sv 0 xs.length), (1, sv 1 ys.length), (5, .int .i64 i)]) (fun _ => [ro xs, ro ys]) (fun i => xs.length - i) 0 ⟨Nat.zero_le _, rfl⟩ ?_ ?_
    · exact Or.inl ⟨⟨rfl, rfl, rfl, trivial⟩, rfl⟩
    rintro i ⟨hi, he⟩
    refine And.intro (fun hc => ?_) (fun hc => ?_)
    · have hlt : i < xs.length := by simpa using hc
      have hlt2 : i < ys.length := by omega
      refine vcg_draw tok mx [0, 0, 3, 7, 0, 0, 48, 112, 255] [false, false, false, false, true, true, true, true, false] [0, 1, 2, 3, 4, 5, 6, 7, 8] (by kernel_rfl) ?_
      refine ⟨i, rfl, hlt, ?_⟩
      refine Ld_ints i xs[i]! (by simp) (by simp [hlt]) ?_
      refine ⟨i, rfl, hlt2, ?_⟩
      refine Ld_ints i ys[i]! (by simp) (by simp [hlt2]) ?_
      refine And.intro (fun hd => ?_) (fun hd => ?_)
      · have hd : ¬ xs[i]! = ys[i]! := by simpa using hd
        exact ⟨by rw [decide_eq_false (fun e => hd (by rw [e]))]; rfl, rfl⟩
      · have hd : xs[i]! = ys[i]! := by simpa using hd
        refine Or.inl ⟨((i + 1 : Nat) : Int), by simp, by unfold I64; omega, ?_⟩
        refine ⟨i + 1, ⟨hlt, ?_⟩, by omega, .inl ⟨⟨rfl, rfl, rfl, trivial⟩, rfl⟩⟩
        rw [List.take_succ_eq_append_getElem hlt, List.take_succ_eq_append_getElem hlt2, he]
        rw [getElem!_pos xs i hlt, getElem!_pos ys i hlt2] at hd
        rw [hd]
    · have hge : ¬ i < xs.length := by simpa using hc
      rw [List.take_of_length_le (by omega), List.take_of_length_le (by omega)] at he
      exact ⟨by rw [decide_eq_true he]; rfl, rfl⟩
theorem c18 {H : List Blk} {R : Value → List Blk → Prop} {v1 v2 : Value} {xs ys : List Int} (h1 : Rd H v1 xs) (h2 : Rd H v2 ys) (hl : xs.length ≤ 1000000000) (h : R (.bool (decide (xs = ys))) H) : ACallX Try.prog 18 [v1, v2] H R := by
  obtain ⟨j1, s1, b1, r1⟩ := h1.ren
  obtain ⟨j2, s2, b2, r2⟩ := h2.ren
  exact acallx_s (l18 xs ys hl) [(j1, s1), (j2, s2)] rfl (.cons (r1 _ 0 rfl) (.cons (r2 _ 1 rfl) .nil)) ⟨b1 _, b2 _, trivial⟩ rfl h

theorem l15 (kind hosts : Int) (sides : List Int) : ACall Try.prog 15 [spV kind (sv 0 sides.length) hosts] [ro sides] (fun v H => v = spV kind (sv 0 sides.length) hosts ∧ H = [ro sides]) := by
  refine acall_drop (acall_vcg tok Try.call15 Try.func15 rfl Try.ntmps15 rfl (by simp) ?_)
  (repeat (first | refine And.intro (fun _ => ?_) (fun h => absurd h (by decide)) | refine And.intro (fun h => absurd h (by decide)) (fun _ => ?_) | refine Exists.intro _ (And.intro rfl ?_) | refine And.intro (by decide) ?_ | refine And.intro (by omega) ?_ | refine Or.inl (Exists.intro _ (And.intro rfl (And.intro (by unfold I64; omega) ?_))) | refine And.intro (show (_ : Nat) < _ from by simp) ?_))
  refine ⟨⟨rfl, rfl, Nat.le_refl _⟩, _, rfl, ?_⟩
  refine ⟨_, rfl, _, rfl, _, rfl, ?_⟩
  exact ⟨[(0, 0)], _, [ro sides], by simp, anch_of rfl, ⟨⟨_, rfl, BRen.ints _ _ _⟩, trivial⟩, rfl, VRen.agg (.cons (.int _ _) (.cons (VRen.slice rfl rfl (Nat.le_refl _)) (.cons (.int _ _) .nil))), rfl, rfl⟩
theorem c15 {H : List Blk} {R : Value → List Blk → Prop} {b c : Nat} {wr : Bool} {kind hosts : Int} {sides : List Int} (hb : bget H b = some (.cells wr 1 (ints sides))) (hl : sides.length ≤ c) (h : R (spV kind (sv b sides.length) hosts) H) :
    ACallX Try.prog 15 [spV kind (.slice (some ⟨b, 0, none⟩) sides.length c) hosts] H R :=
  acallx_ro (l15 kind hosts sides) [(b, 0)] rfl (.cons (.agg (.cons (.int _ _) (.cons (VRen.slice rfl rfl hl) (.cons (.int _ _) .nil)))) .nil)
    ⟨⟨_, hb, BRen.seg fun i x hx => by rw [Nat.zero_add, ints_get, hx]; rfl⟩, trivial⟩ (by
      rintro v2 H2' ⟨rfl, rfl⟩
      exact ⟨_, [], [], by simp, rfl, fun k b2 hk => by simp at hk, VBack.agg (.cons (.int _ _) (.cons (vback_sv rfl) (.cons (.int _ _) .nil))), by simpa using h⟩)

theorem homeV_two (hosts x : Int) (o : Option Sh) : ∃ a e, homeV hosts x o = .tuple ⟨[.int .i64 a, .int .i64 e]⟩ := by
  cases o with
  | none => exact ⟨_, _, rfl⟩
  | some s => simp only [homeV]; split <;> exact ⟨_, _, rfl⟩
theorem pl_len {s : Sh} (h : s.ok) (x : Int) : (s.pl x).length ≤ 4 := by
  cases s with
  | grid g => simp only [Sh.pl, coords_len]; exact h.2.1
  | fat k n => simp [Sh.pl]
  | fly k n => simp [Sh.pl]

theorem sizeV_three (hosts : Int) (o : Option Sh) : ∃ a b e, sizeV hosts o = .tuple ⟨[.int .i64 a, .int .i64 b, .int .i64 e]⟩ := by
  cases o with
  | none => exact ⟨_, _, _, rfl⟩
  | some s => exact ⟨_, _, _, rfl⟩
theorem place_len {kind hosts x : Int} {sides : List Int} : ∀ out, placeF x (shapeF kind sides hosts) = .inr out → out.length ≤ 1000000000 := by
  intro out ho
  cases hs : shapeF kind sides hosts with
  | none => rw [hs] at ho; cases ho
  | some s =>
    rw [hs] at ho
    simp only [placeF] at ho
    split at ho
    · cases ho; have := pl_len (shapeF_ok hs) x; omega
    · cases ho

set_option maxHeartbeats 8000000 in
/-- THE LAW: it returns true, whatever the network, the host and the switch are. -/
theorem k5 (kind hosts : Int) (sides : List Int) (host x : Int) (hh : I64 host) (hx : I64 x) {m : LM} {argsR : Array Value} {w : World} (ha : LRel m [spV kind (sv 0 sides.length) hosts, .int .i64 host, .int .i64 x] argsR.toList) (hr : HRel m [ro sides] w) :
    Calls Try.prog 5 argsR w fun e w' => ∃ vR, e = .returned vR ∧ AppOut m [ro sides] w (fun v _ => v = .bool true) vR w' := by
  refine calls_vcg tok Try.func5 rfl Try.ntmps5 rfl (by simp) ?_ ha hr
  obtain ⟨a, e, hhv⟩ := homeV_two hosts host (shapeF kind sides hosts)
  obtain ⟨n1, n2, n3, hsv⟩ := sizeV_three hosts (shapeF kind sides hosts)
  have hq := place_len (kind := kind) (hosts := hosts) (x := x) (sides := sides)
  generalize hpq : placeF x (shapeF kind sides hosts) = q at hq
  (repeat (first | refine And.intro (fun _ => ?_) (fun h => absurd h (by decide)) | refine And.intro (fun h => absurd h (by decide)) (fun _ => ?_) | refine Exists.intro _ (And.intro rfl ?_) | refine And.intro (by decide) ?_ | refine And.intro (by omega) ?_ | refine Or.inl (Exists.intro _ (And.intro rfl (And.intro (by unfold I64; omega) ?_)))))
  refine And.intro (fun hc => ?_) (fun hc => ?_)
  · (repeat (first | refine And.intro (fun _ => ?_) (fun h => absurd h (by decide)) | refine And.intro (fun h => absurd h (by decide)) (fun _ => ?_) | refine Exists.intro _ (And.intro rfl ?_) | refine And.intro (by decide) ?_ | refine And.intro (by omega) ?_ | refine Or.inl (Exists.intro _ (And.intro rfl (And.intro (by unfold I64; omega) ?_)))))
    (first | refine c12 ?_ | refine (c12 ?_).call)
    exact rfl
  · (repeat (first | refine And.intro (fun _ => ?_) (fun h => absurd h (by decide)) | refine And.intro (fun h => absurd h (by decide)) (fun _ => ?_) | refine Exists.intro _ (And.intro rfl ?_) | refine And.intro (by decide) ?_ | refine And.intro (by omega) ?_ | refine Or.inl (Exists.intro _ (And.intro rfl (And.intro (by unfold I64; omega) ?_)))))
    (first | refine c22 rfl (Nat.le_refl _) ?_ | refine (c22 rfl (Nat.le_refl _) ?_).call)
    rw [hsv]
    (repeat (first | refine And.intro (fun _ => ?_) (fun h => absurd h (by decide)) | refine And.intro (fun h => absurd h (by decide)) (fun _ => ?_) | refine Exists.intro _ (And.intro rfl ?_) | refine And.intro (by decide) ?_ | refine And.intro (by omega) ?_ | refine Or.inl (Exists.intro _ (And.intro rfl (And.intro (by unfold I64; omega) ?_))) | refine And.intro (show (_ : Nat) < _ from by simp) ?_ | refine And.intro (fun h => absurd h (by rw [decide_eq_true rfl]; decide)) (fun _ => ?_) | refine And.intro (fun _ => ?_) (fun h => absurd h (by rw [decide_eq_true rfl]; decide))))
    (first | refine c15 rfl (Nat.le_refl _) ?_ | refine (c15 rfl (Nat.le_refl _) ?_).call)
    (repeat (first | refine And.intro (fun _ => ?_) (fun h => absurd h (by decide)) | refine And.intro (fun h => absurd h (by decide)) (fun _ => ?_) | refine Exists.intro _ (And.intro rfl ?_) | refine And.intro (by decide) ?_ | refine And.intro (by omega) ?_ | refine Or.inl (Exists.intro _ (And.intro rfl (And.intro (by unfold I64; omega) ?_))) | refine And.intro (show (_ : Nat) < _ from by simp) ?_ | refine And.intro (fun h => absurd h (by rw [decide_eq_true rfl]; decide)) (fun _ => ?_) | refine And.intro (fun _ => ?_) (fun h => absurd h (by rw [decide_eq_true rfl]; decide))))
    (first | refine c23 rfl (Nat.le_refl _) ?_ | refine (c23 rfl (Nat.le_refl _) ?_).call)
    rw [hsv]
    (repeat (first | refine And.intro (fun _ => ?_) (fun h => absurd h (by decide)) | refine And.intro (fun h => absurd h (by decide)) (fun _ => ?_) | refine Exists.intro _ (And.intro rfl ?_) | refine And.intro (by decide) ?_ | refine And.intro (by omega) ?_ | refine Or.inl (Exists.intro _ (And.intro rfl (And.intro (by unfold I64; omega) ?_))) | refine And.intro (show (_ : Nat) < _ from by simp) ?_ | refine And.intro (fun h => absurd h (by rw [decide_eq_true rfl]; decide)) (fun _ => ?_) | refine And.intro (fun _ => ?_) (fun h => absurd h (by rw [decide_eq_true rfl]; decide))))
    refine vcg_draw tok mx [0, 0, 3, 7, 15, 15, 63, 127, 255, 511, 511, 2047, 4095, 8191, 16383, 32767, 16383, 131071, 262143, 524287, 1048575] [false, false, false, false, false, false, false, false, false, false, false, false, false, false, false, true, true, false, false, false, false] [0, 1, 2, 3, 4, 5, 6, 7, 8, 9, 10, 11, 12, 13, 14, 16, 15, 17, 18, 19, 20] (by kernel_rfl) ?_
    (repeat (first | refine And.intro (fun _ => ?_) (fun h => absurd h (by decide)) | refine And.intro (fun h => absurd h (by decide)) (fun _ => ?_) | refine Exists.intro _ (And.intro rfl ?_) | refine And.intro (by decide) ?_ | refine And.intro (by omega) ?_ | refine Or.inl (Exists.intro _ (And.intro rfl (And.intro (by unfold I64; omega) ?_))) | refine And.intro (show (_ : Nat) < _ from by simp) ?_ | refine And.intro (fun h => absurd h (by rw [decide_eq_true rfl]; decide)) (fun _ => ?_) | refine And.intro (fun _ => ?_) (fun h => absurd h (by rw [decide_eq_true rfl]; decide))))
    (first | refine c24 rfl (Nat.le_refl _) ?_ | refine (c24 rfl (Nat.le_refl _) ?_).call)
    (repeat (first | refine And.intro (fun _ => ?_) (fun h => absurd h (by decide)) | refine And.intro (fun h => absurd h (by decide)) (fun _ => ?_) | refine Exists.intro _ (And.intro rfl ?_) | refine And.intro (by decide) ?_ | refine And.intro (by omega) ?_ | refine Or.inl (Exists.intro _ (And.intro rfl (And.intro (by unfold I64; omega) ?_))) | refine And.intro (show (_ : Nat) < _ from by simp) ?_ | refine And.intro (fun h => absurd h (by rw [decide_eq_true rfl]; decide)) (fun _ => ?_) | refine And.intro (fun _ => ?_) (fun h => absurd h (by rw [decide_eq_true rfl]; decide))))
    (first | refine c15 rfl (Nat.le_refl _) ?_ | refine (c15 rfl (Nat.le_refl _) ?_).call)
    (repeat (first | refine And.intro (fun _ => ?_) (fun h => absurd h (by decide)) | refine And.intro (fun h => absurd h (by decide)) (fun _ => ?_) | refine Exists.intro _ (And.intro rfl ?_) | refine And.intro (by decide) ?_ | refine And.intro (by omega) ?_ | refine Or.inl (Exists.intro _ (And.intro rfl (And.intro (by unfold I64; omega) ?_))) | refine And.intro (show (_ : Nat) < _ from by simp) ?_ | refine And.intro (fun h => absurd h (by rw [decide_eq_true rfl]; decide)) (fun _ => ?_) | refine And.intro (fun _ => ?_) (fun h => absurd h (by rw [decide_eq_true rfl]; decide))))
    (first | refine c25 rfl (Nat.le_refl _) ?_ | refine (c25 rfl (Nat.le_refl _) ?_).call)
    (repeat (first | refine And.intro (fun _ => ?_) (fun h => absurd h (by decide)) | refine And.intro (fun h => absurd h (by decide)) (fun _ => ?_) | refine Exists.intro _ (And.intro rfl ?_) | refine And.intro (by decide) ?_ | refine And.intro (by omega) ?_ | refine Or.inl (Exists.intro _ (And.intro rfl (And.intro (by unfold I64; omega) ?_))) | refine And.intro (show (_ : Nat) < _ from by simp) ?_ | refine And.intro (fun h => absurd h (by rw [decide_eq_true rfl]; decide)) (fun _ => ?_) | refine And.intro (fun _ => ?_) (fun h => absurd h (by rw [decide_eq_true rfl]; decide))))
    (first | refine c26 hh rfl (Nat.le_refl _) ?_ | refine (c26 hh rfl (Nat.le_refl _) ?_).call)
    rw [hhv]
    (repeat (first | refine And.intro (fun _ => ?_) (fun h => absurd h (by decide)) | refine And.intro (fun h => absurd h (by decide)) (fun _ => ?_) | refine Exists.intro _ (And.intro rfl ?_) | refine And.intro (by decide) ?_ | refine And.intro (by omega) ?_ | refine Or.inl (Exists.intro _ (And.intro rfl (And.intro (by unfold I64; omega) ?_))) | refine And.intro (show (_ : Nat) < _ from by simp) ?_ | refine And.intro (fun h => absurd h (by rw [decide_eq_true rfl]; decide)) (fun _ => ?_) | refine And.intro (fun _ => ?_) (fun h => absurd h (by rw [decide_eq_true rfl]; decide))))
    (first | refine c15 rfl (Nat.le_refl _) ?_ | refine (c15 rfl (Nat.le_refl _) ?_).call)
    (repeat (first | refine And.intro (fun _ => ?_) (fun h => absurd h (by decide)) | refine And.intro (fun h => absurd h (by decide)) (fun _ => ?_) | refine Exists.intro _ (And.intro rfl ?_) | refine And.intro (by decide) ?_ | refine And.intro (by omega) ?_ | refine Or.inl (Exists.intro _ (And.intro rfl (And.intro (by unfold I64; omega) ?_))) | refine And.intro (show (_ : Nat) < _ from by simp) ?_ | refine And.intro (fun h => absurd h (by rw [decide_eq_true rfl]; decide)) (fun _ => ?_) | refine And.intro (fun _ => ?_) (fun h => absurd h (by rw [decide_eq_true rfl]; decide))))
    (first | refine c27 hh rfl (Nat.le_refl _) ?_ | refine (c27 hh rfl (Nat.le_refl _) ?_).call)
    rw [hhv]
    (repeat (first | refine And.intro (fun _ => ?_) (fun h => absurd h (by decide)) | refine And.intro (fun h => absurd h (by decide)) (fun _ => ?_) | refine Exists.intro _ (And.intro rfl ?_) | refine And.intro (by decide) ?_ | refine And.intro (by omega) ?_ | refine Or.inl (Exists.intro _ (And.intro rfl (And.intro (by unfold I64; omega) ?_))) | refine And.intro (show (_ : Nat) < _ from by simp) ?_ | refine And.intro (fun h => absurd h (by rw [decide_eq_true rfl]; decide)) (fun _ => ?_) | refine And.intro (fun _ => ?_) (fun h => absurd h (by rw [decide_eq_true rfl]; decide))))
    (first | refine c28 hx rfl (Nat.le_refl _) ?_ | refine (c28 hx rfl (Nat.le_refl _) ?_).call)
    rw [hpq]
    cases q with
    | inl e2 =>
      (repeat (first | refine And.intro (fun _ => ?_) (fun h => absurd h (by decide)) | refine And.intro (fun h => absurd h (by decide)) (fun _ => ?_) | refine Exists.intro _ (And.intro rfl ?_) | refine And.intro (by decide) ?_ | refine And.intro (by omega) ?_ | refine Or.inl (Exists.intro _ (And.intro rfl (And.intro (by unfold I64; omega) ?_))) | refine And.intro (show (_ : Nat) < _ from by simp) ?_ | refine And.intro (fun h => absurd h (by rw [decide_eq_true rfl]; decide)) (fun _ => ?_) | refine And.intro (fun _ => ?_) (fun h => absurd h (by rw [decide_eq_true rfl]; decide))))
      (first | refine c15 rfl (Nat.le_refl _) ?_ | refine (c15 rfl (Nat.le_refl _) ?_).call)
      (repeat (first | refine And.intro (fun _ => ?_) (fun h => absurd h (by decide)) | refine And.intro (fun h => absurd h (by decide)) (fun _ => ?_) | refine Exists.intro _ (And.intro rfl ?_) | refine And.intro (by decide) ?_ | refine And.intro (by omega) ?_ | refine Or.inl (Exists.intro _ (And.intro rfl (And.intro (by unfold I64; omega) ?_))) | refine And.intro (show (_ : Nat) < _ from by simp) ?_ | refine And.intro (fun h => absurd h (by rw [decide_eq_true rfl]; decide)) (fun _ => ?_) | refine And.intro (fun _ => ?_) (fun h => absurd h (by rw [decide_eq_true rfl]; decide))))
      (first | refine c29 hx rfl (Nat.le_refl _) ?_ | refine (c29 hx rfl (Nat.le_refl _) ?_).call)
      rw [hpq]
      (repeat (first | refine And.intro (fun _ => ?_) (fun h => absurd h (by decide)) | refine And.intro (fun h => absurd h (by decide)) (fun _ => ?_) | refine Exists.intro _ (And.intro rfl ?_) | refine And.intro (by decide) ?_ | refine And.intro (by omega) ?_ | refine Or.inl (Exists.intro _ (And.intro rfl (And.intro (by unfold I64; omega) ?_))) | refine And.intro (show (_ : Nat) < _ from by simp) ?_ | refine And.intro (fun h => absurd h (by rw [decide_eq_true rfl]; decide)) (fun _ => ?_) | refine And.intro (fun _ => ?_) (fun h => absurd h (by rw [decide_eq_true rfl]; decide))))
      (first | refine c18 (Rd.nil 0 rfl) (Rd.nil 0 rfl) (by simp) ?_ | refine (c18 (Rd.nil 0 rfl) (Rd.nil 0 rfl) (by simp) ?_).call)
      (repeat (first | refine And.intro (fun _ => ?_) (fun h => absurd h (by decide)) | refine And.intro (fun h => absurd h (by decide)) (fun _ => ?_) | refine Exists.intro _ (And.intro rfl ?_) | refine And.intro (by decide) ?_ | refine And.intro (by omega) ?_ | refine Or.inl (Exists.intro _ (And.intro rfl (And.intro (by unfold I64; omega) ?_))) | refine And.intro (show (_ : Nat) < _ from by simp) ?_ | refine And.intro (fun h => absurd h (by rw [decide_eq_true rfl]; decide)) (fun _ => ?_) | refine And.intro (fun _ => ?_) (fun h => absurd h (by rw [decide_eq_true rfl]; decide))))
      (first | refine c12 ?_ | refine (c12 ?_).call)
      (repeat (first | refine And.intro (fun _ => ?_) (fun h => absurd h (by decide)) | refine And.intro (fun h => absurd h (by decide)) (fun _ => ?_) | refine Exists.intro _ (And.intro rfl ?_) | refine And.intro (by decide) ?_ | refine And.intro (by omega) ?_ | refine Or.inl (Exists.intro _ (And.intro rfl (And.intro (by unfold I64; omega) ?_))) | refine And.intro (show (_ : Nat) < _ from by simp) ?_ | refine And.intro (fun h => absurd h (by rw [decide_eq_true rfl]; decide)) (fun _ => ?_) | refine And.intro (fun _ => ?_) (fun h => absurd h (by rw [decide_eq_true rfl]; decide))))
      exact rfl
    | inr out =>
      have hol := hq out rfl
      (repeat (first | refine And.intro (fun _ => ?_) (fun h => absurd h (by decide)) | refine And.intro (fun h => absurd h (by decide)) (fun _ => ?_) | refine Exists.intro _ (And.intro rfl ?_) | refine And.intro (by decide) ?_ | refine And.intro (by omega) ?_ | refine Or.inl (Exists.intro _ (And.intro rfl (And.intro (by unfold I64; omega) ?_))) | refine And.intro (show (_ : Nat) < _ from by simp) ?_ | refine And.intro (fun h => absurd h (by rw [decide_eq_true rfl]; decide)) (fun _ => ?_) | refine And.intro (fun _ => ?_) (fun h => absurd h (by rw [decide_eq_true rfl]; decide))))
      (first | refine c15 rfl (Nat.le_refl _) ?_ | refine (c15 rfl (Nat.le_refl _) ?_).call)
      (repeat (first | refine And.intro (fun _ => ?_) (fun h => absurd h (by decide)) | refine And.intro (fun h => absurd h (by decide)) (fun _ => ?_) | refine Exists.intro _ (And.intro rfl ?_) | refine And.intro (by decide) ?_ | refine And.intro (by omega) ?_ | refine Or.inl (Exists.intro _ (And.intro rfl (And.intro (by unfold I64; omega) ?_))) | refine And.intro (show (_ : Nat) < _ from by simp) ?_ | refine And.intro (fun h => absurd h (by rw [decide_eq_true rfl]; decide)) (fun _ => ?_) | refine And.intro (fun _ => ?_) (fun h => absurd h (by rw [decide_eq_true rfl]; decide))))
      (first | refine c29 hx rfl (Nat.le_refl _) ?_ | refine (c29 hx rfl (Nat.le_refl _) ?_).call)
      rw [hpq]
      (repeat (first | refine And.intro (fun _ => ?_) (fun h => absurd h (by decide)) | refine And.intro (fun h => absurd h (by decide)) (fun _ => ?_) | refine Exists.intro _ (And.intro rfl ?_) | refine And.intro (by decide) ?_ | refine And.intro (by omega) ?_ | refine Or.inl (Exists.intro _ (And.intro rfl (And.intro (by unfold I64; omega) ?_))) | refine And.intro (show (_ : Nat) < _ from by simp) ?_ | refine And.intro (fun h => absurd h (by rw [decide_eq_true rfl]; decide)) (fun _ => ?_) | refine And.intro (fun _ => ?_) (fun h => absurd h (by rw [decide_eq_true rfl]; decide))))
      (first | refine c18 (Rd.lit rfl (Nat.le_refl _)) (Rd.lit rfl (Nat.le_refl _)) hol ?_ | refine (c18 (Rd.lit rfl (Nat.le_refl _)) (Rd.lit rfl (Nat.le_refl _)) hol ?_).call)
      (repeat (first | refine And.intro (fun _ => ?_) (fun h => absurd h (by decide)) | refine And.intro (fun h => absurd h (by decide)) (fun _ => ?_) | refine Exists.intro _ (And.intro rfl ?_) | refine And.intro (by decide) ?_ | refine And.intro (by omega) ?_ | refine Or.inl (Exists.intro _ (And.intro rfl (And.intro (by unfold I64; omega) ?_))) | refine And.intro (show (_ : Nat) < _ from by simp) ?_ | refine And.intro (fun h => absurd h (by rw [decide_eq_true rfl]; decide)) (fun _ => ?_) | refine And.intro (fun _ => ?_) (fun h => absurd h (by rw [decide_eq_true rfl]; decide))))
      (first | refine c12 ?_ | refine (c12 ?_).call)
      (repeat (first | refine And.intro (fun _ => ?_) (fun h => absurd h (by decide)) | refine And.intro (fun h => absurd h (by decide)) (fun _ => ?_) | refine Exists.intro _ (And.intro rfl ?_) | refine And.intro (by decide) ?_ | refine And.intro (by omega) ?_ | refine Or.inl (Exists.intro _ (And.intro rfl (And.intro (by unfold I64; omega) ?_))) | refine And.intro (show (_ : Nat) < _ from by simp) ?_ | refine And.intro (fun h => absurd h (by rw [decide_eq_true rfl]; decide)) (fun _ => ?_) | refine And.intro (fun _ => ?_) (fun h => absurd h (by rw [decide_eq_true rfl]; decide))))
      exact rfl
end Go.Af.Try
