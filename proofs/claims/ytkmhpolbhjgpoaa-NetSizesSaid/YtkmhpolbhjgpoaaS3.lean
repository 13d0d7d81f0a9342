import Derived.Test.YtkmhpolbhjgpoaaS2
namespace Go.Af.Try
open Go Go.Proofs
attribute [local irreducible] awp ACall ACallX AYield

def betw (n lo hi : Int) : Bool := decide (lo ≤ n) && decide (n ≤ hi)

/-- A power, as a loop makes it. -/
theorem l82 (k n : Int) (hb : ∀ i : Nat, (i : Int) ≤ n → I64 (k ^ i)) (hn : n ≤ 1000) :
    ACall Try.prog 82 [.int .i64 k, .int .i64 n] [] (fun v H => v = .int .i64 (k ^ n.toNat) ∧ H = []) := by
  refine acall_vcg tok Try.call82 Try.func82 rfl Try.ntmps82 rfl (by simp) ?_
  refine vcg_loopR tok (fun i : Nat => (i : Int) ≤ max n 0) (fun i => [(0, .int .i64 k), (5, .int .i64 (k ^ i)), (6, .int .i64 n), (7, .int .i64 i)]) (fun _ => []) (fun i => n.toNat - i) 0 (by simp; omega) ?_ ?_
  · exact Or.inl ⟨⟨rfl, by rw [Int.pow_zero]; rfl, rfl, rfl, trivial⟩, rfl⟩
  intro i hi
  refine And.intro (fun hc => ?_) (fun hc => ?_)
  · have hc : (i : Int) < n := by simpa using hc
    refine Or.inl ⟨k ^ (i + 1), by rw [Int.pow_succ], hb (i + 1) (by omega), ?_⟩
    refine Or.inl ⟨((i + 1 : Nat) : Int), by simp, by unfold I64; omega, ?_⟩
    exact ⟨i + 1, by omega, by omega, .inl ⟨⟨rfl, rfl, rfl, rfl, trivial⟩, rfl⟩⟩
  · have hc : n ≤ (i : Int) := by simpa using hc
    have : n.toNat = i := by omega
    subst this
    exact ⟨rfl, rfl⟩

theorem l61 (k n : Int) (hb : ∀ i : Nat, (i : Int) ≤ n → I64 (k ^ i)) (hn : n ≤ 1000) :
    ACall Try.prog 61 [.int .i64 k, .int .i64 n] [] (fun v H => v = .int .i64 (k ^ n.toNat) ∧ H = []) := by
  refine acall_vcg tok Try.call61 Try.func61 rfl Try.ntmps61 rfl (by simp) ?_
  refine vcg_loopR tok (fun i : Nat => (i : Int) ≤ max n 0) (fun i => [(0, .int .i64 k), (1, .int .i64 n), (5, .int .i64 (k ^ i)), (6, .int .i64 i)]) (fun _ => []) (fun i => n.toNat - i) 0 (by simp; omega) ?_ ?_
  · exact Or.inl ⟨⟨rfl, rfl, by rw [Int.pow_zero]; rfl, rfl, trivial⟩, rfl⟩
  intro i hi
  refine And.intro (fun hc => ?_) (fun hc => ?_)
  · have hc : (i : Int) < n := by simpa using hc
    refine Or.inl ⟨k ^ (i + 1), by rw [Int.pow_succ], hb (i + 1) (by omega), ?_⟩
    refine Or.inl ⟨((i + 1 : Nat) : Int), by simp, by unfold I64; omega, ?_⟩
    exact ⟨i + 1, by omega, by omega, .inl ⟨⟨rfl, rfl, rfl, rfl, trivial⟩, rfl⟩⟩
  · have hc : n ≤ (i : Int) := by simpa using hc
    have : n.toNat = i := by omega
    subst this
    exact ⟨rfl, rfl⟩

theorem l81 (n lo hi : Int) : ACall Try.prog 81 [.int .i64 n, .int .i64 lo, .int .i64 hi] [] (fun v H => v = .bool (betw n lo hi) ∧ H = []) := c81 n lo hi [] _ ⟨rfl, rfl⟩
theorem c82 {H : List Blk} {R : Value → List Blk → Prop} (k n : Int) (hb : ∀ i : Nat, (i : Int) ≤ n → I64 (k ^ i)) (hn : n ≤ 1000) (h : R (.int .i64 (k ^ n.toNat)) H) : ACallX Try.prog 82 [.int .i64 k, .int .i64 n] H R :=
  acallx_s (l82 k n hb hn) [] rfl (.cons (.int _ _) (.cons (.int _ _) .nil)) trivial rfl h
theorem c61 {H : List Blk} {R : Value → List Blk → Prop} (k n : Int) (hb : ∀ i : Nat, (i : Int) ≤ n → I64 (k ^ i)) (hn : n ≤ 1000) (h : R (.int .i64 (k ^ n.toNat)) H) : ACallX Try.prog 61 [.int .i64 k, .int .i64 n] H R :=
  acallx_s (l61 k n hb hn) [] rfl (.cons (.int _ _) (.cons (.int _ _) .nil)) trivial rfl h
theorem x81 {H : List Blk} {R : Value → List Blk → Prop} (n lo hi : Int) (h : R (.bool (betw n lo hi)) H) : ACallX Try.prog 81 [.int .i64 n, .int .i64 lo, .int .i64 hi] H R :=
  acallx_s (l81 n lo hi) [] rfl (.cons (.int _ _) (.cons (.int _ _) (.cons (.int _ _) .nil))) trivial rfl h

inductive Sh where
  | grid (g : List Int)
  | fat (k n : Int)
  | fly (a h : Int)

def gridN : List Int → Int → Option Int
  | [], n => some n
  | m :: r, n => if betw m 2 16 && decide (n * m ≤ 256) then gridN r (n * m) else none

def shapeF (kind : Int) (sides : List Int) (hosts : Int) : Option Sh :=
  if kind = 1 then
    match gridN sides 1 with
    | some _ => if betw sides.length 1 4 && betw hosts 1 4 then some (.grid sides) else none
    | none => none
  else if kind = 2 then
    match sides with
    | [k, n] => if betw k 2 8 && (betw n 1 4 && (decide (k ^ n.toNat ≤ 256) && decide (hosts = k))) then some (.fat k n) else none
    | _ => none
  else if kind = 3 then
    match sides with
    | [a, h] => if betw a 1 16 && (betw h 1 4 && (betw hosts 1 4 && decide (a * (a * h + 1) ≤ 256))) then some (.fly a h) else none
    | _ => none
  else none

def shT : Sh → TypeId
  | .grid _ => 106
  | .fat _ _ => 120
  | .fly _ _ => 122
def shU (v : Value) : Sh → Value
  | .grid _ => v
  | .fat k n => .agg ⟨[.int .i64 k, .int .i64 n]⟩
  | .fly a h => .agg ⟨[.int .i64 a, .int .i64 h]⟩
abbrev shV (v : Value) (s : Sh) : Value := .iface (shT s) (shU v s)

def shR (v : Value) : Option Sh → Value
  | some s => .tuple ⟨[shV v s, .int .i64 0]⟩
  | none => .tuple ⟨[.nilIface, .int .i64 2]⟩

theorem powb {k : Int} (h0 : 0 ≤ k) (h1 : k ≤ 16) {n : Int} (hn : n ≤ 4) (i : Nat) (hi : (i : Int) ≤ n) : I64 (k ^ i) := by
  obtain ⟨q, rfl⟩ : ∃ q : Nat, k = q := ⟨k.toNat, by omega⟩
  have e1 : q ^ i ≤ 16 ^ i := Nat.pow_le_pow_left (by omega) i
  have e2 : 16 ^ i ≤ 16 ^ 4 := Nat.pow_le_pow_right (by decide) (by omega)
  have e3 : ((q : Int) ^ i) = ((q ^ i : Nat) : Int) := by simp
  rw [e3]; unfold I64; omega
theorem mulb {a b A B : Int} (ha : 0 ≤ a) (hA : a ≤ A) (hb : 0 ≤ b) (hB : b ≤ B) : 0 ≤ a * b ∧ a * b ≤ A * B :=
  ⟨Int.mul_nonneg ha hb, Int.mul_le_mul hA hB hb (Int.le_trans ha hA)⟩

theorem l57 (kind hosts : Int) (sides : List Int) : ACall Try.prog 57 [.agg ⟨[.int .i64 kind, sv 0 sides.length, .int .i64 hosts]⟩] [ro sides] (fun v H => v = shR (sv 0 sides.length) (shapeF kind sides hosts) ∧ H = [ro sides]) := by
  refine acall_drop (acall_vcg tok Try.call57 Try.func57 rfl Try.ntmps57 rfl (by simp) ?_)
  refine And.intro (by decide) ?_
  refine ⟨_, rfl, ?_⟩
  refine (x81 _ _ _ ?_).call
  refine And.intro (by decide) ?_
  refine ⟨_, rfl, ?_⟩
  refine And.intro (fun h1 => ?_) (fun h1 => ?_)
  · have h1 : kind = 1 := by simpa using h1
    refine And.intro (by decide) ?_
    refine ⟨_, rfl, ?_⟩
    refine vcg_loopR tok (fun p : Nat × Int => p.1 ≤ sides.length ∧ gridN (sides.drop p.1) p.2 = gridN sides 1 ∧ (p.1 : Int) + 1 ≤ p.2 ∧ p.2 ≤ 256)
      (fun p => [(1, .pointer (some ⟨1, 0, none⟩)), (4, .bool (betw hosts 1 4)), (5, .int .i64 p.2), (16, sv 0 sides.length), (17, .int .i64 sides.length), (18, .int .i64 p.1)])
      (fun _ => [ro sides, .cells true 1 [.int .i64 kind, sv 0 sides.length, .int .i64 hosts]]) (fun p => sides.length - p.1) (0, 1) ⟨Nat.zero_le _, rfl, by decide, by decide⟩ ?_ ?_
    · exact Or.inl ⟨⟨rfl, rfl, rfl, rfl, rfl, rfl, trivial⟩, rfl⟩
    rintro ⟨i, n⟩ ⟨hi, hg, hn1, hn2⟩
    simp only at hi hg hn1 hn2
    refine And.intro (fun hc => ?_) (fun hc => ?_)
    · have hlt : i < sides.length := by simpa using hc
      have hd : sides.drop i = sides[i]! :: sides.drop (i + 1) := by rw [getElem!_pos sides i hlt]; exact List.drop_eq_getElem_cons hlt
      rw [hd] at hg
      simp only [gridN] at hg
      refine ⟨i, rfl, hlt, ?_⟩
      refine Ld_ints i sides[i]! (by simp) (by simp [hlt]) ?_
      refine (x81 _ _ _ ?_).call
      refine And.intro (fun hb => ?_) (fun hb => ?_)
      · have hb' : betw sides[i]! 2 16 = true := by simpa using hb
        have hb2 : 2 ≤ sides[i]! ∧ sides[i]! ≤ 16 := by simpa [betw] using hb'
        have hmb := mulb (a := n) (b := sides[i]!) (A := 256) (B := 16) (by omega) hn2 (by omega) hb2.2
        (repeat (first | refine And.intro (fun _ => ?_) (fun h => absurd h (by decide)) | refine And.intro (fun h => absurd h (by decide)) (fun _ => ?_) | refine Exists.intro _ (And.intro rfl ?_) | refine And.intro (by decide) ?_ | refine And.intro (by omega) ?_ | refine Or.inl (Exists.intro _ (And.intro rfl (And.intro (by unfold I64; omega) ?_)))))
        refine Or.inl ⟨n * sides[i]!, rfl, by unfold I64; omega, ?_⟩
        (repeat (first | refine And.intro (fun _ => ?_) (fun h => absurd h (by decide)) | refine And.intro (fun h => absurd h (by decide)) (fun _ => ?_) | refine Exists.intro _ (And.intro rfl ?_) | refine And.intro (by decide) ?_ | refine And.intro (by omega) ?_ | refine Or.inl (Exists.intro _ (And.intro rfl (And.intro (by unfold I64; omega) ?_)))))
        refine And.intro (fun hd => ?_) (fun hd => ?_)
        · have hd : 256 < n * sides[i]! := by simpa using hd
          have : ¬ (n * sides[i]! ≤ 256) := by omega
          have e : shapeF kind sides hosts = none := by
            simp only [hb', Bool.true_and, decide_eq_true_eq, this, if_false] at hg
            simp [shapeF, h1, ← hg]
          rw [e]
          refine ⟨[(0, 0)], _, [ro sides], by simp, anch_of rfl, ⟨⟨_, rfl, BRen.ints _ _ _⟩, trivial⟩, rfl, VRen.plain rfl, rfl, rfl⟩
        · have hd : n * sides[i]! ≤ 256 := by simpa using hd
          refine Or.inl ⟨n * sides[i]!, rfl, by unfold I64; omega, ?_⟩
          refine Or.inl ⟨((i + 1 : Nat) : Int), by simp, by unfold I64; omega, ?_⟩
          refine ⟨(i + 1, n * sides[i]!), ⟨hlt, ?_, ?_, hd⟩, by simp; omega, .inl ⟨⟨rfl, rfl, rfl, rfl, rfl, rfl, trivial⟩, rfl⟩⟩
          · rw [← hg, hb', decide_eq_true hd]; simp only [Bool.and_self, if_true]
          · have := Int.mul_le_mul_of_nonneg_left hb2.1 (show 0 ≤ n by omega)
            simp only; omega
      · have hb' : betw sides[i]! 2 16 = false := by simpa using hb
        have e : shapeF kind sides hosts = none := by
          simp only [hb', Bool.false_and] at hg
          simp [shapeF, h1, ← hg]
        (repeat (first | refine And.intro (fun _ => ?_) (fun h => absurd h (by decide)) | refine And.intro (fun h => absurd h (by decide)) (fun _ => ?_) | refine Exists.intro _ (And.intro rfl ?_) | refine And.intro (by decide) ?_ | refine And.intro (by omega) ?_ | refine Or.inl (Exists.intro _ (And.intro rfl (And.intro (by unfold I64; omega) ?_)))))
        rw [e]
        refine ⟨[(0, 0)], _, [ro sides], by simp, anch_of rfl, ⟨⟨_, rfl, BRen.ints _ _ _⟩, trivial⟩, rfl, VRen.plain rfl, rfl, rfl⟩
    · have hlt : ¬ (i < sides.length) := by simpa using hc
      have hd : sides.drop i = [] := List.drop_eq_nil_of_le (by omega)
      rw [hd] at hg
      simp only [gridN] at hg
      refine And.intro (by decide) ?_
      refine ⟨_, rfl, ?_⟩
      refine (x81 _ _ _ ?_).call
      refine And.intro (fun hb => ?_) (fun hb => ?_)
      · (repeat (first | refine And.intro (fun _ => ?_) (fun h => absurd h (by decide)) | refine And.intro (fun h => absurd h (by decide)) (fun _ => ?_) | refine Exists.intro _ (And.intro rfl ?_) | refine And.intro (by decide) ?_ | refine And.intro (by omega) ?_ | refine Or.inl (Exists.intro _ (And.intro rfl (And.intro (by unfold I64; omega) ?_)))))
        refine And.intro (fun hh => ?_) (fun hh => ?_)
        · refine And.intro (by decide) ?_
          refine ⟨_, rfl, ?_⟩
          have e : shapeF kind sides hosts = some (.grid sides) := by simp [shapeF, h1, ← hg, hb, hh]
          rw [e]
          refine ⟨[(0, 0)], _, [ro sides], by simp, anch_of rfl, ⟨⟨_, rfl, BRen.ints _ _ _⟩, trivial⟩, rfl, VRen.tuple (.cons (.iface _ (VRen.slice rfl rfl (Nat.le_refl _))) (.cons (.int _ _) .nil)), rfl, rfl⟩
        · have e : shapeF kind sides hosts = none := by simp [shapeF, h1, ← hg, hb, hh]
          rw [e]
          refine ⟨[(0, 0)], _, [ro sides], by simp, anch_of rfl, ⟨⟨_, rfl, BRen.ints _ _ _⟩, trivial⟩, rfl, VRen.plain rfl, rfl, rfl⟩
      · (repeat (first | refine And.intro (fun _ => ?_) (fun h => absurd h (by decide)) | refine And.intro (fun h => absurd h (by decide)) (fun _ => ?_) | refine Exists.intro _ (And.intro rfl ?_) | refine And.intro (by decide) ?_ | refine And.intro (by omega) ?_ | refine Or.inl (Exists.intro _ (And.intro rfl (And.intro (by unfold I64; omega) ?_)))))
        have e : shapeF kind sides hosts = none := by simp [shapeF, h1, ← hg, hb]
        rw [e]
        refine ⟨[(0, 0)], _, [ro sides], by simp, anch_of rfl, ⟨⟨_, rfl, BRen.ints _ _ _⟩, trivial⟩, rfl, VRen.plain rfl, rfl, rfl⟩
  · have h1 : ¬ kind = 1 := by simpa using h1
    refine And.intro (fun h2 => ?_) (fun h2 => ?_)
    · have h2 : kind = 2 := by simpa using h2
      refine vcg_draw tok mx [0, 1, 3, 7, 15, 31, 63, 127, 255, 511, 1023, 2047, 4095, 8191, 16383, 32767, 65535, 131071, 262143, 524287, 1048575, 2097151, 4194303, 524287, 8912895, 25690111, 59244543, 134217727, 268435455, 536870911, 1073741823, 2147483647, 4294967295, 2147483647, 10737418239, 27917287423, 62277025791, 137438953471, 274877906943] [false, false, false, false, false, false, false, false, false, false, false, false, false, false, false, false, false, false, false, false, false, false, false, true, true, true, true, false, false, false, false, false, false, true, true, true, true, false, false] [0, 1, 2, 3, 4, 5, 6, 7, 8, 9, 10, 11, 12, 13, 14, 15, 16, 17, 18, 19, 20, 21, 22, 23, 24, 25, 26, 27, 28, 29, 30, 31, 32, 33, 34, 35, 36, 37, 38] (by kernel_rfl) ?_
      by_cases hl : sides.length = 2
      · obtain ⟨k, n, rfl⟩ : ∃ k n, sides = [k, n] := by
          match sides, hl with
          | [k, n], _ => exact ⟨k, n, rfl⟩
        (repeat (first | refine And.intro (fun _ => ?_) (fun h => absurd h (by decide)) | refine And.intro (fun h => absurd h (by decide)) (fun _ => ?_) | refine Exists.intro _ (And.intro rfl ?_) | refine And.intro (by decide) ?_ | refine And.intro (by omega) ?_ | refine Or.inl (Exists.intro _ (And.intro rfl (And.intro (by unfold I64; omega) ?_)))))
        refine And.intro (fun _ => ?_) (fun h => absurd h (by simp))
        (repeat (first | refine And.intro (fun _ => ?_) (fun h => absurd h (by decide)) | refine And.intro (fun h => absurd h (by decide)) (fun _ => ?_) | refine Exists.intro _ (And.intro rfl ?_) | refine And.intro (by decide) ?_ | refine And.intro (by omega) ?_ | refine Or.inl (Exists.intro _ (And.intro rfl (And.intro (by unfold I64; omega) ?_)))))
        refine And.intro (by simp) ?_
        (repeat (first | refine And.intro (fun _ => ?_) (fun h => absurd h (by decide)) | refine And.intro (fun h => absurd h (by decide)) (fun _ => ?_) | refine Exists.intro _ (And.intro rfl ?_) | refine And.intro (by decide) ?_ | refine And.intro (by omega) ?_ | refine Or.inl (Exists.intro _ (And.intro rfl (And.intro (by unfold I64; omega) ?_)))))
        (first | refine x81 _ _ _ ?_ | refine (x81 _ _ _ ?_).call)
        refine And.intro (fun hk => ?_) (fun hk => ?_)
        · have hk2 : 2 ≤ k ∧ k ≤ 8 := by simpa [betw] using hk
          (repeat (first | refine And.intro (fun _ => ?_) (fun h => absurd h (by decide)) | refine And.intro (fun h => absurd h (by decide)) (fun _ => ?_) | refine Exists.intro _ (And.intro rfl ?_) | refine And.intro (by decide) ?_ | refine And.intro (by omega) ?_ | refine Or.inl (Exists.intro _ (And.intro rfl (And.intro (by unfold I64; omega) ?_)))))
          refine And.intro (by simp) ?_
          (repeat (first | refine And.intro (fun _ => ?_) (fun h => absurd h (by decide)) | refine And.intro (fun h => absurd h (by decide)) (fun _ => ?_) | refine Exists.intro _ (And.intro rfl ?_) | refine And.intro (by decide) ?_ | refine And.intro (by omega) ?_ | refine Or.inl (Exists.intro _ (And.intro rfl (And.intro (by unfold I64; omega) ?_)))))
          (first | refine x81 _ _ _ ?_ | refine (x81 _ _ _ ?_).call)
          refine And.intro (fun hn => ?_) (fun hn => ?_)
          · have hn2 : 1 ≤ n ∧ n ≤ 4 := by simpa [betw] using hn
            (repeat (first | refine And.intro (fun _ => ?_) (fun h => absurd h (by decide)) | refine And.intro (fun h => absurd h (by decide)) (fun _ => ?_) | refine Exists.intro _ (And.intro rfl ?_) | refine And.intro (by decide) ?_ | refine And.intro (by omega) ?_ | refine Or.inl (Exists.intro _ (And.intro rfl (And.intro (by unfold I64; omega) ?_)))))
            refine And.intro (by simp) ?_
            (repeat (first | refine And.intro (fun _ => ?_) (fun h => absurd h (by decide)) | refine And.intro (fun h => absurd h (by decide)) (fun _ => ?_) | refine Exists.intro _ (And.intro rfl ?_) | refine And.intro (by decide) ?_ | refine And.intro (by omega) ?_ | refine Or.inl (Exists.intro _ (And.intro rfl (And.intro (by unfold I64; omega) ?_)))))
            refine And.intro (by simp) ?_
            (repeat (first | refine And.intro (fun _ => ?_) (fun h => absurd h (by decide)) | refine And.intro (fun h => absurd h (by decide)) (fun _ => ?_) | refine Exists.intro _ (And.intro rfl ?_) | refine And.intro (by decide) ?_ | refine And.intro (by omega) ?_ | refine Or.inl (Exists.intro _ (And.intro rfl (And.intro (by unfold I64; omega) ?_)))))
            (first | refine c82 k n (powb (by omega) (by omega) (by omega)) (by omega) ?_ | refine (c82 k n (powb (by omega) (by omega) (by omega)) (by omega) ?_).call)
            (repeat (first | refine And.intro (fun _ => ?_) (fun h => absurd h (by decide)) | refine And.intro (fun h => absurd h (by decide)) (fun _ => ?_) | refine Exists.intro _ (And.intro rfl ?_) | refine And.intro (by decide) ?_ | refine And.intro (by omega) ?_ | refine Or.inl (Exists.intro _ (And.intro rfl (And.intro (by unfold I64; omega) ?_)))))
            refine And.intro (fun hp => ?_) (fun hp => ?_)
            · (repeat (first | refine And.intro (fun _ => ?_) (fun h => absurd h (by decide)) | refine And.intro (fun h => absurd h (by decide)) (fun _ => ?_) | refine Exists.intro _ (And.intro rfl ?_) | refine And.intro (by decide) ?_ | refine And.intro (by omega) ?_ | refine Or.inl (Exists.intro _ (And.intro rfl (And.intro (by unfold I64; omega) ?_)))))
              refine And.intro (by simp) ?_
              (repeat (first | refine And.intro (fun _ => ?_) (fun h => absurd h (by decide)) | refine And.intro (fun h => absurd h (by decide)) (fun _ => ?_) | refine Exists.intro _ (And.intro rfl ?_) | refine And.intro (by decide) ?_ | refine And.intro (by omega) ?_ | refine Or.inl (Exists.intro _ (And.intro rfl (And.intro (by unfold I64; omega) ?_)))))
              refine And.intro (fun hh => ?_) (fun hh => ?_)
              · refine vcg_draw tok mx [0, 1, 3, 7, 0, 16, 48, 112, 255, 511, 1023, 2047] [false, false, false, false, true, true, true, true, false, false, false, false] [0, 1, 2, 3, 4, 5, 6, 7, 8, 9, 10, 11] (by kernel_rfl) ?_
                (repeat (first | refine And.intro (fun _ => ?_) (fun h => absurd h (by decide)) | refine And.intro (fun h => absurd h (by decide)) (fun _ => ?_) | refine Exists.intro _ (And.intro rfl ?_) | refine And.intro (by decide) ?_ | refine And.intro (by omega) ?_ | refine Or.inl (Exists.intro _ (And.intro rfl (And.intro (by unfold I64; omega) ?_)))))
                refine And.intro (by simp) ?_
                (repeat (first | refine And.intro (fun _ => ?_) (fun h => absurd h (by decide)) | refine And.intro (fun h => absurd h (by decide)) (fun _ => ?_) | refine Exists.intro _ (And.intro rfl ?_) | refine And.intro (by decide) ?_ | refine And.intro (by omega) ?_ | refine Or.inl (Exists.intro _ (And.intro rfl (And.intro (by unfold I64; omega) ?_)))))
                refine And.intro (by simp) ?_
                (repeat (first | refine And.intro (fun _ => ?_) (fun h => absurd h (by decide)) | refine And.intro (fun h => absurd h (by decide)) (fun _ => ?_) | refine Exists.intro _ (And.intro rfl ?_) | refine And.intro (by decide) ?_ | refine And.intro (by omega) ?_ | refine Or.inl (Exists.intro _ (And.intro rfl (And.intro (by unfold I64; omega) ?_)))))
                have e : shapeF kind [k, n] hosts = some (.fat k n) := by
                  simp only [decide_eq_true_eq] at hp hh
                  simp [shapeF, h2, hk, hn, hp, hh]
                rw [e]
                refine ⟨[(0, 0)], _, [ro [k, n]], by simp, anch_of rfl, ⟨⟨_, rfl, BRen.ints _ _ _⟩, trivial⟩, rfl, VRen.plain rfl, rfl, rfl⟩
              · (repeat (first | refine And.intro (fun _ => ?_) (fun h => absurd h (by decide)) | refine And.intro (fun h => absurd h (by decide)) (fun _ => ?_) | refine Exists.intro _ (And.intro rfl ?_) | refine And.intro (by decide) ?_ | refine And.intro (by omega) ?_ | refine Or.inl (Exists.intro _ (And.intro rfl (And.intro (by unfold I64; omega) ?_)))))
                have e : shapeF kind [k, n] hosts = none := by
                  have hh : ¬ hosts = k := by simpa using hh
                  simp [shapeF, h2, hh]
                rw [e]
                refine ⟨[(0, 0)], _, [ro [k, n]], by simp, anch_of rfl, ⟨⟨_, rfl, BRen.ints _ _ _⟩, trivial⟩, rfl, VRen.plain rfl, rfl, rfl⟩
            · (repeat (first | refine And.intro (fun _ => ?_) (fun h => absurd h (by decide)) | refine And.intro (fun h => absurd h (by decide)) (fun _ => ?_) | refine Exists.intro _ (And.intro rfl ?_) | refine And.intro (by decide) ?_ | refine And.intro (by omega) ?_ | refine Or.inl (Exists.intro _ (And.intro rfl (And.intro (by unfold I64; omega) ?_)))))
              have e : shapeF kind [k, n] hosts = none := by
                have hp : ¬ k ^ n.toNat ≤ 256 := by simpa using hp
                simp [shapeF, h2, hp]
              rw [e]
              refine ⟨[(0, 0)], _, [ro [k, n]], by simp, anch_of rfl, ⟨⟨_, rfl, BRen.ints _ _ _⟩, trivial⟩, rfl, VRen.plain rfl, rfl, rfl⟩
          · (repeat (first | refine And.intro (fun _ => ?_) (fun h => absurd h (by decide)) | refine And.intro (fun h => absurd h (by decide)) (fun _ => ?_) | refine Exists.intro _ (And.intro rfl ?_) | refine And.intro (by decide) ?_ | refine And.intro (by omega) ?_ | refine Or.inl (Exists.intro _ (And.intro rfl (And.intro (by unfold I64; omega) ?_)))))
            have e : shapeF kind [k, n] hosts = none := by simp [shapeF, h2, hn]
            rw [e]
            refine ⟨[(0, 0)], _, [ro [k, n]], by simp, anch_of rfl, ⟨⟨_, rfl, BRen.ints _ _ _⟩, trivial⟩, rfl, VRen.plain rfl, rfl, rfl⟩
        · (repeat (first | refine And.intro (fun _ => ?_) (fun h => absurd h (by decide)) | refine And.intro (fun h => absurd h (by decide)) (fun _ => ?_) | refine Exists.intro _ (And.intro rfl ?_) | refine And.intro (by decide) ?_ | refine And.intro (by omega) ?_ | refine Or.inl (Exists.intro _ (And.intro rfl (And.intro (by unfold I64; omega) ?_)))))
          have e : shapeF kind [k, n] hosts = none := by simp [shapeF, h2, hk]
          rw [e]
          refine ⟨[(0, 0)], _, [ro [k, n]], by simp, anch_of rfl, ⟨⟨_, rfl, BRen.ints _ _ _⟩, trivial⟩, rfl, VRen.plain rfl, rfl, rfl⟩
      · refine And.intro (by decide) ?_
        refine ⟨_, rfl, ?_⟩
        refine And.intro (fun h => absurd (show (sides.length : Int) = 2 by simpa using h) (by omega)) (fun _ => ?_)
        (repeat (first | refine And.intro (fun _ => ?_) (fun h => absurd h (by decide)) | refine And.intro (fun h => absurd h (by decide)) (fun _ => ?_) | refine Exists.intro _ (And.intro rfl ?_) | refine And.intro (by decide) ?_ | refine And.intro (by omega) ?_ | refine Or.inl (Exists.intro _ (And.intro rfl (And.intro (by unfold I64; omega) ?_)))))
        have e : shapeF kind sides hosts = none := by
          unfold shapeF
          rw [if_neg h1, if_pos h2]
          match sides, hl with
          | [], _ => rfl
          | [_], _ => rfl
          | _ :: _ :: _ :: _, _ => rfl
        rw [e]
        refine ⟨[(0, 0)], _, [ro sides], by simp, anch_of rfl, ⟨⟨_, rfl, BRen.ints _ _ _⟩, trivial⟩, rfl, VRen.plain rfl, rfl, rfl⟩
    · have h2 : ¬ kind = 2 := by simpa using h2
      refine And.intro (fun h3 => ?_) (fun h3 => ?_)
      · have h3 : kind = 3 := by simpa using h3
        refine vcg_draw tok mx [0, 1, 3, 7, 15, 31, 63, 127, 255, 511, 1023, 2047, 4095, 8191, 16383, 32767, 65535, 131071, 262143, 524287, 1048575, 2097151, 4194303, 8388607, 16777215, 33554431, 4194303, 71303167, 205520895, 473956351, 4194303, 1077936127, 3225419775, 7520387071, 17116954623, 34296823807, 68719476735, 137438953471, 274877906943] [false, false, false, false, false, false, false, false, false, false, false, false, false, false, false, false, false, false, false, false, false, false, false, false, false, false, true, true, true, true, true, true, true, true, true, true, false, false, false] [0, 1, 2, 3, 4, 5, 6, 7, 8, 9, 10, 11, 12, 13, 14, 15, 16, 17, 18, 19, 20, 21, 22, 23, 24, 25, 26, 27, 28, 29, 30, 31, 32, 33, 34, 35, 36, 37, 38] (by kernel_rfl) ?_
        by_cases hl : sides.length = 2
        · obtain ⟨a, b, rfl⟩ : ∃ a b, sides = [a, b] := by
            match sides, hl with
            | [a, b], _ => exact ⟨a, b, rfl⟩
          (repeat (first | refine And.intro (fun _ => ?_) (fun h => absurd h (by decide)) | refine And.intro (fun h => absurd h (by decide)) (fun _ => ?_) | refine Exists.intro _ (And.intro rfl ?_) | refine And.intro (by decide) ?_ | refine And.intro (by omega) ?_ | refine Or.inl (Exists.intro _ (And.intro rfl (And.intro (by unfold I64; omega) ?_)))))
          refine And.intro (fun _ => ?_) (fun h => absurd h (by simp))
          (repeat (first | refine And.intro (fun _ => ?_) (fun h => absurd h (by decide)) | refine And.intro (fun h => absurd h (by decide)) (fun _ => ?_) | refine Exists.intro _ (And.intro rfl ?_) | refine And.intro (by decide) ?_ | refine And.intro (by omega) ?_ | refine Or.inl (Exists.intro _ (And.intro rfl (And.intro (by unfold I64; omega) ?_)))))
          refine And.intro (by simp) ?_
          (repeat (first | refine And.intro (fun _ => ?_) (fun h => absurd h (by decide)) | refine And.intro (fun h => absurd h (by decide)) (fun _ => ?_) | refine Exists.intro _ (And.intro rfl ?_) | refine And.intro (by decide) ?_ | refine And.intro (by omega) ?_ | refine Or.inl (Exists.intro _ (And.intro rfl (And.intro (by unfold I64; omega) ?_)))))
          (first | refine x81 _ _ _ ?_ | refine (x81 _ _ _ ?_).call)
          (repeat (first | refine And.intro (fun _ => ?_) (fun h => absurd h (by decide)) | refine And.intro (fun h => absurd h (by decide)) (fun _ => ?_) | refine Exists.intro _ (And.intro rfl ?_) | refine And.intro (by decide) ?_ | refine And.intro (by omega) ?_ | refine Or.inl (Exists.intro _ (And.intro rfl (And.intro (by unfold I64; omega) ?_)))))
          refine And.intro (fun hk => ?_) (fun hk => ?_)
          · have hk2 : 1 ≤ a ∧ a ≤ 16 := by simpa [betw] using hk
            (repeat (first | refine And.intro (fun _ => ?_) (fun h => absurd h (by decide)) | refine And.intro (fun h => absurd h (by decide)) (fun _ => ?_) | refine Exists.intro _ (And.intro rfl ?_) | refine And.intro (by decide) ?_ | refine And.intro (by omega) ?_ | refine Or.inl (Exists.intro _ (And.intro rfl (And.intro (by unfold I64; omega) ?_)))))
            refine And.intro (by simp) ?_
            (repeat (first | refine And.intro (fun _ => ?_) (fun h => absurd h (by decide)) | refine And.intro (fun h => absurd h (by decide)) (fun _ => ?_) | refine Exists.intro _ (And.intro rfl ?_) | refine And.intro (by decide) ?_ | refine And.intro (by omega) ?_ | refine Or.inl (Exists.intro _ (And.intro rfl (And.intro (by unfold I64; omega) ?_)))))
            (first | refine x81 _ _ _ ?_ | refine (x81 _ _ _ ?_).call)
            (repeat (first | refine And.intro (fun _ => ?_) (fun h => absurd h (by decide)) | refine And.intro (fun h => absurd h (by decide)) (fun _ => ?_) | refine Exists.intro _ (And.intro rfl ?_) | refine And.intro (by decide) ?_ | refine And.intro (by omega) ?_ | refine Or.inl (Exists.intro _ (And.intro rfl (And.intro (by unfold I64; omega) ?_)))))
            refine And.intro (fun hn => ?_) (fun hn => ?_)
            · have hn2 : 1 ≤ b ∧ b ≤ 4 := by simpa [betw] using hn
              have hm := mulb (a := a) (b := b) (A := 16) (B := 4) (by omega) (by omega) (by omega) (by omega)
              have hm2 := mulb (a := a) (b := a * b + 1) (A := 16) (B := 65) (by omega) (by omega) (by omega) (by omega)
              (repeat (first | refine And.intro (fun _ => ?_) (fun h => absurd h (by decide)) | refine And.intro (fun h => absurd h (by decide)) (fun _ => ?_) | refine Exists.intro _ (And.intro rfl ?_) | refine And.intro (by decide) ?_ | refine And.intro (by omega) ?_ | refine Or.inl (Exists.intro _ (And.intro rfl (And.intro (by unfold I64; omega) ?_)))))
              refine And.intro (fun hh => ?_) (fun hh => ?_)
              · (repeat (first | refine And.intro (fun _ => ?_) (fun h => absurd h (by decide)) | refine And.intro (fun h => absurd h (by decide)) (fun _ => ?_) | refine Exists.intro _ (And.intro rfl ?_) | refine And.intro (by decide) ?_ | refine And.intro (by omega) ?_ | refine Or.inl (Exists.intro _ (And.intro rfl (And.intro (by unfold I64; omega) ?_)))))
                refine And.intro (by simp) ?_
                (repeat (first | refine And.intro (fun _ => ?_) (fun h => absurd h (by decide)) | refine And.intro (fun h => absurd h (by decide)) (fun _ => ?_) | refine Exists.intro _ (And.intro rfl ?_) | refine And.intro (by decide) ?_ | refine And.intro (by omega) ?_ | refine Or.inl (Exists.intro _ (And.intro rfl (And.intro (by unfold I64; omega) ?_)))))
                refine And.intro (by simp) ?_
                (repeat (first | refine And.intro (fun _ => ?_) (fun h => absurd h (by decide)) | refine And.intro (fun h => absurd h (by decide)) (fun _ => ?_) | refine Exists.intro _ (And.intro rfl ?_) | refine And.intro (by decide) ?_ | refine And.intro (by omega) ?_ | refine Or.inl (Exists.intro _ (And.intro rfl (And.intro (by unfold I64; omega) ?_)))))
                refine And.intro (by simp) ?_
                (repeat (first | refine And.intro (fun _ => ?_) (fun h => absurd h (by decide)) | refine And.intro (fun h => absurd h (by decide)) (fun _ => ?_) | refine Exists.intro _ (And.intro rfl ?_) | refine And.intro (by decide) ?_ | refine And.intro (by omega) ?_ | refine Or.inl (Exists.intro _ (And.intro rfl (And.intro (by unfold I64; omega) ?_)))))
                refine And.intro (fun hp => ?_) (fun hp => ?_)
                · refine vcg_draw tok mx [0, 1, 3, 7, 0, 16, 48, 112, 255, 511, 1023, 2047] [false, false, false, false, true, true, true, true, false, false, false, false] [0, 1, 2, 3, 4, 5, 6, 7, 8, 9, 10, 11] (by kernel_rfl) ?_
                  (repeat (first | refine And.intro (fun _ => ?_) (fun h => absurd h (by decide)) | refine And.intro (fun h => absurd h (by decide)) (fun _ => ?_) | refine Exists.intro _ (And.intro rfl ?_) | refine And.intro (by decide) ?_ | refine And.intro (by omega) ?_ | refine Or.inl (Exists.intro _ (And.intro rfl (And.intro (by unfold I64; omega) ?_)))))
                  refine And.intro (by simp) ?_
                  (repeat (first | refine And.intro (fun _ => ?_) (fun h => absurd h (by decide)) | refine And.intro (fun h => absurd h (by decide)) (fun _ => ?_) | refine Exists.intro _ (And.intro rfl ?_) | refine And.intro (by decide) ?_ | refine And.intro (by omega) ?_ | refine Or.inl (Exists.intro _ (And.intro rfl (And.intro (by unfold I64; omega) ?_)))))
                  refine And.intro (by simp) ?_
                  (repeat (first | refine And.intro (fun _ => ?_) (fun h => absurd h (by decide)) | refine And.intro (fun h => absurd h (by decide)) (fun _ => ?_) | refine Exists.intro _ (And.intro rfl ?_) | refine And.intro (by decide) ?_ | refine And.intro (by omega) ?_ | refine Or.inl (Exists.intro _ (And.intro rfl (And.intro (by unfold I64; omega) ?_)))))
                  have hp : a * (a * b + 1) ≤ 256 := by simpa using hp
                  have e : shapeF kind [a, b] hosts = some (.fly a b) := by simp [shapeF, h3, hk, hn, hp, hh]
                  rw [e]
                  refine ⟨[(0, 0)], _, [ro [a, b]], by simp, anch_of rfl, ⟨⟨_, rfl, BRen.ints _ _ _⟩, trivial⟩, rfl, VRen.plain rfl, rfl, rfl⟩
                · (repeat (first | refine And.intro (fun _ => ?_) (fun h => absurd h (by decide)) | refine And.intro (fun h => absurd h (by decide)) (fun _ => ?_) | refine Exists.intro _ (And.intro rfl ?_) | refine And.intro (by decide) ?_ | refine And.intro (by omega) ?_ | refine Or.inl (Exists.intro _ (And.intro rfl (And.intro (by unfold I64; omega) ?_)))))
                  have hp : ¬ a * (a * b + 1) ≤ 256 := by simpa using hp
                  have e : shapeF kind [a, b] hosts = none := by simp [shapeF, h3, hp]
                  rw [e]
                  refine ⟨[(0, 0)], _, [ro [a, b]], by simp, anch_of rfl, ⟨⟨_, rfl, BRen.ints _ _ _⟩, trivial⟩, rfl, VRen.plain rfl, rfl, rfl⟩
              · (repeat (first | refine And.intro (fun _ => ?_) (fun h => absurd h (by decide)) | refine And.intro (fun h => absurd h (by decide)) (fun _ => ?_) | refine Exists.intro _ (And.intro rfl ?_) | refine And.intro (by decide) ?_ | refine And.intro (by omega) ?_ | refine Or.inl (Exists.intro _ (And.intro rfl (And.intro (by unfold I64; omega) ?_)))))
                have hh : betw hosts 1 4 = false := by simpa using hh
                have e : shapeF kind [a, b] hosts = none := by simp [shapeF, h3, hh]
                rw [e]
                refine ⟨[(0, 0)], _, [ro [a, b]], by simp, anch_of rfl, ⟨⟨_, rfl, BRen.ints _ _ _⟩, trivial⟩, rfl, VRen.plain rfl, rfl, rfl⟩
            · (repeat (first | refine And.intro (fun _ => ?_) (fun h => absurd h (by decide)) | refine And.intro (fun h => absurd h (by decide)) (fun _ => ?_) | refine Exists.intro _ (And.intro rfl ?_) | refine And.intro (by decide) ?_ | refine And.intro (by omega) ?_ | refine Or.inl (Exists.intro _ (And.intro rfl (And.intro (by unfold I64; omega) ?_)))))
              have hn : betw b 1 4 = false := by simpa using hn
              have e : shapeF kind [a, b] hosts = none := by simp [shapeF, h3, hn]
              rw [e]
              refine ⟨[(0, 0)], _, [ro [a, b]], by simp, anch_of rfl, ⟨⟨_, rfl, BRen.ints _ _ _⟩, trivial⟩, rfl, VRen.plain rfl, rfl, rfl⟩
          · (repeat (first | refine And.intro (fun _ => ?_) (fun h => absurd h (by decide)) | refine And.intro (fun h => absurd h (by decide)) (fun _ => ?_) | refine Exists.intro _ (And.intro rfl ?_) | refine And.intro (by decide) ?_ | refine And.intro (by omega) ?_ | refine Or.inl (Exists.intro _ (And.intro rfl (And.intro (by unfold I64; omega) ?_)))))
            have hk : betw a 1 16 = false := by simpa using hk
            have e : shapeF kind [a, b] hosts = none := by simp [shapeF, h3, hk]
            rw [e]
            refine ⟨[(0, 0)], _, [ro [a, b]], by simp, anch_of rfl, ⟨⟨_, rfl, BRen.ints _ _ _⟩, trivial⟩, rfl, VRen.plain rfl, rfl, rfl⟩
        · refine And.intro (by decide) ?_
          refine ⟨_, rfl, ?_⟩
          refine And.intro (fun h => absurd (show (sides.length : Int) = 2 by simpa using h) (by omega)) (fun _ => ?_)
          (repeat (first | refine And.intro (fun _ => ?_) (fun h => absurd h (by decide)) | refine And.intro (fun h => absurd h (by decide)) (fun _ => ?_) | refine Exists.intro _ (And.intro rfl ?_) | refine And.intro (by decide) ?_ | refine And.intro (by omega) ?_ | refine Or.inl (Exists.intro _ (And.intro rfl (And.intro (by unfold I64; omega) ?_)))))
          have e : shapeF kind sides hosts = none := by
            unfold shapeF
            rw [if_neg h1, if_neg h2, if_pos h3]
            match sides, hl with
            | [], _ => rfl
            | [_], _ => rfl
            | _ :: _ :: _ :: _, _ => rfl
          rw [e]
          refine ⟨[(0, 0)], _, [ro sides], by simp, anch_of rfl, ⟨⟨_, rfl, BRen.ints _ _ _⟩, trivial⟩, rfl, VRen.plain rfl, rfl, rfl⟩
      · have h3 : ¬ kind = 3 := by simpa using h3
        have e : shapeF kind sides hosts = none := by
          unfold shapeF
          rw [if_neg h1, if_neg h2, if_neg h3]
        rw [e]
        refine ⟨[(0, 0)], _, [ro sides], by simp, anch_of rfl, ⟨⟨_, rfl, BRen.ints _ _ _⟩, trivial⟩, rfl, VRen.plain rfl, rfl, rfl⟩
end Go.Af.Try
