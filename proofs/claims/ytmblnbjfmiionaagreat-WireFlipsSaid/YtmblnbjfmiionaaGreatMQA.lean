/-
  (The seat's types stand in S1.)
  The sum of bytes: what a byte does to it, and the program's function.
  Frames of bytes: the library's Clone and Equal, the program's frame and Right.
  The reference's sum, frame and Right.
  The reference's Right, and the law WireSums as a call.
  The law WireSums as a call.
  Configurations: Check of the program and of the reference.
  The law WireChecks as a call.
  The sum plainly: a step is linear and loses nothing; a frame is right if its own sum is 0; one, two or three inverted bits are seen.
  The law WireFlips as a call.
-/
import Derived.Test.YtmblnbjfmiionaaGreatMS
import Derived.Test.YtmblnbjfmiionaaGreatMWA
import Derived.Test.YtmblnbjfmiionaaGreatMT
set_option linter.all false

namespace Go.Af.Tryz
open Go Go.Proofs
attribute [local irreducible] awp ACall ACallX AYield AInvoke newSlice isCells rdCells wrCells aAppend rangeEnd roundBegin roundEnd

/-- A row of bytes. -/
def bys (l : List Nat) : List Value := l.map (fun x : Nat => Value.int IntKind.u8 (x : Int))
@[simp] theorem bys_length (l : List Nat) : (bys l).length = l.length := by simp [bys]
theorem bys_get (l : List Nat) (i : Nat) : (bys l)[i]? = (l[i]?).map (fun x : Nat => Value.int .u8 (x : Int)) := by simp [bys]
theorem bys_append (a b : List Nat) : bys (a ++ b) = bys a ++ bys b := by simp [bys]
theorem bys_take (l : List Nat) (n : Nat) : (bys l).take n = bys (l.take n) := by simp [bys, List.map_take]
theorem bys_one (l : List Nat) : (bys l).all oneCellV = true := by simp [bys, oneCellV]
theorem Ld_bys {l : List Nat} {o : Nat} {K : Value → Prop} (k : Nat) (x : Nat) (ho : o = k) (hk : l[k]? = some x) (h : K (.int .u8 (x : Int))) : Ld (bys l) o K := ⟨_, by rw [ho, bys_get, hk]; rfl, h⟩
def Bytes (l : List Nat) : Prop := ∀ x ∈ l, x < 256

/-! ### Plainly -/
def stepN (r : Nat) : Nat := if 32768 ≤ r then (2 * r % 65536) ^^^ 4129 else 2 * r
def stepsN : Nat → Nat → Nat
  | 0, r => r
  | n + 1, r => stepN (stepsN n r)
def byteN (r c : Nat) : Nat := stepsN 8 (r ^^^ (c * 256))
def sumN (l : List Nat) : Nat := l.foldl byteN 65535
theorem xor16_lt {a b : Nat} (ha : a < 65536) (hb : b < 65536) : a ^^^ b < 65536 := Nat.xor_lt_two_pow (n := 16) ha hb
theorem stepN_lt {r : Nat} (h : r < 65536) : stepN r < 65536 := by
  unfold stepN
  split
  · exact xor16_lt (Nat.mod_lt _ (by decide)) (by decide)
  · omega
theorem stepsN_lt {r : Nat} (h : r < 65536) : ∀ n, stepsN n r < 65536
  | 0 => h
  | n + 1 => stepN_lt (stepsN_lt h n)
theorem byteN_lt {r c : Nat} (h : r < 65536) (hc : c < 256) : byteN r c < 65536 := stepsN_lt (xor16_lt h (by omega)) 8
theorem fold_lt : ∀ {l : List Nat} (_ : Bytes l) {r : Nat}, r < 65536 → l.foldl byteN r < 65536
  | [], _, r, h => h
  | x :: l, hl, r, h => by
    rw [List.foldl_cons]
    exact fold_lt (fun y hy => hl y (List.mem_cons_of_mem _ hy)) (r := byteN r x) (byteN_lt h (hl x List.mem_cons_self))
theorem sumN_lt {l : List Nat} (hl : Bytes l) : sumN l < 65536 := fold_lt hl (by decide)
theorem sumN_snoc (l : List Nat) (x : Nat) : sumN (l ++ [x]) = byteN (sumN l) x := by simp [sumN]
theorem Bytes.take {l : List Nat} (h : Bytes l) (n : Nat) : Bytes (l.take n) := fun x hx => h x (List.mem_of_mem_take hx)
theorem Bytes.append {a b : List Nat} (h : Bytes a) (k : Bytes b) : Bytes (a ++ b) := fun x hx => (List.mem_append.1 hx).elim (h x) (k x)
theorem takeS {l : List Nat} {i : Nat} (hi : i < l.length) : l.take (i + 1) = l.take i ++ [l[i]] := List.take_succ_eq_append_getElem hi

/-! ### Numbers of 16 bits -/
theorem wrap16 (z : Int) : IntKind.u16.wrap z = z % 65536 := by
  show (if (false && decide (z % (2 ^ 16 : Int) ≥ 2 ^ 15)) = true then z % (2 ^ 16 : Int) - 2 ^ 16 else z % (2 ^ 16 : Int)) = z % 65536
  rw [Bool.false_and, if_neg (by decide)]
  rfl
theorem wrap8 (z : Int) : IntKind.u8.wrap z = z % 256 := by
  show (if (false && decide (z % (2 ^ 8 : Int) ≥ 2 ^ 7)) = true then z % (2 ^ 8 : Int) - 2 ^ 8 else z % (2 ^ 8 : Int)) = z % 256
  rw [Bool.false_and, if_neg (by decide)]
  rfl
theorem w16 {n : Nat} (h : n < 65536) : IntKind.u16.wrap (n : Int) = (n : Int) := by rw [wrap16]; omega
theorem shl1 (r : Nat) : IntKind.u16.wrap ((r : Int) * 2 ^ (min (1 : Int).toNat IntKind.u16.bits)) = ((2 * r % 65536 : Nat) : Int) := by
  rw [wrap16]
  show (r : Int) * 2 % 65536 = _
  omega
theorem shl8 {c : Nat} (hc : c < 256) : IntKind.u16.wrap ((c : Int) * 2 ^ (min (8 : Int).toNat IntKind.u16.bits)) = ((c * 256 : Nat) : Int) := by
  rw [wrap16]
  show (c : Int) * 256 % 65536 = _
  omega
theorem bv16 {a : Nat} (h : a < 65536) : (BitVec.ofInt IntKind.u16.bits (a : Int)).toNat = a := by
  show (BitVec.ofInt 16 (a : Int)).toNat = a
  rw [BitVec.toNat_ofInt]; omega
theorem xor16 {a b : Nat} (ha : a < 65536) (hb : b < 65536) : IntKind.u16.wrap ((BitVec.ofInt IntKind.u16.bits (a : Int) ^^^ BitVec.ofInt IntKind.u16.bits (b : Int)).toNat : Int) = ((a ^^^ b : Nat) : Int) := by
  rw [BitVec.toNat_xor, bv16 ha, bv16 hb]
  exact w16 (xor16_lt ha hb)

/-! ### The program -/
theorem w32 {H : List Blk} {R : Value → List Blk → Prop} {r : Nat} (hr : r < 65536) (h : R (.int .u16 (stepN r : Nat)) H) : ACall Tryz.prog 32 [.int .u16 (r : Int)] H R := by
  refine acall_vcg tok Tryz.call32 Tryz.func32 rfl Tryz.ntmps32 rfl (by simp) ?_
  refine And.intro (fun hc => ?_) (fun hc => ?_)
  · have hc : 32768 ≤ r := by simp at hc; omega
    refine ⟨by decide, ?_⟩
    refine ⟨(stepN r : Nat), ?_, h⟩
    rw [shl1]
    refine (xor16 (b := 4129) (Nat.mod_lt _ (by decide)) (by decide)).trans ?_
    rw [stepN, if_pos hc]
  · have hc : ¬ 32768 ≤ r := by simp at hc; omega
    refine ⟨by decide, ?_⟩
    show R (.int .u16 (IntKind.u16.wrap _)) H
    rw [shl1, Nat.mod_eq_of_lt (by omega)]
    rw [stepN, if_neg hc] at h
    exact h
abbrev stepV : Value := .func (.func 32) ⟨[]⟩ ⟨[]⟩
theorem w12 {H : List Blk} {R : Value → List Blk → Prop} {k c : Nat} {wr : Bool} {ys l : List Nat} (hk : bget H k = some (.cells wr 1 (bys ys))) (hys : ys.take l.length = l) (hl : l.length ≤ 1000000000) (hb : Bytes l)
    (h : R (.int .u16 (sumN l : Nat)) H) : ACall Tryz.prog 12 [.slice (some ⟨k, 0, none⟩) l.length c] H R := by
  have yg : ∀ {i : Nat} (hi : i < l.length), ys[i]? = some l[i] := fun {i} hi => by
    have h1 : (ys.take l.length)[i]? = some l[i] := by rw [hys]; simp [hi]
    rwa [List.getElem?_take_of_lt hi] at h1
  refine acall_vcg tok Tryz.call12 Tryz.func12 rfl Tryz.ntmps12 rfl (by simp) ?_
  refine vcg_loopR (α := Nat) tok (fun i => i ≤ l.length)
    (fun i => [(3, stepV), (4, .int .u16 (sumN (l.take i) : Nat)), (7, .slice (some ⟨k, 0, none⟩) l.length c), (8, .int .i64 (l.length : Int)), (9, .int .i64 (i : Int))]) (fun _ => H) (fun i => l.length - i) 0 (Nat.zero_le _) (Or.inl ⟨⟨rfl, rfl, rfl, rfl, rfl, trivial⟩, rfl⟩) ?_
  rintro i hi
  refine And.intro (fun hc => ?_) (fun hc => ?_)
  · have hlt : i < l.length := by simp at hc; omega
    have hx : l[i] < 256 := hb _ (List.getElem_mem hlt)
    have hs := sumN_lt (hb.take i)
    refine vops_gen (fun K0 hK0 => ?_)
    refine isCells_of hk ⟨i, rfl, hlt, ?_⟩
    refine rdCells_of hk (Ld_bys i l[i] (by simp) (yg hlt) ?_)
    refine hK0 _ _ ?_
    clear hK0 K0
    refine vops_gen (fun K0 hK0 => ?_)
    refine ⟨by decide, ?_⟩
    refine ⟨(sumN (l.take i) ^^^ (l[i] * 256) : Nat), ?_, ?_⟩
    · rw [w16 (by omega : l[i] < 65536), shl8 hx]
      exact xor16 hs (by omega)
    refine hK0 _ _ ?_
    clear hK0 K0
    refine vcg_loopR (α := Nat) tok (fun j => j ≤ 8)
      (fun j => [(3, stepV), (4, .int .u16 (stepsN j (sumN (l.take i) ^^^ (l[i] * 256)) : Nat)), (7, .slice (some ⟨k, 0, none⟩) l.length c), (8, .int .i64 (l.length : Int)), (9, .int .i64 (i : Int)), (18, .int .i64 (j : Int))]) (fun _ => H) (fun j => 8 - j) 0 (Nat.zero_le _) (Or.inl ⟨⟨rfl, rfl, rfl, rfl, rfl, rfl, trivial⟩, rfl⟩) ?_
    rintro j hj
    refine And.intro (fun hc => ?_) (fun hc => ?_)
    · have hlt : j < 8 := by simp at hc; omega
      refine vops_gen (fun K0 hK0 => ?_)
      refine w32 (stepsN_lt (xor16_lt hs (by omega)) j) ?_
      refine hK0 _ _ ?_
      clear hK0 K0
      refine Or.inl ⟨((j + 1 : Nat) : Int), by simp, by unfold I64; omega, ?_⟩
      exact ⟨j + 1, by omega, by omega, Or.inl ⟨⟨rfl, rfl, rfl, rfl, rfl, rfl, trivial⟩, rfl⟩⟩
    · have : j = 8 := by simp at hc; omega
      subst this
      refine Or.inl ⟨((i + 1 : Nat) : Int), by simp, by unfold I64; omega, ?_⟩
      exact ⟨i + 1, hlt, by omega, Or.inl ⟨⟨rfl, by rw [takeS hlt, sumN_snoc]; rfl, rfl, rfl, rfl, trivial⟩, rfl⟩⟩
  · have : i = l.length := by simp at hc; omega
    subst this
    rw [List.take_length]
    exact h
end Go.Af.Tryz
namespace Go.Af.Tryz
open Go Go.Proofs

section
variable {H0 H : List Blk} {o : Nat → Prop} {L : List (Bool × Nat × Blk)}
/-- Elements are appended to a row that has no room. -/
theorem appN_hs (h : HS H0 o L H) (i : Nat) {size bytes b n j o2 m c2 z : Nat} {wr : Bool} {xs ys us : List Value} {K : Value → List Blk → Prop} (hi : L[i]? = some (true, b, .cells true size xs)) (hsz : 0 < size) (hj : bget H j = some (.cells wr z ys)) (hys : (ys.drop o2).take (m * size) = us) (hm : 0 < m) (hml : o2 + m * size ≤ ys.length) (hone : us.all oneCellV = true)
    (hxl : xs.length = n * size) (hby : (n + m) * (bytes + 1) ≤ 70368744177664)
    (k : ∀ (H' : List Blk) (b' : Nat), b' = H.length → H'.length = b' + 1 → HS H0 o (L.set i (true, b', .cells true size (xs ++ us))) H' → K (.slice (some ⟨b', 0, none⟩) (n + m) (n + m)) H') :
    aAppend H size bytes (.slice (some ⟨b, 0, none⟩) n n) (.slice (some ⟨j, o2, none⟩) m c2) K := by
  refine ⟨hsz, ?_⟩
  simp only [appSrc, hj]
  refine ⟨.inr (by omega), us, hys, hone, ?_⟩
  refine .inr ⟨hm, ?_⟩
  have hb := h.get i hi
  have hbl := bget_lt hb
  simp only [hb]
  refine ⟨trivial, .inr ⟨by omega, hby, .inr (by omega), _, rfl, ?_⟩⟩
  have e : List.take (n * size) (List.drop 0 xs) ++ us = xs ++ us := by rw [List.drop_zero, List.take_of_length_le (by omega)]
  rw [e]
  refine set_of hbl fun H1 h1 h2 h3 => newS_of fun H' k1 k2 wk3 => ?_
  rw [h1] at k1 k2 wk3 ⊢
  refine k H' H.length rfl k1 ?_
  have hd := h.set (B' := .dead) i hi h1 h2 h3
  have hn := hd.new (B := .cells true size (xs ++ us)) (by rw [k1, h1]) (by rw [h1]; exact k2) (by rw [h1]; exact wk3)
  rw [h1] at hn
  have hlt : i < L.length := (List.getElem?_eq_some_iff.1 hi).1
  refine ⟨fun {p c d D} hp => ?_, fun {p q x y} hp hq he => ?_, hn.u⟩
  · by_cases hip : i = p
    · subst hip
      rw [List.getElem?_set_self hlt] at hp
      simp at hp
      obtain ⟨rfl, rfl, rfl⟩ := hp
      exact ⟨k2, fun _ => .inr h.le⟩
    · rw [List.getElem?_set_ne hip] at hp
      exact hn.g (i := p + 1) (by simp [List.getElem?_set_ne hip, hp])
  · have old : ∀ {p : Nat} {x : Bool × Nat × Blk}, p ≠ i → (L.set i (true, H.length, .cells true size (xs ++ us)))[p]? = some x → L[p]? = some x := fun {p x} hpi hp => by
      rw [List.getElem?_set_ne (fun e => hpi e.symm)] at hp; exact hp
    have self : ∀ {x : Bool × Nat × Blk}, (L.set i (true, H.length, .cells true size (xs ++ us)))[i]? = some x → x.2.1 = H.length := fun {x} hp => by
      rw [List.getElem?_set_self hlt] at hp; cases hp; rfl
    have low : ∀ {p : Nat} {x : Bool × Nat × Blk}, L[p]? = some x → x.2.1 < H.length := fun {p x} hp => by
      obtain ⟨c, b', B'⟩ := x
      exact bget_lt (h.g hp).1
    by_cases hpi : p = i
    · by_cases hqi : q = i
      · rw [hpi, hqi]
      · subst hpi
        have := low (old hqi hq)
        rw [← he, self hp] at this
        omega
    · by_cases hqi : q = i
      · subst hqi
        have := low (old hpi hp)
        rw [he, self hq] at this
        omega
      · exact h.nd (old hpi hp) (old hqi hq) he
end

/-- Nothing is appended. -/
theorem app_zero {H : List Blk} {size bytes b n k o c z : Nat} {wr : Bool} {vs : List Value} {K : Value → List Blk → Prop} (hsz : 0 < size) (hk : bget H k = some (.cells wr z vs)) (h : K (.slice (some ⟨b, 0, none⟩) n n) H) :
    aAppend H size bytes (.slice (some ⟨b, 0, none⟩) n n) (.slice (some ⟨k, o, none⟩) 0 c) K := by
  refine ⟨hsz, ?_⟩
  simp only [appSrc, hk]
  refine ⟨.inl trivial, [], by simp, ⟨rfl, .inl ⟨trivial, Nat.le_refl _, h⟩⟩⟩
/-- A row that has room is not nil. -/
theorem nil_no {H : List Blk} {X : Bool → Prop} {xo yo : Operand} {k n c z : Nat} {wr : Bool} {vs : List Value} (hk : bget H k = some (.cells wr z vs)) (h : X false) : aeq Tryz.prog T H 22 xo yo (.slice (some ⟨k, 0, none⟩) n (c + 1)) (.slice none 0 0) X := by
  cases n with
  | zero => show (match bget H k with | some (.cells _ _ _) => X false | _ => False); rw [hk]; exact h
  | succ n => show (match bget H k with | some (.cells _ _ _) => X false | _ => False); rw [hk]; exact h
attribute [local irreducible] awp ACall ACallX AYield AInvoke newSlice isCells rdCells wrCells aAppend rangeEnd roundBegin roundEnd
abbrev none' : Nat → Prop := fun _ => False
/-! ### Frames -/
def frameN (l : List Nat) : List Nat := l ++ [sumN l / 256, sumN l % 256]
def rightN (l : List Nat) : Bool := decide (2 ≤ l.length) && decide (frameN (l.take (l.length - 2)) = l)
theorem frameN_bytes {l : List Nat} (h : Bytes l) : Bytes (frameN l) := h.append (fun x hx => by
  have := sumN_lt h
  simp at hx
  rcases hx with rfl | rfl <;> omega)
@[simp] theorem frameN_length (l : List Nat) : (frameN l).length = l.length + 2 := by simp [frameN]

section
attribute [local irreducible] aeq
theorem w54 {H : List Blk} {R : Value → List Blk → Prop} {k n c : Nat} {wr : Bool} {ys l : List Nat} (hn : n = l.length) (hk : bget H k = some (.cells wr 1 (bys ys))) (hys : ys.take n = l) (hl : n ≤ 1000000000)
    (h : ∀ H' b, HS H none' [(true, b, .cells true 1 (bys l))] H' → R (.slice (some ⟨b, 0, none⟩) n n) H') : ACall Tryz.prog 54 [.slice (some ⟨k, 0, none⟩) n (c + 1)] H R := by
  have hly : n ≤ ys.length := by
    have := congrArg List.length hys
    rw [List.length_take] at this; omega
  refine acall_vcg tok Tryz.call54 Tryz.func54 rfl Tryz.ntmps54 rfl (by simp) ?_
  refine vops_gen (fun K0 hK0 => hK0 _ _ ?_)
  refine vops_gen (fun K0 hK0 => ?_)
  refine nil_no hk ?_
  refine hK0 _ _ ?_
  clear hK0 K0
  refine And.intro (fun h => absurd h (by decide)) (fun _ => ?_)
  refine vops_gen (fun K0 hK0 => ?_)
  refine And.intro (by decide) ?_
  refine newS_hs (HS.start H none') (fun H1 b e1 l1 hs1 => ?_)
  have hk1 : bget H1 k = some (.cells wr 1 (bys ys)) := (hs1.u.2 k (bget_lt hk) (fun h => h)).trans hk
  cases n with
  | zero =>
    have hl0 : l = [] := List.length_eq_zero_iff.1 hn.symm
    subst hl0
    refine And.intro rfl ?_
    refine app_zero (by decide) hk1 ?_
    refine hK0 _ _ ?_
    exact h H1 b hs1
  | succ n =>
    refine And.intro rfl ?_
    refine appN_hs hs1 0 (n := 0) (us := bys l) rfl (by decide) hk1 ?_ (Nat.succ_pos _) ?_ (bys_one l) rfl ?_ (fun H2 b2 e2 l2 hs2 => ?_)
    · rw [List.drop_zero, Nat.mul_one, bys_take, hys]
    · simp; omega
    · show (0 + (n + 1)) * (1 + 1) ≤ 70368744177664
      omega
    · refine hK0 _ _ ?_
      have h2 := h H2 b2 hs2
      rw [Nat.zero_add] 
      exact h2
end

theorem shr8 (s : Nat) : (s : Int).fdiv (2 ^ (min (8 : Int).toNat IntKind.u16.bits)) = ((s / 256 : Nat) : Int) := by
  show (s : Int).fdiv 256 = _
  rw [Int.fdiv_eq_ediv_of_nonneg _ (by decide)]
  omega
theorem cv8 {n : Nat} : IntKind.u8.wrap (n : Int) = ((n % 256 : Nat) : Int) := by rw [wrap8]; omega
theorem w34 {H : List Blk} {R : Value → List Blk → Prop} {k n c : Nat} {wr : Bool} {ys l : List Nat} (hn : n = l.length) (hk : bget H k = some (.cells wr 1 (bys ys))) (hys : ys.take n = l) (hl : n ≤ 100000000) (hb : Bytes l)
    (h : ∀ H' b, HS H none' [(true, b, .cells true 1 (bys (frameN l)))] H' → R (.slice (some ⟨b, 0, none⟩) (n + 2) (n + 2)) H') : ACall Tryz.prog 34 [.slice (some ⟨k, 0, none⟩) n (c + 1)] H R := by
  have hs := sumN_lt hb
  refine acall_vcg tok Tryz.call34 Tryz.func34 rfl Tryz.ntmps34 rfl (by simp) ?_
  refine vops_gen (fun K0 hK0 => hK0 _ _ ?_)
  refine vops_gen (fun K0 hK0 => ?_)
  subst hn
  refine w12 hk hys (by omega) hb ?_
  refine hK0 _ _ ?_
  clear hK0 K0
  refine vops_gen (fun K0 hK0 => ?_)
  refine w54 rfl hk hys (by omega) (fun H1 b hs1 => ?_)
  refine ⟨by decide, ((sumN l / 256 : Nat) : Int), shr8 _, ?_⟩
  refine And.intro (by decide) ?_
  refine newS_hs hs1 (fun H2 j e2 l2 hs2 => ?_)
  refine And.intro rfl ?_
  refine appN_hs hs2 1 (n := l.length) (o2 := 0) (m := 2) (us := bys [sumN l / 256, sumN l % 256]) rfl (by decide) (hs2.get 0 rfl) ?_ (by decide) ?_ (bys_one _) ?_ ?_ (fun H3 b3 e3 l3 hs3 => ?_)
  · show [Value.int .u8 (IntKind.u8.wrap ((sumN l / 256 : Nat) : Int)), Value.int .u8 (IntKind.u8.wrap ((sumN l : Nat) : Int))] = _
    rw [cv8, cv8, Nat.mod_eq_of_lt (by omega : sumN l / 256 < 256)]
    rfl
  · show 0 + 2 * 1 ≤ 2; decide
  · simp
  · show (l.length + 2) * (1 + 1) ≤ 70368744177664
    omega
  refine hK0 _ _ ?_
  have h3 : HS H none' [(true, b3, .cells true 1 (bys (frameN l)))] H3 := by
    have h4 := hs3.pick [1] (by decide) (L' := [(true, b3, .cells true 1 (bys l ++ bys [sumN l / 256, sumN l % 256]))]) rfl
    rwa [← bys_append] at h4
  exact h H3 b3 h3

theorem w33 {H : List Blk} {R : Value → List Blk → Prop} {k1 k2 n1 n2 c1 c2 : Nat} {w1 w2 : Bool} {y1 y2 l1 l2 : List Nat} (e1 : n1 = l1.length) (e2 : n2 = l2.length) (h1 : bget H k1 = some (.cells w1 1 (bys y1))) (hy1 : y1.take n1 = l1) (h2 : bget H k2 = some (.cells w2 1 (bys y2))) (hy2 : y2.take n2 = l2) (hl : n1 ≤ 1000000000)
    (h : R (.bool (decide (l1 = l2))) H) : ACall Tryz.prog 33 [.slice (some ⟨k1, 0, none⟩) n1 c1, .slice (some ⟨k2, 0, none⟩) n2 c2] H R := by
  subst e1; subst e2
  have yg1 : ∀ {i : Nat} (hi : i < l1.length), y1[i]? = some l1[i] := fun {i} hi => by
    have h1 : (y1.take l1.length)[i]? = some l1[i] := by rw [hy1]; simp [hi]
    rwa [List.getElem?_take_of_lt hi] at h1
  have yg2 : ∀ {i : Nat} (hi : i < l2.length), y2[i]? = some l2[i] := fun {i} hi => by
    have h1 : (y2.take l2.length)[i]? = some l2[i] := by rw [hy2]; simp [hi]
    rwa [List.getElem?_take_of_lt hi] at h1
  refine acall_vcg tok Tryz.call33 Tryz.func33 rfl Tryz.ntmps33 rfl (by simp) ?_
  refine vops_gen (fun K0 hK0 => hK0 _ _ ?_)
  refine And.intro (fun hc => ?_) (fun hc => ?_)
  · have hne : l1.length ≠ l2.length := by simp at hc; omega
    have e : decide (l1 = l2) = false := decide_eq_false (fun e => hne (by rw [e]))
    rw [e] at h
    exact h
  · have hlen : l1.length = l2.length := by simp at hc; omega
    refine vcg_loopR (α := Nat) tok (fun i => i ≤ l1.length ∧ l1.take i = l2.take i)
      (fun i => [(0, .slice (some ⟨k1, 0, none⟩) l1.length c1), (1, .slice (some ⟨k2, 0, none⟩) l2.length c2), (12, .int .i64 (l1.length : Int)), (13, .int .i64 (i : Int))]) (fun _ => H) (fun i => l1.length - i) 0 ⟨Nat.zero_le _, rfl⟩ (Or.inl ⟨⟨rfl, rfl, rfl, rfl, trivial⟩, rfl⟩) ?_
    rintro i ⟨hi, hp⟩
    refine And.intro (fun hc => ?_) (fun hc => ?_)
    · have hlt : i < l1.length := by simp at hc; omega
      have hlt2 : i < l2.length := by omega
      refine vops_gen (fun K0 hK0 => hK0 _ _ ?_)
      refine vcg_draw tok mx [0, 0, 3, 7, 0, 0, 48, 112, 255] [false, false, false, false, true, true, true, true, false] [0, 1, 2, 3, 4, 5, 6, 7, 8] (by kernel_rfl) ?_
      refine vopsO_gen (fun K0 hK0 => ?_)
      refine isCells_of h1 ⟨i, rfl, hlt, ?_⟩
      refine rdCells_of h1 (Ld_bys i l1[i] (by simp) (yg1 hlt) ?_)
      refine isCells_of h2 ⟨i, rfl, hlt2, ?_⟩
      refine rdCells_of h2 (Ld_bys i l2[i] (by simp) (yg2 hlt2) ?_)
      refine hK0 _ _ ?_
      clear hK0 K0
      refine And.intro (fun hc => ?_) (fun hc => ?_)
      · have hne : l1[i] ≠ l2[i] := by simp at hc; omega
        have e : decide (l1 = l2) = false := decide_eq_false (fun e => hne (by subst e; rfl))
        rw [e] at h
        exact h
      · have he : l1[i] = l2[i] := by simp at hc; omega
        refine Or.inl ⟨((i + 1 : Nat) : Int), by simp, by unfold I64; omega, ?_⟩
        exact ⟨i + 1, ⟨hlt, by rw [takeS hlt, takeS hlt2, hp, he]⟩, by omega, Or.inl ⟨⟨rfl, rfl, rfl, rfl, trivial⟩, rfl⟩⟩
    · have : i = l1.length := by simp at hc; omega
      subst this
      have e : l1 = l2 := by rw [List.take_length, hlen, List.take_length] at hp; exact hp
      rw [decide_eq_true e] at h
      exact h

theorem rightN_short {l : List Nat} (h : l.length < 2) : rightN l = false := by simp [rightN]; omega
theorem rightN_long {l : List Nat} (h : 2 ≤ l.length) : rightN l = decide (frameN (l.take (l.length - 2)) = l) := by simp [rightN, h]
theorem w14 {H : List Blk} {R : Value → List Blk → Prop} {k n c : Nat} {wr : Bool} {ys l : List Nat} (hn : n = l.length) (hc : n ≤ c) (hk : bget H k = some (.cells wr 1 (bys ys))) (hys : ys.take n = l) (hl : n ≤ 100000000) (hb : Bytes l)
    (h : ∀ H', HS H none' [] H' → R (.bool (rightN l)) H') : ACall Tryz.prog 14 [.slice (some ⟨k, 0, none⟩) n c] H R := by
  refine acall_vcg tok Tryz.call14 Tryz.func14 rfl Tryz.ntmps14 rfl (by simp) ?_
  refine vops_gen (fun K0 hK0 => hK0 _ _ ?_)
  refine Or.inl ⟨(n : Int) - 2, rfl, by unfold I64; omega, ?_⟩
  rcases Nat.lt_or_ge n 2 with h2 | h2
  · have e : decide ((0 : Int) ≤ (n : Int) - 2) = false := decide_eq_false (by omega)
    rw [rightN_short (by omega)] at h
    have h := h H (HS.start H none')
    refine vops_gen (fun K0 hK0 => hK0 _ _ ?_)
    refine vops_gen (fun K0 hK0 => ?_)
    refine And.intro (fun h => absurd (e.symm.trans h) (by decide)) (fun _ => ?_)
    refine And.intro (fun h => absurd h (by decide)) (fun _ => ?_)
    refine And.intro (fun h => absurd h (by decide)) (fun _ => ?_)
    refine And.intro (fun h => absurd h (by decide)) (fun _ => ?_)
    refine And.intro (fun h => absurd h (by decide)) (fun _ => ?_)
    refine And.intro (fun h => absurd h (by decide)) (fun _ => ?_)
    refine hK0 _ _ ?_
    exact h
  · have e : decide ((0 : Int) ≤ (n : Int) - 2) = true := decide_eq_true (by omega)
    obtain ⟨c, rfl⟩ : ∃ c', c = c' + 1 := ⟨c - 1, by omega⟩
    have hly : n ≤ ys.length := by
      have := congrArg List.length hys
      rw [List.length_take] at this; omega
    have hys2 : ys.take (n - 2) = l.take (n - 2) := by rw [← hys, List.take_take, Nat.min_eq_left (by omega)]
    refine vops_gen (fun K0 hK0 => hK0 _ _ ?_)
    refine vops_gen (fun K0 hK0 => ?_)
    refine And.intro (fun _ => ?_) (fun h => absurd (e.symm.trans h) (by decide))
    refine And.intro (fun _ => ?_) (fun h => absurd h (by decide))
    refine And.intro (fun _ => ?_) (fun h => absurd h (by decide))
    refine rdCells_of hk ?_
    refine ⟨rfl, n - 2, by omega, ⟨Nat.zero_le _, by omega⟩, ?_⟩
    refine And.intro (fun _ => ?_) (fun h => absurd h (by decide))
    refine (?_ : ACall Tryz.prog 34 [.slice (some ⟨k, 0, none⟩) (n - 2) (c + 1)] _ _)
    refine w34 (l := l.take (n - 2)) (by rw [List.length_take]; omega) hk hys2 (by omega) (hb.take _) (fun H1 b hs1 => ?_)
    have hk1 : bget H1 k = some (.cells wr 1 (bys ys)) := (hs1.u.2 k (bget_lt hk) (fun h => h)).trans hk
    refine And.intro (fun _ => ?_) (fun h => absurd h (by decide))
    refine And.intro (fun _ => ?_) (fun h => absurd h (by decide))
    refine w33 (n1 := n - 2 + 2) (n2 := n) (l1 := frameN (l.take (n - 2))) (l2 := l) (by rw [frameN_length, List.length_take]; omega) hn (hs1.get 0 rfl) ?_ hk1 hys (by omega) ?_
    · rw [List.take_of_length_le]; rw [frameN_length, List.length_take]; omega
    refine hK0 _ _ ?_
    have h := h H1 (hs1.pick [] (by decide) rfl)
    rw [rightN_long (by omega), ← hn] at h
    exact h
end Go.Af.Tryz
namespace Go.Af.Tryz
open Go Go.Proofs
attribute [local irreducible] awp ACall ACallX AYield AInvoke newSlice isCells rdCells wrCells aAppend rangeEnd roundBegin roundEnd

end Go.Af.Tryz
namespace Go.Af.Tryz
open Go Go.Proofs
attribute [local irreducible] awp ACall ACallX AYield AInvoke newSlice isCells rdCells wrCells aAppend rangeEnd roundBegin roundEnd

theorem rightN_sum {l : List Nat} {n : Nat} (hn : n = l.length) (h2 : 2 ≤ n) (hb : Bytes l) : rightN l = decide (sumN (l.take (n - 2)) = l[n - 2]! * 256 + l[n - 1]!) := by
  subst hn
  have hs := sumN_lt (hb.take (l.length - 2))
  generalize hp : l.take (l.length - 2) = p at hs
  have hl : l = p ++ [l[l.length - 2]!, l[l.length - 1]!] := by
    rw [getElem!_pos l _ (by omega), getElem!_pos l _ (by omega), ← hp]
    have e1 := List.take_append_drop (l.length - 2) l
    rw [List.drop_eq_getElem_cons (by omega), List.drop_eq_getElem_cons (by omega)] at e1
    rw [List.drop_of_length_le (by omega)] at e1
    have e3 : l.length - 2 + 1 = l.length - 1 := by omega
    simp only [e3] at e1
    exact e1.symm
  have ha : l[l.length - 2]! < 256 := by rw [getElem!_pos l _ (by omega)]; exact hb _ (List.getElem_mem _)
  have hb' : l[l.length - 1]! < 256 := by rw [getElem!_pos l _ (by omega)]; exact hb _ (List.getElem_mem _)
  rw [rightN_long h2, hp]
  generalize l[l.length - 2]! = a at *
  generalize l[l.length - 1]! = b at *
  rw [decide_eq_decide]
  conv => lhs; rw [hl]
  rw [frameN]
  constructor
  · intro h
    have h := List.append_cancel_left h
    simp at h; omega
  · intro h
    rw [show sumN p / 256 = a by omega, show sumN p % 256 = b by omega]
end Go.Af.Tryz
namespace Go.Af.Tryz
open Go Go.Proofs
attribute [local irreducible] awp ACall ACallX AYield AInvoke newSlice isCells rdCells wrCells aAppend rangeEnd roundBegin roundEnd

theorem rightN_frame (l : List Nat) : rightN (frameN l) = true := by
  rw [rightN_long (by simp)]
  rw [frameN_length, Nat.add_sub_cancel]
  rw [show (frameN l).take l.length = l from by rw [frameN, List.take_left]]
  simp
end Go.Af.Tryz
namespace Go.Af.Tryz
open Go Go.Proofs
attribute [local irreducible] awp ACall ACallX AYield AInvoke newSlice isCells rdCells wrCells aAppend rangeEnd roundBegin roundEnd

end Go.Af.Tryz
namespace Go.Af.Tryz
open Go Go.Proofs
attribute [local irreducible] awp ACall ACallX AYield AInvoke newSlice isCells rdCells wrCells aAppend rangeEnd roundBegin roundEnd

end Go.Af.Tryz
namespace Go.Af.Tryz
open Go Go.Proofs

/-! ### A step, as a sum of bits -/
def topN (r : Nat) : Nat := if r.testBit 15 then 69665 else 0
theorem tb_top {r : Nat} (h : r < 65536) : r.testBit 15 = decide (32768 ≤ r) := by
  have : r.testBit 15 = decide ((r / 2 ^ 15) % 2 = 1) := Nat.testBit_eq_decide_div_mod_eq
  rw [this, decide_eq_decide]
  omega
theorem tb_big {x : Nat} (h1 : 65536 ≤ x) (h2 : x < 131072) : 65536 ^^^ (x % 65536) = x := by
  apply Nat.eq_of_testBit_eq
  intro i
  rw [Nat.testBit_xor, show (65536 : Nat) = 2 ^ 16 by rfl, Nat.testBit_mod_two_pow, Nat.testBit_two_pow]
  rcases Nat.lt_trichotomy i 16 with h | h | h
  · simp [h, show ¬ 16 = i by omega]
  · subst h
    have : x.testBit 16 = decide ((x / 2 ^ 16) % 2 = 1) := Nat.testBit_eq_decide_div_mod_eq
    rw [this, show x / 2 ^ 16 = 1 by omega]
    simp
  · have : x.testBit i = false := Nat.testBit_lt_two_pow (Nat.lt_of_lt_of_le h2 (show 131072 ≤ 2 ^ i from Nat.le_trans (by decide) (Nat.pow_le_pow_right (by decide) (show 17 ≤ i by omega))))
    simp [this, show ¬ i < 16 by omega, show ¬ 16 = i by omega]
theorem stepN_eq {r : Nat} (h : r < 65536) : stepN r = (2 * r) ^^^ topN r := by
  unfold stepN topN
  rw [tb_top h]
  by_cases hr : 32768 ≤ r
  · rw [if_pos hr, if_pos (by simpa using hr)]
    have := tb_big (x := 2 * r) (by omega) (by omega)
    conv => rhs; rw [← this]
    rw [Nat.xor_comm 65536, Nat.xor_assoc]
    rfl
  · rw [if_neg hr, if_neg (by simpa using hr), Nat.xor_zero]
theorem two_xor (a b : Nat) : 2 * (a ^^^ b) = (2 * a) ^^^ (2 * b) := by
  have e : ∀ n : Nat, 2 * n = n <<< 1 := fun n => by rw [Nat.shiftLeft_eq]; omega
  rw [e, e, e, Nat.shiftLeft_xor_distrib]
theorem stepN_xor {a b : Nat} (ha : a < 65536) (hb : b < 65536) : stepN (a ^^^ b) = stepN a ^^^ stepN b := by
  rw [stepN_eq ha, stepN_eq hb, stepN_eq (xor16_lt ha hb), two_xor]
  have : topN (a ^^^ b) = topN a ^^^ topN b := by
    unfold topN
    rw [Nat.testBit_xor]
    cases a.testBit 15 <;> cases b.testBit 15 <;> simp
  rw [this]
  simp only [Nat.xor_assoc]
  congr 1
  rw [← Nat.xor_assoc, Nat.xor_comm (2 * b), Nat.xor_assoc]
theorem stepsN_xor {a b : Nat} (ha : a < 65536) (hb : b < 65536) : ∀ n, stepsN n (a ^^^ b) = stepsN n a ^^^ stepsN n b
  | 0 => rfl
  | n + 1 => by
    show stepN (stepsN n (a ^^^ b)) = stepN (stepsN n a) ^^^ stepN (stepsN n b)
    rw [stepsN_xor ha hb n, stepN_xor (stepsN_lt ha n) (stepsN_lt hb n)]
theorem stepN_zero {r : Nat} (h : r < 65536) (h0 : stepN r = 0) : r = 0 := by
  rw [stepN_eq h] at h0
  unfold topN at h0
  split at h0
  · have e : 2 * r = 69665 := by
      have := congrArg (· ^^^ 69665) h0
      simpa [Nat.xor_assoc] using this
    omega
  · rw [Nat.xor_zero] at h0; omega
theorem stepsN_zero {r : Nat} (h : r < 65536) : ∀ {n}, stepsN n r = 0 → r = 0
  | 0, h0 => h0
  | n + 1, h0 => stepsN_zero h (n := n) (stepN_zero (stepsN_lt h n) h0)
theorem stepsN_add (r : Nat) (a : Nat) : ∀ b, stepsN b (stepsN a r) = stepsN (a + b) r
  | 0 => rfl
  | b + 1 => congrArg stepN (stepsN_add r a b)
theorem xor_zero_iff {a b : Nat} (h : a ^^^ b = 0) : a = b := by
  have := congrArg (· ^^^ b) h
  simpa [Nat.xor_assoc] using this
theorem stepsN_inj {a b : Nat} (ha : a < 65536) (hb : b < 65536) {n : Nat} (h : stepsN n a = stepsN n b) : a = b := by
  apply xor_zero_iff
  refine stepsN_zero (xor16_lt ha hb) (n := n) ?_
  rw [stepsN_xor ha hb, h, Nat.xor_self]
/-- Small numbers are only moved. -/
theorem stepsN_small {r m : Nat} : ∀ {n : Nat}, r * 2 ^ n < 65536 → stepsN n r = r * 2 ^ n
  | 0, _ => by show r = r * 1; omega
  | n + 1, h => by
    rw [Nat.pow_succ, ← Nat.mul_assoc] at h
    show stepN (stepsN n r) = _
    rw [stepsN_small (n := n) (m := m) (by omega), stepN, if_neg (by omega), Nat.pow_succ, Nat.mul_comm 2, Nat.mul_assoc]
/-- The effect of one bit. -/
def pw (e : Nat) : Nat := stepsN e 1
/-! ### Sums of rows -/
theorem byteN_xor {r s c d : Nat} (hr : r < 65536) (hs : s < 65536) (hc : c < 256) (hd : d < 256) : byteN (r ^^^ s) (c ^^^ d) = byteN r c ^^^ byteN s d := by
  unfold byteN
  have e : (c ^^^ d) * 256 = (c * 256) ^^^ (d * 256) := by
    have e8 : ∀ n : Nat, n * 256 = n <<< 8 := fun n => by rw [Nat.shiftLeft_eq]
    rw [e8, e8, e8, Nat.shiftLeft_xor_distrib]
  rw [e]
  have : r ^^^ s ^^^ (c * 256 ^^^ d * 256) = (r ^^^ c * 256) ^^^ (s ^^^ d * 256) := by
    simp only [Nat.xor_assoc]; congr 1
    rw [← Nat.xor_assoc, Nat.xor_comm s, Nat.xor_assoc]
  rw [this]
  exact stepsN_xor (xor16_lt hr (by omega)) (xor16_lt hs (by omega)) 8
/-- Zeros behind. -/
theorem fold_zero {r : Nat} : ∀ (n : Nat), (List.replicate n 0).foldl byteN r = stepsN (8 * n) r
  | 0 => rfl
  | n + 1 => by
    rw [List.replicate_succ', List.foldl_append, fold_zero n, List.foldl_cons, List.foldl_nil]
    unfold byteN
    rw [Nat.zero_mul, Nat.xor_zero, stepsN_add, Nat.mul_succ]
theorem fold_xor : ∀ {l d : List Nat} (_ : Bytes l) (_ : Bytes d) (_ : d.length = l.length) {r s : Nat} (_ : r < 65536) (_ : s < 65536), (List.zipWith (· ^^^ ·) l d).foldl byteN (r ^^^ s) = l.foldl byteN r ^^^ d.foldl byteN s
  | [], [], _, _, _, r, s, _, _ => rfl
  | x :: l, y :: d, hl, hd, he, r, s, hr, hs => by
    have hx := hl x List.mem_cons_self
    have hy := hd y List.mem_cons_self
    simp only [List.zipWith_cons_cons, List.foldl_cons]
    rw [byteN_xor hr hs hx hy]
    exact fold_xor (fun z hz => hl z (List.mem_cons_of_mem _ hz)) (fun z hz => hd z (List.mem_cons_of_mem _ hz)) (by simpa using he) (byteN_lt hr hx) (byteN_lt hs hy)

/-! ### One bit -/
def flipN (l : List Nat) (k : Nat) : List Nat := l.set (k / 8) (l[k / 8]! ^^^ 2 ^ (k % 8))
@[simp] theorem flipN_length (l : List Nat) (k : Nat) : (flipN l k).length = l.length := by simp [flipN]
theorem two_lt {q : Nat} (h : q < 8) : 2 ^ q < 256 := Nat.lt_of_lt_of_le (Nat.pow_lt_pow_right (by decide) h) (by decide)
theorem xor8_lt {a b : Nat} (ha : a < 256) (hb : b < 256) : a ^^^ b < 256 := Nat.xor_lt_two_pow (n := 8) ha hb
theorem flipN_bytes {l : List Nat} (h : Bytes l) (k : Nat) (hk : k < 8 * l.length) : Bytes (flipN l k) := by
  intro x hx
  rcases List.mem_or_eq_of_mem_set hx with hx | rfl
  · exact h x hx
  · rw [getElem!_pos l _ (by omega)]
    exact xor8_lt (h _ (List.getElem_mem _)) (two_lt (Nat.mod_lt _ (by decide)))
theorem zip_zero : ∀ (l : List Nat) (n : Nat), n = l.length → List.zipWith (· ^^^ ·) l (List.replicate n 0) = l
  | [], _, h => by subst h; rfl
  | x :: l, _, h => by
    subst h
    rw [List.length_cons, List.replicate_succ, List.zipWith_cons_cons, zip_zero l _ rfl, Nat.xor_zero]
theorem zip_one : ∀ (l : List Nat) (i y : Nat), i < l.length → List.zipWith (· ^^^ ·) l (List.replicate i 0 ++ y :: List.replicate (l.length - 1 - i) 0) = l.set i (l[i]! ^^^ y)
  | [], i, y, h => by simp at h
  | x :: l, 0, y, h => by
    rw [List.replicate_zero, List.nil_append, List.zipWith_cons_cons, zip_zero l _ (by simp)]
    rfl
  | x :: l, i + 1, y, h => by
    have h' : i < l.length := by simpa using h
    rw [List.replicate_succ, List.cons_append, List.zipWith_cons_cons, Nat.xor_zero]
    rw [show (x :: l).length - 1 - (i + 1) = l.length - 1 - i by simp; omega, zip_one l i y h']
    simp
theorem Bytes.zeros (n : Nat) : Bytes (List.replicate n 0) := fun x hx => by rw [(List.mem_replicate.1 hx).2]; decide
theorem sumN_flip {l : List Nat} (hb : Bytes l) {k : Nat} (hk : k < 8 * l.length) : sumN (flipN l k) = sumN l ^^^ pw (8 * (l.length - k / 8) + 8 + k % 8) := by
  have hi : k / 8 < l.length := by omega
  have hq : k % 8 < 8 := Nat.mod_lt _ (by decide)
  unfold flipN
  generalize k / 8 = i at hi ⊢
  generalize k % 8 = q at hq ⊢
  have hd : Bytes (List.replicate i 0 ++ 2 ^ q :: List.replicate (l.length - 1 - i) 0) := (Bytes.zeros i).append (fun x hx => by
    rcases List.mem_cons.1 hx with rfl | hx
    · exact two_lt hq
    · exact Bytes.zeros _ x hx)
  have e := fold_xor hb hd (by simp; omega) (r := 65535) (s := 0) (by decide) (by decide)
  rw [zip_one l i _ hi, Nat.xor_zero] at e
  unfold sumN
  rw [e, List.foldl_append, fold_zero, List.foldl_cons, fold_zero]
  congr 1
  have z : stepsN (8 * i) 0 = 0 := by rw [stepsN_small (m := 0) (by omega)]; omega
  rw [z]
  unfold byteN
  rw [Nat.zero_xor]
  have e2 : 2 ^ q * 256 = pw (8 + q) := by
    unfold pw
    rw [stepsN_small (m := 0), Nat.one_mul, Nat.pow_add]
    · omega
    · rw [Nat.one_mul]
      exact Nat.lt_of_lt_of_le (Nat.pow_lt_pow_right (by decide) (show 8 + q < 16 by omega)) (by decide)
  rw [e2]
  unfold pw
  rw [stepsN_add, stepsN_add]
  congr 1
  omega

/-! ### A frame's own sum -/
theorem mul_xor {a b : Nat} (hb : b < 256) : a * 256 ^^^ b = a * 256 + b := by
  apply Nat.eq_of_testBit_eq
  intro i
  rw [Nat.testBit_xor, Nat.mul_comm a 256, show (256 : Nat) = 2 ^ 8 by rfl, Nat.testBit_two_pow_mul, Nat.testBit_two_pow_mul_add _ hb]
  by_cases h : i < 8
  · simp [h, show ¬ 8 ≤ i by omega]
  · have : b.testBit i = false := Nat.testBit_lt_two_pow (Nat.lt_of_lt_of_le hb (show 2 ^ 8 ≤ 2 ^ i from Nat.pow_le_pow_right (by decide) (by omega)))
    simp [h, this, show 8 ≤ i by omega]
theorem sumN_app (p : List Nat) (a b : Nat) (hp : Bytes p) (ha : a < 256) (hb : b < 256) : sumN (p ++ [a, b]) = stepsN 16 (sumN p ^^^ (a * 256 + b)) := by
  have hs := sumN_lt hp
  have e : sumN (p ++ [a, b]) = byteN (byteN (sumN p) a) b := by simp [sumN]
  rw [e]
  unfold byteN
  have eb : b * 256 = stepsN 8 b := by rw [stepsN_small (m := 0) (by omega)]
  rw [eb, ← stepsN_xor (xor16_lt hs (by omega)) (by omega) 8, stepsN_add, Nat.xor_assoc, mul_xor hb]
theorem rightN_zero {l : List Nat} (hb : Bytes l) (h2 : 2 ≤ l.length) : rightN l = decide (sumN l = 0) := by
  rw [rightN_sum rfl h2 hb]
  have ha : l[l.length - 2]! < 256 := by rw [getElem!_pos l _ (by omega)]; exact hb _ (List.getElem_mem _)
  have hb' : l[l.length - 1]! < 256 := by rw [getElem!_pos l _ (by omega)]; exact hb _ (List.getElem_mem _)
  have hl : l = l.take (l.length - 2) ++ [l[l.length - 2]!, l[l.length - 1]!] := by
    rw [getElem!_pos l _ (by omega), getElem!_pos l _ (by omega)]
    have e1 := List.take_append_drop (l.length - 2) l
    rw [List.drop_eq_getElem_cons (by omega), List.drop_eq_getElem_cons (by omega)] at e1
    rw [List.drop_of_length_le (by omega)] at e1
    have e3 : l.length - 2 + 1 = l.length - 1 := by omega
    simp only [e3] at e1
    exact e1.symm
  have hp := hb.take (l.length - 2)
  have hs := sumN_lt hp
  have e : sumN l = stepsN 16 (sumN (l.take (l.length - 2)) ^^^ (l[l.length - 2]! * 256 + l[l.length - 1]!)) := by
    conv => lhs; rw [hl]
    exact sumN_app _ _ _ hp ha hb'
  rw [e, decide_eq_decide]
  constructor
  · intro h
    rw [h, Nat.xor_self]; decide
  · intro h
    exact xor_zero_iff (stepsN_zero (xor16_lt hs (by omega)) h)

/-! ### Parity -/
def parN : Nat → Nat → Bool
  | 0, _ => false
  | k + 1, n => xor (n.testBit k) (parN k n)
theorem parN_xor (a b : Nat) : ∀ k, parN k (a ^^^ b) = xor (parN k a) (parN k b)
  | 0 => rfl
  | k + 1 => by
    simp only [parN, Nat.testBit_xor, parN_xor a b k]
    cases a.testBit k <;> cases b.testBit k <;> cases parN k a <;> cases parN k b <;> rfl
theorem parN_two (r : Nat) : ∀ k, parN (k + 1) (2 * r) = parN k r
  | 0 => by simp [parN]
  | k + 1 => by
    show xor ((2 * r).testBit (k + 1)) (parN (k + 1) (2 * r)) = xor (r.testBit k) (parN k r)
    rw [parN_two r k, Nat.testBit_succ, Nat.mul_div_cancel_left _ (by decide)]
theorem parN_step {r : Nat} (h : r < 65536) : parN 17 (stepN r) = parN 17 r := by
  have h17 : parN 17 r = parN 16 r := by
    show xor (r.testBit 16) (parN 16 r) = _
    rw [Nat.testBit_lt_two_pow (show r < 2 ^ 16 from h)]; simp
  rw [stepN_eq h, parN_xor, parN_two r 16, h17]
  have : parN 17 (topN r) = false := by
    unfold topN
    split <;> decide
  rw [this]; simp
theorem parN_steps {r : Nat} (h : r < 65536) : ∀ n, parN 17 (stepsN n r) = parN 17 r
  | 0 => rfl
  | n + 1 => (parN_step (stepsN_lt h n)).trans (parN_steps h n)
theorem parN_pw (e : Nat) : parN 17 (pw e) = true := (parN_steps (by decide) e).trans (by decide)

/-! ### Inverted bits are seen -/
theorem pw_ne {e : Nat} : pw e ≠ 0 := fun h => by
  have := parN_pw e
  rw [h] at this; revert this; decide
theorem pw_ne3 (a b c : Nat) : pw a ^^^ pw b ^^^ pw c ≠ 0 := fun h => by
  have := congrArg (parN 17) h
  rw [parN_xor, parN_xor, parN_pw, parN_pw, parN_pw] at this
  revert this; decide
def pwAll : Nat → Nat → Bool
  | 0, _ => true
  | n + 1, r => !(Nat.beq r 1) && pwAll n (stepN r)
theorem pwAll_spec : ∀ {n r : Nat}, pwAll n r = true → ∀ k, k < n → stepsN k r ≠ 1
  | n + 1, r, h, k, hk => by
    simp only [pwAll, Bool.and_eq_true, Bool.not_eq_true'] at h
    cases k with
    | zero => intro e; have e : r = 1 := e; subst e; exact absurd h.1 (by decide)
    | succ k =>
      have := pwAll_spec h.2 k (by omega)
      have e : stepsN k (stepN r) = stepsN (k + 1) r := by
        have := stepsN_add r 1 k
        rw [Nat.add_comm 1 k] at this
        exact this
      rwa [e] at this
theorem pw_one : pwAll 600 2 = true := by decide +kernel
theorem pw_inj {a b : Nat} (hab : a < b) (hb : b ≤ 600) : pw a ≠ pw b := fun h => by
  have e : pw b = stepsN a (stepsN (b - a) 1) := by
    rw [stepsN_add]; unfold pw; congr 1; omega
  rw [e] at h
  have h1 := stepsN_inj (by decide) (stepsN_lt (by decide) _) h
  have h2 := pwAll_spec pw_one (b - a - 1) (by omega)
  have e2 : stepsN (b - a - 1) 2 = stepsN (b - a) 1 := by
    have e3 : (2 : Nat) = stepsN 1 1 := by decide
    rw [e3, stepsN_add]; congr 1; omega
  rw [e2] at h2
  exact h2 h1.symm
theorem pw_ne2 {a b : Nat} (hab : a ≠ b) (ha : a ≤ 600) (hb : b ≤ 600) : pw a ^^^ pw b ≠ 0 := fun h => by
  have h := xor_zero_iff h
  rcases Nat.lt_or_gt_of_ne hab with h1 | h1
  · exact pw_inj h1 hb h
  · exact pw_inj h1 ha h.symm
/-- The place of a bit, as a power. -/
def exN (n k : Nat) : Nat := 8 * (n - k / 8) + 8 + k % 8
theorem exN_inj {n a b : Nat} (ha : a < 8 * n) (hb : b < 8 * n) (h : a ≠ b) : exN n a ≠ exN n b := by
  unfold exN; omega
theorem exN_le {n a : Nat} (hn : n ≤ 66) : exN n a ≤ 600 := by unfold exN; omega
end Go.Af.Tryz
namespace Go.Af.Tryz
open Go Go.Proofs
attribute [local irreducible] awp ACall ACallX AYield AInvoke newSlice isCells rdCells wrCells aAppend rangeEnd roundBegin roundEnd

/-- Bits of a frame, inverted one by one. -/
def flipsN (l : List Nat) (ks : List Nat) : List Nat := ks.foldl flipN l
theorem set_same {α : Type} {L : List α} {i : Nat} {x : α} (h : L[i]? = some x) : L.set i x = L := by
  obtain ⟨hlt, he⟩ := List.getElem?_eq_some_iff.1 h
  rw [← he, List.set_getElem_self]
theorem copyL {H0 H : List Blk} {o : Nat → Prop} {L : List (Bool × Nat × Blk)} (hs : HS H0 o L H) (i : Nat) {b k n c : Nat} {wr : Bool} {ys l : List Nat} {K : Value → List Blk → Prop} (hi : L[i]? = some (true, b, .cells true 1 [])) (hn : n = l.length) (hk : bget H k = some (.cells wr 1 (bys ys))) (hys : ys.take n = l) (hly : n ≤ ys.length) (hl : n ≤ 1000000000)
    (h : ∀ H' b', HS H0 o (L.set i (true, b', .cells true 1 (bys l))) H' → K (.slice (some ⟨b', 0, none⟩) n n) H') : aAppend H 1 1 (.slice (some ⟨b, 0, none⟩) 0 0) (.slice (some ⟨k, 0, none⟩) n c) K := by
  cases n with
  | zero =>
    have hl0 : l = [] := List.length_eq_zero_iff.1 hn.symm
    subst hl0
    refine app_zero (by decide) hk (h H b ?_)
    have := set_same hi
    show HS H0 o (L.set i (true, b, .cells true 1 [])) H
    rw [this]; exact hs
  | succ n =>
    refine appN_hs hs i (n := 0) (us := bys l) hi (by decide) hk ?_ (Nat.succ_pos _) ?_ (bys_one l) rfl (by omega) (fun H2 b2 e2 l2 hs2 => ?_)
    · rw [List.drop_zero, Nat.mul_one, bys_take, hys]
    · simp; omega
    · rw [Nat.zero_add]; exact h H2 b2 hs2
theorem hs_none {H0 H H' : List Blk} {o : Nat → Prop} {L : List (Bool × Nat × Blk)} (hs : HS H0 o L H) (h : HS H none' [] H') : HS H0 o L H' := hs.ext h.u.1 (fun i hi => h.u.2 i hi (fun h => h))
theorem flipsN_cons (l : List Nat) (k : Nat) (ks : List Nat) : flipsN l (k :: ks) = flipsN (flipN l k) ks := by rw [flipsN, List.foldl_cons, ← flipsN]
theorem flipsN_snoc (l : List Nat) (k : Nat) (ks : List Nat) : flipsN l (ks ++ [k]) = flipN (flipsN l ks) k := by rw [flipsN, List.foldl_append, List.foldl_cons, List.foldl_nil, ← flipsN]
theorem flipsN_nil (l : List Nat) : flipsN l [] = l := by rw [flipsN, List.foldl_nil]
theorem flipsN_bytes : ∀ {ks l : List Nat}, Bytes l → (∀ k ∈ ks, k < 8 * l.length) → Bytes (flipsN l ks) ∧ (flipsN l ks).length = l.length
  | [], l, hb, _ => by rw [flipsN_nil]; exact ⟨hb, rfl⟩
  | k :: ks, l, hb, hk => by
    have := flipsN_bytes (ks := ks) (flipN_bytes hb k (hk k List.mem_cons_self)) (fun q hq => by rw [flipN_length]; exact hk q (List.mem_cons_of_mem _ hq))
    rw [flipN_length] at this
    rw [flipsN_cons]
    exact this
theorem sumN_flips : ∀ {ks l : List Nat}, Bytes l → (∀ k ∈ ks, k < 8 * l.length) → sumN (flipsN l ks) = ks.foldl (fun s k => s ^^^ pw (exN l.length k)) (sumN l)
  | [], l, hb, _ => by rw [flipsN_nil, List.foldl_nil]
  | k :: ks, l, hb, hk => by
    have := sumN_flips (ks := ks) (flipN_bytes hb k (hk k List.mem_cons_self)) (fun q hq => by rw [flipN_length]; exact hk q (List.mem_cons_of_mem _ hq))
    rw [flipN_length, sumN_flip hb (hk k List.mem_cons_self)] at this
    rw [flipsN_cons, List.foldl_cons, this, exN]
theorem flips_seen {l ks : List Nat} (hb : Bytes l) (h2 : 2 ≤ l.length) (h66 : l.length ≤ 66) (h0 : sumN l = 0) (hk : ∀ k ∈ ks, k < 8 * l.length) (hn : ks.Nodup) (h1 : 1 ≤ ks.length) (h3 : ks.length ≤ 3) : rightN (flipsN l ks) = false := by
  obtain ⟨hb', hl'⟩ := flipsN_bytes hb hk
  rw [rightN_zero hb' (by omega), sumN_flips hb hk, h0]
  refine decide_eq_false ?_
  match ks, h1, h3 with
  | [a], _, _ => simp only [List.foldl_cons, List.foldl_nil, Nat.zero_xor]; exact pw_ne
  | [a, b], _, _ =>
    simp only [List.foldl_cons, List.foldl_nil, Nat.zero_xor]
    simp at hn
    exact pw_ne2 (exN_inj (hk a (by simp)) (hk b (by simp)) hn) (exN_le h66) (exN_le h66)
  | [a, b, c], _, _ => simp only [List.foldl_cons, List.foldl_nil, Nat.zero_xor]; exact pw_ne3 _ _ _
def metI (ks : List Nat) : List Int := ks.map (fun k : Nat => (k : Int)) ++ List.replicate (3 - ks.length) 0
theorem metI_get {ks : List Nat} {j : Nat} (h : j < ks.length) : (metI ks)[j]? = some ((ks[j] : Nat) : Int) := by
  rw [metI, List.getElem?_append_left (by simpa using h)]; simp [h]
theorem metI_set {ks : List Nat} (k : Nat) (h : ks.length < 3) : (metI ks).set ks.length (k : Int) = metI (ks ++ [k]) := by
  obtain ⟨n, hn⟩ : ∃ n, 3 - ks.length = n + 1 := ⟨2 - ks.length, by omega⟩
  rw [metI, metI, hn, List.set_append_right _ _ (by simp)]
  simp [List.replicate_succ, show 3 - (ks.length + 1) = n by omega]
theorem metI_len {ks : List Nat} (h : ks.length ≤ 3) : (metI ks).length = 3 := by simp [metI]; omega
theorem bits_get (x0 x1 x2 : Nat) {i : Nat} (h : i < 3) : ([Value.int .u16 (x0 : Int), Value.int .u16 (x1 : Int), Value.int .u16 (x2 : Int)])[0 + i * 1]? = some (.int .u16 (([x0, x1, x2][i]! : Nat) : Int)) := by
  obtain rfl | rfl | rfl : i = 0 ∨ i = 1 ∨ i = 2 := by omega
  all_goals rfl
theorem xor8 {a b : Nat} (ha : a < 256) (hb : b < 256) : IntKind.u8.wrap ((BitVec.ofInt IntKind.u8.bits (a : Int) ^^^ BitVec.ofInt IntKind.u8.bits (b : Int)).toNat : Int) = ((a ^^^ b : Nat) : Int) := by
  have e : ∀ {a : Nat}, a < 256 → (BitVec.ofInt IntKind.u8.bits (a : Int)).toNat = a := fun {a} h => by
    show (BitVec.ofInt 8 (a : Int)).toNat = a
    rw [BitVec.toNat_ofInt]; omega
  rw [BitVec.toNat_xor, e ha, e hb, cv8, Nat.mod_eq_of_lt (xor8_lt ha hb)]
theorem shlq {q : Nat} (h : q < 8) : IntKind.u8.wrap ((1 : Int) * 2 ^ (min ((q : Int)).toNat IntKind.u8.bits)) = ((2 ^ q : Nat) : Int) := by
  have e : min ((q : Int)).toNat IntKind.u8.bits = q := by
    show min q 8 = q; omega
  rw [e, Int.one_mul, show ((2 : Int) ^ q) = ((2 ^ q : Nat) : Int) by simp, cv8, Nat.mod_eq_of_lt (two_lt h)]
theorem bys_set (l : List Nat) (i x : Nat) : (bys l).set i (.int .u8 (x : Int)) = bys (l.set i x) := by simp [bys, List.map_set]
theorem wk6 (l : List Nat) (hb : Bytes l) (x0 x1 x2 many : Nat) (h0 : x0 < 65536) (h1 : x1 < 65536) (h2 : x2 < 65536) (hm : many < 256) {m : LM} {argsR : Array Value} {w : World}
    (ha : LRel m [sv 0 l.length, .agg ⟨[.int .u16 (x0 : Int), .int .u16 (x1 : Int), .int .u16 (x2 : Int)]⟩, .int .u8 (many : Int)] argsR.toList) (hr : HRel m [.cells false 1 (bys l)] w) :
    Calls Tryz.prog 6 argsR w fun e w' => ∃ vR, e = .returned vR ∧ AppOut m [.cells false 1 (bys l)] w (fun v _ => v = .bool true) vR w' := by
  refine calls_vcg tok Tryz.func6 rfl Tryz.ntmps6 rfl (by simp) ?_ ha hr
  generalize hH0 : [Blk.cells false 1 (bys l)] = H0
  have g0 : bget H0 0 = some (.cells false 1 (bys l)) := by rw [← hH0]; rfl
  have hly : l.length ≤ l.length := Nat.le_refl _
  have hs := sumN_lt hb
  refine new_hs ((HS.start H0 none').add (c := false) g0 (fun i p hi => by simp at hi) (fun h => by cases h)) (fun H1 kb e1 l1 hs1 => ?_)
  refine vops_gen (fun K0 hK0 => hK0 _ _ ?_)
  refine And.intro (fun hc => ?_) (fun hc => ?_)
  · refine vops_gen (fun K0 hK0 => ?_)
    refine (W.worksX _ ?_).call
    refine hK0 _ _ ?_
    rfl
  · have hl : l.length ≤ 64 := by simp at hc; omega
    refine vops_gen (fun K0 hK0 => ?_)
    refine w12 (hs1.get 1 rfl) (List.take_length) (by omega) hb ?_
    refine hK0 _ _ ?_
    clear hK0 K0
    refine vops_gen (fun K0 hK0 => ?_)
    refine And.intro (by decide) ?_
    refine newS_hs hs1 (fun H2 b2 e2 l2 hs2 => ?_)
    refine And.intro rfl ?_
    refine copyL hs2 0 rfl rfl (hs2.get 2 rfl) (List.take_length) (Nat.le_refl _) (by omega) (fun H3 b3 hs3 => ?_)
    refine ⟨by decide, ((sumN l / 256 : Nat) : Int), shr8 _, ?_⟩
    refine And.intro (by decide) ?_
    refine newS_hs hs3 (fun H4 j4 e4 l4 hs4 => ?_)
    refine And.intro rfl ?_
    refine appN_hs hs4 1 (n := l.length) (o2 := 0) (m := 2) (us := bys [sumN l / 256, sumN l % 256]) rfl (by decide) (hs4.get 0 rfl) ?_ (by decide) (by show 0 + 2 * 1 ≤ 2; decide) (bys_one _) (by simp) (by show (l.length + 2) * (1 + 1) ≤ 70368744177664; omega) (fun H5 b5 e5 l5 hs5 => ?_)
    · show [Value.int .u8 (IntKind.u8.wrap ((sumN l / 256 : Nat) : Int)), Value.int .u8 (IntKind.u8.wrap ((sumN l : Nat) : Int))] = _
      rw [cv8, cv8, Nat.mod_eq_of_lt (by omega : sumN l / 256 < 256)]
      rfl
    refine hK0 _ _ ?_
    clear hK0 K0
    have hs6 : HS H0 none' [(true, b5, .cells true 1 (bys (frameN l))), (true, kb, .cells true 1 [Value.int .u16 (x0 : Int), Value.int .u16 (x1 : Int), Value.int .u16 (x2 : Int)]), (false, 0, .cells false 1 (bys l))] H5 := by
      have h4 := hs5.pick [1, 2, 3] (by decide) (L' := [(true, b5, .cells true 1 (bys l ++ bys [sumN l / 256, sumN l % 256])), (true, kb, .cells true 1 [Value.int .u16 (x0 : Int), Value.int .u16 (x1 : Int), Value.int .u16 (x2 : Int)]), (false, 0, .cells false 1 (bys l))]) rfl
      rwa [← bys_append] at h4
    clear hs5 hs4 hs3 hs2
    refine vops_gen (fun K0 hK0 => ?_)
    refine w14 (l := frameN l) (frameN_length l).symm (Nat.le_refl _) (hs6.get 0 rfl) (by rw [← frameN_length, List.take_length]) (by omega) (frameN_bytes hb) (fun H6 hn6 => ?_)
    rw [rightN_frame]
    refine hK0 _ _ ?_
    clear hK0 K0
    have hs7 := hs_none hs6 hn6
    refine And.intro (fun h => absurd h (by decide)) (fun _ => ?_)
    refine new_hs hs7 (fun H7 mb e7 l7 hs8 => ?_)
    have hx : ∀ i, i < 3 → [x0, x1, x2][i]! < 65536 := fun i hi => by
      obtain rfl | rfl | rfl : i = 0 ∨ i = 1 ∨ i = 2 := by omega
      all_goals (simp; omega)
    have hF := frameN_bytes hb
    have hFl : (frameN l).length = l.length + 2 := frameN_length l
    clear hs7 hn6 hs6
    refine vcg_loopR (α := List Blk × List Nat) tok (fun z => HS H0 none' [(true, mb, .cells true 1 (ints (metI z.2))), (true, b5, .cells true 1 (bys (flipsN (frameN l) z.2))), (true, kb, .cells true 1 [Value.int .u16 (x0 : Int), Value.int .u16 (x1 : Int), Value.int .u16 (x2 : Int)]), (false, 0, .cells false 1 (bys l))] z.1 ∧ (z.2.length ≤ 1 + many % 3 ∧ z.2.Nodup ∧ ∀ k ∈ z.2, k < 8 * (l.length + 2)))
      (fun z => [(2, .int .u8 (many : Int)), (4, .pointer (some ⟨kb, 0, none⟩)), (8, .slice (some ⟨b5, 0, none⟩) (l.length + 2) (l.length + 2)), (9, .pointer (some ⟨mb, 0, none⟩)), (10, .int .i64 (z.2.length : Int))]) (fun z => z.1) (fun z => 3 - z.2.length)
      (H7, []) ⟨hs8, by simp, List.nodup_nil, fun k hk => by simp at hk⟩ (Or.inl ⟨⟨rfl, rfl, rfl, rfl, rfl, trivial⟩, rfl⟩) ?_
    clear hs8 l7 e7
    rintro ⟨H8, ks⟩ ⟨hs9, hks, hnd, hlt⟩
    simp only at hs9 hks hnd hlt
    refine ⟨by decide, ((many % 3 : Nat) : Int), rfl, ?_⟩
    refine Or.inl ⟨((many % 3 : Nat) : Int), rfl, by unfold I64; omega, ?_⟩
    refine Or.inl ⟨((1 + many % 3 : Nat) : Int), by omega, by unfold I64; omega, ?_⟩
    refine And.intro (fun hc => ?_) (fun hc => ?_)
    · have hi : ks.length < 1 + many % 3 := by simp at hc; omega
      have hi3 : ks.length < 3 := by omega
      have hxk := hx ks.length hi3
      refine vops_gen (fun K0 hK0 => ?_)
      refine isCells_of (hs9.get 2 rfl) ⟨ks.length, rfl, hi3, ?_⟩
      refine rdCells_of (hs9.get 2 rfl) ⟨_, bits_get x0 x1 x2 hi3, ?_⟩
      generalize [x0, x1, x2][ks.length]! = x at hxk
      refine Or.inl ⟨(x : Int), rfl, by unfold I64; omega, ?_⟩
      refine Or.inl ⟨((8 * (l.length + 2) : Nat) : Int), by omega, by unfold I64; omega, ?_⟩
      refine ⟨by omega, ((x % (8 * (l.length + 2)) : Nat) : Int), rfl, ?_⟩
      refine hK0 _ _ ?_
      clear hK0 K0
      have hk : x % (8 * (l.length + 2)) < 8 * (l.length + 2) := Nat.mod_lt _ (by omega)
      generalize x % (8 * (l.length + 2)) = k at hk
      refine vcg_loopR (α := Nat) tok (fun j => j ≤ ks.length ∧ ∀ (q : Nat) (h : q < ks.length), q < j → ks[q] ≠ k)
        (fun j => [(2, .int .u8 (many : Int)), (4, .pointer (some ⟨kb, 0, none⟩)), (8, .slice (some ⟨b5, 0, none⟩) (l.length + 2) (l.length + 2)), (9, .pointer (some ⟨mb, 0, none⟩)), (10, .int .i64 (ks.length : Int)), (11, .int .i64 (k : Int)), (12, .int .i64 (j : Int))]) (fun _ => H8) (fun j => ks.length - j)
        0 ⟨Nat.zero_le _, fun q _ h => absurd h (by omega)⟩ (Or.inl ⟨⟨rfl, rfl, rfl, rfl, rfl, rfl, rfl, trivial⟩, rfl⟩) ?_
      rintro j ⟨hj, hno⟩
      refine And.intro (fun hc => ?_) (fun hc => ?_)
      · have hjl : j < ks.length := by simp at hc; omega
        refine vops_gen (fun K0 hK0 => ?_)
        refine isCells_of (hs9.get 0 rfl) ⟨j, rfl, by omega, ?_⟩
        refine rdCells_of (hs9.get 0 rfl) (Ld_ints j ((ks[j] : Nat) : Int) (by simp) (metI_get hjl) ?_)
        refine hK0 _ _ ?_
        clear hK0 K0
        refine And.intro (fun he => ?_) (fun he => ?_)
        · refine vops_gen (fun K0 hK0 => ?_)
          refine (W.worksX _ ?_).call
          refine hK0 _ _ ?_
          rfl
        · have he : ks[j] ≠ k := by simp at he; omega
          refine Or.inl ⟨((j + 1 : Nat) : Int), by simp, by unfold I64; omega, ?_⟩
          exact ⟨j + 1, ⟨hjl, fun q hq hqj => by
            rcases Nat.lt_or_ge q j with h | h
            · exact hno q hq h
            · have : q = j := by omega
              subst this; exact he⟩, by omega, Or.inl ⟨⟨rfl, rfl, rfl, rfl, rfl, rfl, rfl, trivial⟩, rfl⟩⟩
      · have hje : j = ks.length := by simp at hc; omega
        have hnew : k ∉ ks := fun hm => by
          obtain ⟨q, hq, e⟩ := List.getElem_of_mem hm
          exact hno q hq (by omega) e
        refine vops_gen (fun K0 hK0 => ?_)
        refine isCells_of (hs9.get 0 rfl) ⟨ks.length, rfl, by omega, ?_⟩
        refine store_hs hs9 0 rfl (ints (metI (ks ++ [k]))) rfl rfl (by rw [ints_length, metI_len (by omega)]; show 0 + ks.length * 1 + 1 ≤ 3; omega) ?_ (fun H9 e9 hs10 => ?_)
        · show (ints (metI ks)).set (0 + ks.length * 1) (.int .i64 (k : Int)) = _
          rw [Nat.zero_add, Nat.mul_one, ints_set, metI_set k hi3]
        refine hK0 _ _ ?_
        clear hK0 K0
        obtain ⟨hFb, hFl2⟩ := flipsN_bytes (ks := ks) hF (fun q hq => by rw [hFl]; exact hlt q hq)
        have hk8 : k / 8 < (flipsN (frameN l) ks).length := by omega
        have hq : k % 8 < 8 := Nat.mod_lt _ (by decide)
        have hfx : (flipsN (frameN l) ks)[k / 8]! < 256 := by rw [getElem!_pos (flipsN (frameN l) ks) (k / 8) hk8]; exact hFb _ (List.getElem_mem _)
        refine vcg_draw tok mx [0, 0, 2, 0, 0, 16, 56, 120, 0, 256, 768, 2040, 4095, 8191] [false, false, false, false, false, false, false, false, true, true, true, false, false, false] [0, 1, 2, 3, 4, 5, 6, 7, 8, 9, 10, 11, 12, 13] (by kernel_rfl) ?_
        refine vopsO_gen (fun K0 hK0 => ?_)
        refine ⟨by decide, Or.inl ⟨((k / 8 : Nat) : Int), rfl, by unfold I64; omega, ?_⟩⟩
        refine ⟨by decide, Or.inl ⟨((k / 8 : Nat) : Int), rfl, by unfold I64; omega, ?_⟩⟩
        refine isCells_of (hs10.get 1 rfl) ⟨k / 8, rfl, by omega, ?_⟩
        refine rdCells_of (hs10.get 1 rfl) (Ld_bys (k / 8) (flipsN (frameN l) ks)[k / 8]! (by simp) (by rw [getElem!_pos (flipsN (frameN l) ks) (k / 8) hk8]; simp) ?_)
        refine ⟨by decide, ((k % 8 : Nat) : Int), rfl, ?_⟩
        refine ⟨by omega, ?_⟩
        refine ⟨(((flipsN (frameN l) ks)[k / 8]! ^^^ 2 ^ (k % 8) : Nat) : Int), ?_, ?_⟩
        · rw [shlq hq]
          exact xor8 hfx (two_lt hq)
        refine isCells_of (hs10.get 1 rfl) ⟨k / 8, rfl, by omega, ?_⟩
        refine store_hs hs10 1 rfl (bys (flipsN (frameN l) (ks ++ [k]))) rfl rfl (by rw [bys_length]; show 0 + k / 8 * 1 + 1 ≤ _; omega) ?_ (fun H10 e10 hs11 => ?_)
        · show (bys _).set (0 + k / 8 * 1) (.int .u8 _) = _
          rw [Nat.zero_add, Nat.mul_one, bys_set, flipsN_snoc, flipN]
        refine hK0 _ _ ?_
        clear hK0 K0
        refine Or.inl ⟨((ks.length + 1 : Nat) : Int), by simp, by unfold I64; omega, ?_⟩
        exact ⟨(H10, ks ++ [k]), ⟨hs11, by simp; omega, by
          rw [List.nodup_append]
          exact ⟨hnd, by simp, fun a ha b hb => by simp at hb; subst hb; intro e; subst e; exact hnew ha⟩, fun q hq => by
          rcases List.mem_append.1 hq with h | h
          · exact hlt q h
          · simp at h; subst h; exact hk⟩, by simp; omega, Or.inl ⟨⟨rfl, rfl, rfl, rfl, by simp [look], trivial⟩, rfl⟩⟩
    · have hie : ks.length = 1 + many % 3 := by simp at hc; omega
      obtain ⟨hFb, hFl2⟩ := flipsN_bytes (ks := ks) hF (fun q hq => by rw [hFl]; exact hlt q hq)
      have hz : sumN (frameN l) = 0 := by
        have := rightN_frame l
        rw [rightN_zero hF (by omega)] at this
        exact of_decide_eq_true this
      have hno := flips_seen (ks := ks) hF (by omega) (by omega) hz (fun q hq => by rw [hFl]; exact hlt q hq) hnd (by omega) (by omega)
      refine vops_gen (fun K0 hK0 => ?_)
      refine w14 (l := flipsN (frameN l) ks) (by omega) (Nat.le_refl _) (hs9.get 1 rfl) (by rw [← hFl, ← hFl2, List.take_length]) (by omega) hFb (fun H9 hn9 => ?_)
      rw [hno]
      refine And.intro (fun _ => ?_) (fun h => absurd h (by decide))
      refine (W.worksX _ ?_).call
      refine hK0 _ _ ?_
      rfl
end Go.Af.Tryz
