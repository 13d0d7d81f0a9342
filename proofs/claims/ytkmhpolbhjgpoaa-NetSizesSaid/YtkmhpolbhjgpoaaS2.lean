import Derived.Test.YtkmhpolbhjgpoaaS1
namespace Go.Af.Try
open Go Go.Proofs
attribute [local irreducible] awp ACall ACallX AYield
theorem c81 (n lo hi : Int) (H : List Blk) (R : Value → List Blk → Prop) (h : R (.bool (decide (lo ≤ n) && decide (n ≤ hi))) H) : ACall Try.prog 81 [.int .i64 n, .int .i64 lo, .int .i64 hi] H R := by
  refine acall_vcg tok Try.call81 Try.func81 rfl Try.ntmps81 rfl (by simp) ?_
  refine And.intro (fun h1 => ?_) (fun h1 => ?_)
  all_goals repeat (first | refine And.intro (fun _ => ?_) (fun h => absurd h (by decide)) | refine And.intro (fun h => absurd h (by decide)) (fun _ => ?_))
  · exact (by simpa [h1] using h : R (.bool (decide (n ≤ hi))) H)
  · exact (by simpa [h1] using h : R (.bool false) H)

def numF (g at' : List Int) : Int := (g.zip at').foldl (fun x p => x * p.1 + p.2) 0

theorem l67 (g at' : List Int) (hl : g.length = at'.length) (hL : g.length ≤ 1000000) (hb : ∀ i, i < g.length → I64 (numF (g.take i) (at'.take i) * g[i]!) ∧ I64 (numF (g.take (i + 1)) (at'.take (i + 1)))) :
    ACall Try.prog 67 [sv 0 g.length, sv 1 at'.length] [ro g, ro at'] (fun v H => v = .int .i64 (numF g at') ∧ H = [ro g, ro at']) := by
  refine acall_vcg tok Try.call67 Try.func67 rfl Try.ntmps67 rfl (by simp) ?_
  refine vcg_loopR tok (fun i : Nat => i ≤ g.length) (fun i => [(0, sv 0 g.length), (1, sv 1 at'.length), (5, .int .i64 (numF (g.take i) (at'.take i))), (8, sv 0 g.length), (9, .int .i64 g.length), (10, .int .i64 i)]) (fun _ => [ro g, ro at'])
    (fun i => g.length - i) 0 (Nat.zero_le _) ?_ ?_
  · exact Or.inl ⟨⟨rfl, rfl, rfl, rfl, rfl, rfl, trivial⟩, rfl⟩
  intro i hi
  refine And.intro (fun hc => ?_) (fun hc => ?_)
  · have hlt : i < g.length := by simpa using hc
    refine ⟨i, rfl, hlt, ?_⟩
    refine Ld_ints i g[i]! (by simp) (by simp [hlt]) ?_
    refine Or.inl ⟨_, rfl, (hb i hlt).1, ?_⟩
    refine ⟨i, rfl, by omega, ?_⟩
    refine Ld_ints i at'[i]! (by simp) (by simp [show i < at'.length by omega]) ?_
    have e : numF (g.take i) (at'.take i) * g[i]! + at'[i]! = numF (g.take (i + 1)) (at'.take (i + 1)) := by
      unfold numF
      rw [List.take_succ_eq_append_getElem hlt, List.take_succ_eq_append_getElem (show i < at'.length by omega), List.zip_append (by simp; omega)]
      simp [hlt, show i < at'.length by omega]
    refine Or.inl ⟨_, e, (hb i hlt).2, ?_⟩
    refine Or.inl ⟨((i + 1 : Nat) : Int), by simp, by unfold I64; omega, ?_⟩
    exact ⟨i + 1, hlt, by omega, .inl ⟨⟨rfl, rfl, rfl, rfl, rfl, rfl, trivial⟩, rfl⟩⟩
  · have : i = g.length := by simp at hc; omega
    subst this
    exact ⟨by rw [List.take_of_length_le (Nat.le_refl _), List.take_of_length_le (by omega)]; rfl, rfl⟩

theorem l137 (g : List Int) (i : Nat) (hi : i < g.length) (c bY : Int) (h1 : I64 (c + bY)) (h2 : I64 (c + bY + g[i]!)) (h3 : g[i]! ≠ 0) :
    ACall Try.prog 137 [sv 0 g.length, .int .i64 i, .int .i64 c, .int .i64 bY] [ro g] (fun v H => v = .int .i64 ((c + bY + g[i]!).tmod g[i]!) ∧ H = [ro g]) := by
  refine acall_vcg tok Try.call137 Try.func137 rfl Try.ntmps137 rfl (by simp) ?_
  refine vcg_draw tok mx [0, 0, 3, 0, 0, 24, 56, 127, 0, 0, 768, 1792, 4095, 8191] [false, false, false, false, false, false, false, false, true, true, true, true, false, false] [0, 1, 2, 3, 4, 5, 6, 7, 8, 9, 10, 11, 12, 13] (by kernel_rfl) ?_
  refine Or.inl ⟨_, rfl, h1, ?_⟩
  refine ⟨i, rfl, hi, ?_⟩
  refine Ld_ints i g[i]! (by simp) (by simp [hi]) ?_
  refine Or.inl ⟨_, rfl, h2, ?_⟩
  refine ⟨i, rfl, hi, ?_⟩
  refine Ld_ints i g[i]! (by simp) (by simp [hi]) ?_
  exact ⟨h3, _, rfl, rfl, rfl⟩

def quoF (g : List Int) (x : Int) : Int := g.foldr (fun m y => y.tdiv m) x
def coords : List Int → Int → List Int
  | [], _ => []
  | m :: r, x => (quoF r x).tmod m :: coords r x

theorem coords_len (g : List Int) (x : Int) : (coords g x).length = g.length := by induction g with
  | nil => rfl
  | cons m r ih => simp [coords, ih]
theorem tdiv_i64 {x m : Int} (hx : I64 x) (hm : 2 ≤ m) : I64 (x.tdiv m) := by
  unfold I64 at *
  have h1 : (x.tdiv m).natAbs = x.natAbs / m.natAbs := Int.natAbs_tdiv x m
  have h2 : x.natAbs / m.natAbs ≤ x.natAbs / 2 := Nat.div_le_div_left (by omega) (by omega)
  omega
theorem quo_i64 {x : Int} : ∀ (g : List Int) (_ : ∀ m ∈ g, 2 ≤ m) (_ : I64 x), I64 (quoF g x)
  | [], _, h => h
  | m :: r, hg, h => tdiv_i64 (quo_i64 r (fun m hm => hg m (by simp [hm])) h) (hg m (by simp))

theorem l66 (g : List Int) (hg : ∀ m ∈ g, 2 ≤ m) (hl : g.length ≤ 1000) (x : Int) (hx : I64 x) :
    ACall Try.prog 66 [sv 0 g.length, .int .i64 x] [ro g] (fun v H => v = sv 1 g.length ∧ H = [ro g, .cells true 1 (ints (coords g x))]) := by
  refine acall_drop (acall_vcg tok Try.call66 Try.func66 rfl Try.ntmps66 rfl (by simp) ?_)
  refine And.intro ⟨by decide, rfl⟩ ?_
  refine ⟨g.length, g.length, ⟨rfl, rfl⟩, ⟨Nat.le_refl _, ?_⟩, _, rfl, ?_⟩
  · show g.length * 9 ≤ _
    omega
  refine And.intro ⟨rfl, rfl, Nat.le_refl _⟩ ?_
  refine ⟨_, rfl, ?_⟩
  refine acall_vcg tok Try.call83 Try.func83 rfl Try.ntmps83 rfl (by simp) ?_
  refine acall_vcg tok Try.call91 Try.func91 rfl Try.ntmps91 rfl (by simp) ?_
  refine ⟨_, rfl, ?_⟩
  refine Or.inl ⟨(g.length : Int) - 1, rfl, by unfold I64; omega, ?_⟩
  generalize hlp : Blk.loop LoopState.ready none _ _ _ _ _ = lp
  refine vcg_loopR tok (fun j : Nat => j ≤ g.length) (fun j => [(0, .func (.yield 5) #[] #[]), (1, .pointer (some ⟨4, 0, none⟩)), (3, .int .i64 ((j : Int) - 1))])
    (fun j => [ro g, .cells true 1 [.int .i64 (quoF (g.drop j) x)], .cells true 1 (ints (List.replicate j 0 ++ coords (g.drop j) x)), .cells true 1 [sv 2 g.length], .cells true 1 [sv 0 g.length], lp]) (fun j => j) g.length (Nat.le_refl _) ?_ ?_
  · refine Or.inl ⟨⟨rfl, rfl, rfl, trivial⟩, ?_⟩
    simp [zeroRep, setSeg, ints, quoF, coords, cellsL]
  intro j hj
  refine And.intro (fun hc => ?_) (fun hc => ?_)
  · have hc' : 0 < j := by simp at hc; omega
    obtain ⟨i, rfl⟩ : ∃ i, j = i + 1 := ⟨j - 1, by omega⟩
    refine ⟨_, rfl, ?_⟩
    refine ⟨i, by omega, by omega, ?_⟩
    refine Ld_ints i g[i]! (by simp) (by simp [show i < g.length by omega]) ?_
    refine ayield_vcg tok ?_
    subst hlp
    have hi : i < g.length := by omega
    have hm : 2 ≤ g[i]! := by rw [getElem!_pos g i hi]; exact hg _ (List.getElem_mem hi)
    have hq := quo_i64 (g.drop (i + 1)) (fun m h => hg m (List.mem_of_mem_drop h)) hx
    have hd : g.drop i = g[i]! :: g.drop (i + 1) := by rw [getElem!_pos g i hi]; exact List.drop_eq_getElem_cons hi
    refine vcg_draw tok mx [0, 0, 0, 0, 12, 31, 63] [false, true, true, true, true, false, false] [0, 1, 2, 3, 4, 5, 6] (by kernel_rfl) ?_
    refine ⟨_, rfl, ?_⟩
    refine ⟨_, rfl, ?_⟩
    refine ⟨by omega, _, rfl, ?_⟩
    refine ⟨i, by omega, by omega, ?_⟩
    refine ⟨⟨rfl, rfl, ?_⟩, _, rfl, ?_⟩
    · simp [coords_len]
    refine ⟨_, rfl, ?_⟩
    refine ⟨by omega, Or.inl ⟨_, rfl, tdiv_i64 hq hm, ?_⟩⟩
    refine ⟨⟨rfl, rfl, Nat.le_refl _⟩, _, rfl, ?_⟩
    refine And.intro (fun h => absurd h (by decide)) (fun _ => ?_)
    refine Or.inl ⟨(i : Int) - 1, by omega, by unfold I64; omega, ?_⟩
    refine ⟨i, by omega, by omega, Or.inl ⟨⟨rfl, rfl, rfl, trivial⟩, ?_⟩⟩
    have e1 : quoF (g.drop i) x = (quoF (g.drop (i + 1)) x).tdiv g[i]! := by rw [hd]; rfl
    have e2 : (List.replicate (i + 1) 0 ++ coords (g.drop (i + 1)) x).set i ((quoF (g.drop (i + 1)) x).tmod g[i]!) = List.replicate i 0 ++ coords (g.drop i) x := by
      rw [hd, List.replicate_succ', List.append_assoc, List.set_append_right _ _ (by simp)]; simp [coords]
    rw [e1, ← e2, ← ints_set]
    simp [setSeg_one, cellsL, coords_len]
  · have : j = 0 := by simp at hc; omega
    subst this
    subst hlp
    refine ⟨_, rfl, ?_⟩
    exact ⟨[(0, 0), (2, 0)], sv 1 g.length, [ro g, .cells true 1 (ints (coords g x))], by simp, anch_of rfl, ⟨⟨_, rfl, BRen.ints _ _ _⟩, ⟨_, rfl, BRen.ints _ _ _⟩, trivial⟩, rfl, VRen.slice rfl rfl (Nat.le_refl _), rfl, rfl⟩
end Go.Af.Try
