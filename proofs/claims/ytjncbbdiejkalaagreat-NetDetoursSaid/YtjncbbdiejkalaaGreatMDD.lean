/-
  Detours in plain terms: parts, ranks of channels, paths.
  A new damaged network; a link is cut; whether a link is alive.
  Part and Detour, for the law about them; what its loops keep.
  The law NetDetours, as a call.
-/
import Derived.Test.YtjncbbdiejkalaaGreatMDC
import Derived.Test.YtjncbbdiejkalaaGreatMR
import Derived.Test.YtjncbbdiejkalaaGreatMP
import Derived.Test.YtjncbbdiejkalaaGreatMI
set_option linter.all false
namespace Go.Af.Tryz
open Go

theorem Up.of_idx {rk : Int → Int → Int → Nat} : ∀ (m : Nat) (p q : List Int) (B : Nat), p.length = m + 1 → q.length = m → (∀ i, i + 1 < m → rk p[i]! p[i + 1]! q[i]! < rk p[i + 1]! p[i + 2]! q[i + 1]!) → (∀ i, i + 1 = m → rk p[i]! p[i + 1]! q[i]! < B) → Up rk p q B
  | 0, p, q, B, hp, hq, _, _ => by
    obtain ⟨x, rfl⟩ := List.length_eq_one_iff.1 hp
    obtain rfl := List.length_eq_zero_iff.1 hq
    exact .one x B
  | m + 1, p, q, B, hp, hq, h1, h2 => by
    rcases List.eq_nil_or_concat p with rfl | ⟨p, v, rfl⟩
    · simp at hp
    rcases List.eq_nil_or_concat q with rfl | ⟨q, c, rfl⟩
    · simp at hq
    simp only [List.concat_eq_append] at *
    have lp : p.length = m + 1 := by simpa using hp
    have lq : q.length = m := by simpa using hq
    have e1 : (p ++ [v])[m + 1]! = v := by rw [← lp]; exact app_eq p v
    have e2 : (q ++ [c])[m]! = c := by rw [← lq]; exact app_eq q c
    have e3 : ∀ i, i < m + 1 → (p ++ [v])[i]! = p[i]! := fun i hi => app_lt (by omega)
    have e4 : ∀ i, i < m → (q ++ [c])[i]! = q[i]! := fun i hi => app_lt (by omega)
    have hl : p.getLast? = some p[m]! := by
      rw [List.getLast?_eq_getElem?, lp, getElem!_pos p m (by omega)]
      exact List.getElem?_eq_getElem (by omega)
    refine .snoc (B := rk p[m]! v c) (Up.of_idx m p q _ lp lq (fun i hi => ?_) (fun i hi => ?_)) hl (Nat.le_refl _) ?_
    · have := h1 i (by omega)
      rwa [e3 i (by omega), e3 (i + 1) (by omega), e3 (i + 2) (by omega), e4 i (by omega), e4 (i + 1) (by omega)] at this
    · subst hi
      have := h1 i (by omega)
      rwa [e3 i (by omega), e3 (i + 1) (by omega), e1, e4 i (by omega), e2] at this
    · have := h2 m rfl
      rwa [e3 m (by omega), e1, e2] at this

theorem lawf_idx {up : Nat → Nat → Bool} : ∀ {l : List Int} {r : Bool}, Lawf up r l → ∀ i, i + 2 < l.length → up l[i + 1]!.toNat l[i + 2]!.toNat = true → up l[i]!.toNat l[i + 1]!.toNat = true
  | [], _, _, i, hi, _ => by simp at hi
  | [_], _, _, i, hi, _ => by simp at hi
  | [_, _], _, _, i, hi, _ => by have : i + 2 < 2 := hi; omega
  | a :: b :: c :: l, r, h, 0, hi, hu => by
    have hu : up b.toNat c.toNat = true := hu
    show up a.toNat b.toNat = true
    by_cases h1 : up a.toNat b.toNat = true
    · exact h1
    · unfold Lawf at h
      rw [if_neg h1] at h
      unfold Lawf at h
      rw [if_pos hu] at h
      cases h.1
  | a :: b :: c :: l, r, h, i + 1, hi, hu => by
    have h' : ∃ r', Lawf up r' (b :: c :: l) := by
      unfold Lawf at h
      split at h
      · exact ⟨_, h.2⟩
      · exact ⟨_, h⟩
    obtain ⟨r', h'⟩ := h'
    exact lawf_idx h' i (by simpa using hi) hu
theorem chain_idx {nr : Nat → List Int} : ∀ {l : List Int}, Chain nr l → ∀ i, i + 1 < l.length → l[i + 1]! ∈ nr l[i]!.toNat
  | [], _, i, hi => by simp at hi
  | [_], _, i, hi => by simp at hi
  | a :: b :: l, h, 0, hi => h.1
  | a :: b :: l, h, i + 1, hi => chain_idx h.2 i (by simpa using hi)

section
variable {t : Nt} {n : Nat}
theorem reach_iff (ok : t.Ok) (hn : t.ds.length = n) {x x' : Nat} {D D' : List Int} (d : Dst t.nr n x D) (d' : Dst t.nr n x' D') : ∀ z : Nat, z < n → 0 ≤ D[z]! → (0 ≤ D'[z]! ↔ 0 ≤ D'[x]!) :=
  dst_ind d (P := fun z => 0 ≤ D'[z]! ↔ 0 ≤ D'[x]!) Iff.rfl (fun w z hw hz _ hm ih => ⟨fun h => ih.1 (by have := (d'.fwd z hz h w (nr_sym ok hn hw hz hm)).1; rwa [Int.toNat_natCast] at this), fun h => by have := (d'.fwd w hw (ih.2 h) z hm).1; rwa [Int.toNat_natCast] at this⟩)
theorem part_eq (ok : t.Ok) (hn : t.ds.length = n) {x x' u : Nat} {D D' : List Int} (d : Dst t.nr n x D) (d' : Dst t.nr n x' D') (hu : u < n) (h : 0 ≤ D[u]!) (h' : 0 ≤ D'[u]!) : ∀ z : Nat, z < n → (0 ≤ D[z]! ↔ 0 ≤ D'[z]!) := fun z hz =>
  ⟨fun hz0 => (reach_iff ok hn d d' z hz hz0).2 ((reach_iff ok hn d d' u hu h).1 h'), fun hz0 => (reach_iff ok hn d' d z hz hz0).2 ((reach_iff ok hn d' d u hu h').1 h)⟩
theorem root_eq {D D' : List Int} (h : ∀ z : Nat, z < n → (0 ≤ D[z]! ↔ 0 ≤ D'[z]!)) : rootF D n = rootF D' n := by
  have : partL D n = partL D' n := by
    unfold partL
    congr 1
    refine List.filter_congr (fun z hz => ?_)
    rw [decide_eq_decide]
    exact h z (List.mem_range.1 hz)
  unfold rootF
  rw [this]

/-- The ranks of the part in which u lies. -/
noncomputable def kOf (t : Nt) (n u : Nat) : List Int := Classical.epsilon (fun K => ∃ x D, Dst t.nr n x D ∧ 0 ≤ D[u]! ∧ Dst t.nr n (rootF D n) K)
theorem kOf_eq (ok : t.Ok) (hn : t.ds.length = n) {x u : Nat} {D K : List Int} (d : Dst t.nr n x D) (hu : u < n) (h : 0 ≤ D[u]!) (k : Dst t.nr n (rootF D n) K) : kOf t n u = K := by
  have := Classical.epsilon_spec (p := fun K => ∃ x D, Dst t.nr n x D ∧ 0 ≤ D[u]! ∧ Dst t.nr n (rootF D n) K) ⟨K, x, D, d, h, k⟩
  obtain ⟨x', D', d', h', k'⟩ := this
  rw [← root_eq (part_eq ok hn d d' hu h h')] at k'
  exact Dst.eq k' k (fun _ _ _ _ => Iff.rfl)
/-- The rank of a channel. -/
noncomputable def rkD (t : Nt) (n : Nat) (u v _ : Int) : Nat := if upB (kOf t n u.toNat) u.toNat v.toNat then ((bigF n : Int) - KfF (kOf t n u.toNat) n u.toNat).toNat else ((bigF n : Int) + KfF (kOf t n u.toNat) n v.toNat).toNat
theorem upB_or {K : List Int} {a b : Nat} (h : upB K a b = false) (hne : a ≠ b) : upB K b a = true := by
  rw [← Bool.not_eq_true, upB_iff] at h
  rw [upB_iff]
  omega

/-- A lawful path inside one part. -/
theorem way_rk (ok : t.Ok) (hn : t.ds.length = n) {x : Nat} {D K l : List Int} (d : Dst t.nr n x D) (k : Dst t.nr n (rootF D n) K) (h0 : 0 < l.length) (hx : l[0]! = x) (hin : ∀ z ∈ l, 0 ≤ z ∧ z < n) (hc : Chain t.nr l) (hl : Lawf (upB K) true l) : ∃ B, Up (rkD t n) l (List.replicate (l.length - 1) 0) B := by
  have hK : ∀ z : Nat, z < n → -1 ≤ K[z]! ∧ K[z]! ≤ n := fun z hz => ⟨k.neg z hz, k.le z hz⟩
  have hci := chain_idx hc
  have hr : ∀ i, i < l.length → 0 ≤ l[i]! ∧ l[i]! < n := fun i hi => hin _ (mem_get! hi)
  have hD : ∀ i, i < l.length → 0 ≤ D[l[i]!.toNat]! := by
    intro i
    induction i with
    | zero => intro _; rw [hx, Int.toNat_natCast, d.s0]; exact Int.le_refl _
    | succ i ih =>
      intro hi
      have h1 := hr i (by omega)
      exact (d.fwd l[i]!.toNat (by omega) (ih (by omega)) l[i + 1]! (hci i hi)).1
  have hk : ∀ i, i < l.length → kOf t n l[i]!.toNat = K := fun i hi => kOf_eq ok hn d (by have := hr i hi; omega) (hD i hi) k
  refine ⟨_, Up.of_idx (B := rkD t n l[l.length - 2]! l[l.length - 2 + 1]! (List.replicate (l.length - 1) 0)[l.length - 2]! + 1) (l.length - 1) l _ (by omega) (by simp) (fun i hi => ?_) (fun i hi => ?_)⟩
  · obtain ⟨a, ha⟩ : ∃ a : Nat, l[i]! = a := ⟨l[i]!.toNat, by have := hr i (by omega); omega⟩
    obtain ⟨b, hb⟩ : ∃ a : Nat, l[i + 1]! = a := ⟨l[i + 1]!.toNat, by have := hr (i + 1) (by omega); omega⟩
    obtain ⟨c, hcc⟩ : ∃ a : Nat, l[i + 2]! = a := ⟨l[i + 2]!.toNat, by have := hr (i + 2) (by omega); omega⟩
    have ra := hr i (by omega)
    have rb := hr (i + 1) (by omega)
    have rc := hr (i + 2) (by omega)
    have ka := hk i (by omega)
    have kb := hk (i + 1) (by omega)
    have m1 := hci (i + 1) (by omega)
    have lw := lawf_idx hl i (by omega)
    rw [ha] at ra ka lw ⊢
    rw [hb] at rb kb lw m1 ⊢
    rw [show i + 1 + 1 = i + 2 from rfl, hcc] at m1
    rw [hcc] at rc lw ⊢
    simp only [Int.toNat_natCast] at ka kb lw m1
    have hne : b ≠ c := by
      have := lnk_ne ((lnkL_mem.1 ((nr_mem ok hn (by omega)).1 m1).1).2)
      omega
    unfold rkD
    simp only [Int.toNat_natCast]
    rw [ka, kb]
    have b1 := Kf_bd hK (show a < n by omega)
    have b2 := Kf_bd hK (show b < n by omega)
    have b3 := Kf_bd hK (show c < n by omega)
    by_cases u1 : upB K a b = true
    · have g1 := Kf_up hK (by omega) (by omega) u1
      rw [if_pos u1]
      by_cases u2 : upB K b c = true
      · rw [if_pos u2]; omega
      · rw [if_neg u2]; omega
    · rw [if_neg u1]
      by_cases u2 : upB K b c = true
      · exact absurd (lw u2) u1
      · rw [if_neg u2]
        have g2 := Kf_up hK (by omega) (by omega) (upB_or (by simpa using u2) hne)
        omega
  · have : i = l.length - 2 := by omega
    subst this
    exact Nat.lt_succ_self _

/-- What a detour is. -/
theorem det_all (ok : t.Ok) (hn : t.ds.length = n) {x y : Nat} {D K down both l : List Int} (hx : x < n) (d : Dst t.nr n x D) (k : Dst t.nr n (rootF D n) K) (hy : 0 ≤ K[y]!) (dd : Dst (nrD t K) n y down) (lf : Lft t.nr (upB K) n down both) (e : l = (x : Int) :: dpF t n K down both both[x]!.toNat x true) :
    l.length = both[x]!.toNat + 1 ∧ l.length ≤ (n + 1) * n + n + n + 1 ∧ WayOk t.s n l x y ∧ (∃ B, Up (rkD t n) l (List.replicate (l.length - 1) 0) B) ∧ (∀ i, i + 1 < l.length → ∃ a b : Nat, l[i]! = a ∧ l[i + 1]! = b ∧ a < n ∧ b < n ∧ (b : Int) ∈ t.s.near a ∧ t.al a b = true) := by
  have hsw := ok.sw
  have hK : ∀ z : Nat, z < n → -1 ≤ K[z]! ∧ K[z]! ≤ n := fun z hz => ⟨k.neg z hz, k.le z hz⟩
  have hbp := both_pos ok hn k dd lf hy x hx (rank_x ok hn d k)
  have hbl := both_le lf (fun a b ha hb h => Kf_up hK ha hb h) (fun z hz => dd.le z hz) (fun z hz => (Kf_bd hK hz).1) x hx
  have hKx : (K[x]! + 1) * (n : Int) ≤ (n + 1) * n := Int.mul_le_mul_of_nonneg_right (by have := hK x hx; omega) (by omega)
  have hDI : DetI down both n x true both[x]!.toNat := ⟨hx, by show both[x]! = _; omega⟩
  obtain ⟨h1, h2, h3, h4, h5⟩ := det_ok (near := fun a => lnkL t.s a n) dd lf (fun a b ha h => ((nr_mem ok hn ha).1 h).1) (fun a ha b hb => (lnkL_mem.1 hb).1) (fun a b ha hb h => (nrD_mem ok hn ha hb).1 h) hDI
  rw [show (x : Int) :: detF (fun a => lnkL t.s a n) t.nr (upB K) down both both[x]!.toNat x true = l from e.symm] at h3 h4 h5
  have hlen : l.length = both[x]!.toNat + 1 := by rw [e, List.length_cons]; exact congrArg (· + 1) h1
  have hin : ∀ z ∈ l, 0 ≤ z ∧ z < n := fun z hz => by
    rw [e] at hz
    rcases List.mem_cons.1 hz with rfl | hz
    · omega
    · exact h2 z hz
  have h00 : l[0]! = (x : Int) := by rw [e]; rfl
  have hci := chain_idx h3
  have hal : ∀ i, i + 1 < l.length → ∃ a b : Nat, l[i]! = a ∧ l[i + 1]! = b ∧ a < n ∧ b < n ∧ (b : Int) ∈ lnkL t.s a n ∧ t.al a b = true := fun i hi => by
    have r1 := hin _ (mem_get! (show i < l.length by omega))
    have r2 := hin _ (mem_get! hi)
    have m1 := hci i hi
    refine ⟨l[i]!.toNat, l[i + 1]!.toNat, by omega, by omega, by omega, by omega, ?_⟩
    refine (nr_mem ok hn (by omega)).1 ?_
    rw [show ((l[i + 1]!.toNat : Nat) : Int) = l[i + 1]! by omega]
    exact m1
  refine ⟨hlen, by have : ((((n + 1) * n + n + n : Nat)) : Int) = ((n : Int) + 1) * n + n + n := by push_cast; rfl
                   omega, ⟨by omega, h00, ?_, fun i hi => hin _ (mem_get! hi), fun i hi => ?_⟩, way_rk ok hn d k (by omega) h00 hin h3 h4, fun i hi => ?_⟩
  · rw [hlen, Nat.add_sub_cancel]; exact h5
  · obtain ⟨a, b, e1, e2, _, _, hm, _⟩ := hal i hi
    rw [e1, e2]; exact (lnkL_mem.1 hm).2
  · obtain ⟨a, b, e1, e2, ha, hb, hm, hq⟩ := hal i hi
    exact ⟨a, b, e1, e2, ha, hb, (near_mem ok.ok (by omega) ha).2 (lnkL_mem.1 hm), hq⟩
end
end Go.Af.Tryz
namespace Go.Af.Tryz
open Go Go.Proofs
attribute [local irreducible] awp ACall ACallX AYield AInvoke newSlice isCells rdCells wrCells aAppend rangeEnd roundBegin roundEnd


theorem sides_pos {kind : Int} {sides : List Int} {s : Sh} (hok : s.ok) (h : s.of kind sides) : 0 < sides.length ∧ sides.length ≤ 1000 := by
  cases s with
  | grid g => obtain ⟨_, rfl⟩ := h; obtain ⟨h1, h2, _⟩ := hok; omega
  | fat k n => obtain ⟨_, rfl⟩ := h; simp
  | fly a b => obtain ⟨_, rfl⟩ := h; simp

/-- A network without damage. -/
abbrev newT (kind hosts : Int) (sides : List Int) (s : Sh) (n nb dn mb b : Nat) : Nt := ⟨kind, hosts, sides, s, List.replicate n false, [], 0, nb, dn, mb, b⟩
theorem gNew {H : List Blk} {R : Value → List Blk → Prop} {b n : Nat} {wr : Bool} {kind hosts : Int} {sides : List Int} {s : Sh} (hs : shapeF kind sides hosts = some s) (hn : s.sw = n) (hb : bget H b = some (.cells wr 1 (ints sides)))
    (h : ∀ H' nb dn mb b', HS H none' [(true, nb, (newT kind hosts sides s n nb dn mb b').nB), (true, dn, (newT kind hosts sides s n nb dn mb b').dB), (true, mb, (newT kind hosts sides s n nb dn mb b').mB), (true, b', rw' sides)] H' → R (.tuple ⟨[pV nb, .int .i64 0]⟩) H') : ACall Tryz.prog 16 [spV kind (sv b sides.length) hosts] H R := by
  have hok := shapeF_ok hs
  have hof := shapeF_of hs
  have hbd := sw_bd hok
  obtain ⟨hp1, hp2⟩ := sides_pos hok hof
  refine acall_vcg tok Tryz.call16 Tryz.func16 rfl Tryz.ntmps16 rfl (by simp) ?_
  refine new_hs (((HS.start H none').add (c := false) hb (fun i p hi => by simp at hi) (fun h => by cases h))) (fun H1 b1 e1 l1 hs1 => ?_)
  refine vops_gen (fun K0 hK0 => hK0 _ _ ?_)
  refine vops_gen (fun K0 hK0 => ?_)
  refine And.intro (by decide) (isCells_of (hs1.get 0 rfl) ?_)
  refine rdCells_of (hs1.get 0 rfl) ?_
  refine ⟨_, rfl, ?_⟩
  refine g50 (hs1.get 1 rfl) rfl hp1 (by omega) (fun H2 bc hs2 => ?_)
  have hs2 := hs1.call hs2 rfl
  refine And.intro (by decide) (isCells_of (hs2.get 1 rfl) ?_)
  simp only [putK, vops, guardK, cstep, Nat.blt]
  refine store_hs hs2 1 rfl [.int .i64 kind, sv bc sides.length, .int .i64 hosts] rfl rfl (by show 2 ≤ 3; decide) rfl (fun H3 l3 hs3 => ?_)
  refine hK0 _ _ ?_
  clear hK0 K0 hs1 hs2
  refine vops_gen (fun K0 hK0 => ?_)
  refine rdCells_of (hs3.get 1 rfl) ?_
  refine ⟨_, rfl, _, rfl, _, rfl, ?_⟩
  (first | refine c57 kind hosts (hs3.get 0 rfl) (Nat.le_refl _) ?_ | refine (c57 kind hosts (hs3.get 0 rfl) (Nat.le_refl _) ?_).call)
  rw [hs]
  refine ⟨_, rfl, _, rfl, ?_⟩
  refine hK0 _ _ ?_
  clear hK0 K0
  refine vcg_seqG (fun Q0 q1 q2 q3 => ?_)
  refine And.intro (fun h => absurd h (by decide)) (fun _ => ?_)
  refine q1 _ _ ?_
  clear q1 q2 q3 Q0
  refine vcg_drawR tok mx [0, 0, 0, 4, 12, 0, 63, 127, 255, 511] [1, 2, 8, 9] [.op 0 [], .op 1 [], .op 2 [], .res 5, .op 3 [0], .op 4 [0], .op 5 [], .op 6 [], .op 7 [], .op 8 [], .op 9 []] (by kernel_rfl) ?_
  refine vopsR_gen (fun K0 hK0 => ?_)
  refine rdCells_of (hs3.get 1 rfl) ?_
  refine ⟨_, rfl, _, rfl, _, rfl, ?_⟩
  refine And.intro rfl ?_
  refine res_hs hs3 (fun H4 mb e4 l4 hs4 => ?_)
  rw [← e4]
  (first | refine x_sw hok (at_of hof (hs4.get 1 rfl)) ?_ | refine (x_sw hok (at_of hof (hs4.get 1 rfl)) ?_).call)
  rw [hn]
  refine ⟨⟨⟨hs4.get 0 rfl, trivial⟩, ⟨?_, trivial⟩⟩, ?_⟩
  · exact rdCells_of (hs4.get 2 rfl) ⟨_, rfl, _, rfl, _, rfl, rfl⟩
  refine ⟨⟨by decide, rfl⟩, n, n, ⟨rfl, rfl⟩, ⟨Nat.le_refl _, ?_⟩, bls (List.replicate n false), by simp [zeroRep, bls, cellsL], ?_⟩
  · show n * (1 + 1) ≤ _; omega
  refine new_hs hs4 (fun H5 dn e5 l5 hs5 => ?_)
  refine ⟨⟨⟨hs5.get 1 rfl, trivial⟩, ⟨?_, trivial⟩⟩, ?_⟩
  · exact rdCells_of (hs5.get 3 rfl) ⟨_, rfl, _, rfl, _, rfl, rfl⟩
  refine new_hs hs5 (fun H6 nb e6 l6 hs6 => ?_)
  refine ⟨⟨trivial, trivial⟩, ?_⟩
  refine hK0 _ _ ?_
  have := h H6 nb dn mb bc
  have hl : (List.replicate n false).length = n := by simp
  have e1 : (newT kind hosts sides s n nb dn mb bc).nB = .cells true 1 [.int .i64 kind, sv bc sides.length, .int .i64 hosts, shV (sv bc sides.length) s, sv dn n, .map (some mb)] := by
    show Blk.cells true 1 [_, _, _, _, sv dn (List.replicate n false).length, _] = _
    rw [hl]
  have h6 := HS.pick (L' := [(true, nb, .cells true 1 [.int .i64 kind, sv bc sides.length, .int .i64 hosts, shV (sv bc sides.length) s, sv dn n, .map (some mb)]), (true, dn, .cells true 1 (bls (List.replicate n false))), (true, mb, .map true [] 0), (true, bc, rw' sides)]) hs6 [0, 1, 2, 3] (by decide) rfl
  rw [← e1] at h6
  exact this h6

theorem set_hs {H0 H : List Blk} {o : Nat → Prop} {L : List (Bool × Nat × Blk)} (h : HS H0 o L H) (i : Nat) {b : Nat} {B B' : Blk} {K : List Blk → Prop} (hi : L[i]? = some (true, b, B)) (k : ∀ H' : List Blk, H'.length = H.length → HS H0 o (L.set i (true, b, B')) H' → K H') : bsetK H b B' K :=
  set_of (h.lt i hi) fun H' a1 a2 a3 => k H' a1 (h.set i hi a1 a2 a3)
/-- A link is noted as cut. -/
theorem upd_cut {H0 H : List Blk} {o : Nat → Prop} {L : List (Bool × Nat × Blk)} {mb ck : Nat} {cs : CutL} (hs : HS H0 o L H) (i : Nat) (hi : L[i]? = some (true, mb, .map true (cs.map entF) ck)) {a b : Int} (hc : cutF cs a b = false) {K : List Blk → Prop}
    (k : ∀ H', HS H0 o (L.set i (true, mb, .map true ((cs ++ [((a, b), ck)]).map entF) (ck + 1))) H' → K H') :
    wrMap H mb (fun es clock => keyK Tryz.prog T 74 (.agg ⟨[.int .i64 a, .int .i64 b]⟩) (mfind Tryz.prog T 74 (.agg ⟨[.int .i64 a, .int .i64 b]⟩) es 0 (fun r => match r with
      | some p => bsetK H mb (.map true (es.modify p (fun e => { e with key := .agg ⟨[.int .i64 a, .int .i64 b]⟩, val := .bool true })) clock) K
      | none => bsetK H mb (.map true (es ++ [⟨.agg ⟨[.int .i64 a, .int .i64 b]⟩, .bool true, clock⟩]) (clock + 1)) K))) := by
  refine wrMap_of (hs.get i hi) (key_cut (i := ⟨.struct [(0, 3), (1, 3)], 2, 16, .agg #[.int .i64 0, .int .i64 0]⟩) rfl rfl a b (mfind_cut (i := ⟨.struct [(0, 3), (1, 3)], 2, 16, .agg #[.int .i64 0, .int .i64 0]⟩) rfl rfl a b cs 0 _ ?_))
  have hn : cutI cs a b = none := by
    unfold cutF at hc
    cases h : cutI cs a b with
    | none => rfl
    | some p => rw [h] at hc; cases hc
  rw [hn]
  refine set_hs hs i hi (fun H' _ hs' => k H' ?_)
  rw [List.map_append]
  exact hs'
/-- What Cut answers, and the links that are cut then. -/
def ctE (t : Nt) (x y : Nat) : Int := if (y : Int) ∈ t.s.near x then (if cutF t.cs (min (x : Int) y) (max (x : Int) y) = true then 6 else 0) else 4
def ctC (t : Nt) (x y : Nat) : CutL := if (y : Int) ∈ t.s.near x then (if cutF t.cs (min (x : Int) y) (max (x : Int) y) = true then t.cs else t.cs ++ [((min (x : Int) y, max (x : Int) y), t.ck)]) else t.cs
def ctK (t : Nt) (x y : Nat) : Nat := if (y : Int) ∈ t.s.near x then (if cutF t.cs (min (x : Int) y) (max (x : Int) y) = true then t.ck else t.ck + 1) else t.ck

/-- A link is cut. -/
theorem gCut {H0 H : List Blk} {o : Nat → Prop} {L : List (Bool × Nat × Blk)} {R : Value → List Blk → Prop} {t : Nt} {x y n : Nat} {c1 c2 : Bool} (ok : t.Ok) (hn : t.ds.length = n) (hx : x < n) (hy : y < n) (hs : HS H0 o ((true, t.mb, t.mB) :: (c1, t.nb, t.nB) :: (c2, t.b, t.bB) :: L) H)
    (h : ∀ H', HS H0 o ((true, t.mb, .map true ((ctC t x y).map entF) (ctK t x y)) :: (c1, t.nb, t.nB) :: (c2, t.b, t.bB) :: L) H' → R (.int .i64 (ctE t x y)) H') : ACall Tryz.prog 18 [pV t.nb, .int .i64 (x : Int), .int .i64 (y : Int)] H R := by
  refine acall_vcg tok Tryz.call18 Tryz.func18 rfl Tryz.ntmps18 rfl (by simp) ?_
  refine vops_gen (fun K0 hK0 => hK0 _ _ ?_)
  refine vops_gen (fun K0 hK0 => ?_)
  refine g53 ok hn hx hy (HS.re (HS.pick (L' := [(c1, t.nb, t.nB), (c2, t.b, t.bB)]) hs [1, 2] (by decide) rfl) none') (fun H1 hs1 => ?_)
  have hs1 := hs.call hs1 rfl
  by_cases hm : (y : Int) ∈ t.s.near x
  · rw [lkV, if_pos hm]
    refine ⟨_, rfl, _, rfl, ?_⟩
    refine new_hs hs1 (fun H2 lb e2 l2 hs2 => ?_)
    simp only [putK, vops, guardK, cstep, Nat.blt]
    refine store_hs hs2 0 rfl [.int .i64 (min (x : Int) y), .int .i64 (max (x : Int) y)] rfl rfl (Nat.le_refl _) rfl (fun H3 l3 hs3 => ?_)
    refine hK0 _ _ ?_
    clear hK0 K0
    refine vcg_seqG (fun Q0 q1 q2 q3 => ?_)
    refine And.intro (fun h => absurd h (by decide)) (fun _ => ?_)
    refine vcg_draw tok mx [0, 1, 3, 7, 0, 31, 63] [false, false, false, false, true, false, false] [0, 1, 2, 3, 4, 5, 6] (by kernel_rfl) ?_
    refine vopsO_gen (fun K0 hK0 => ?_)
    refine And.intro (by decide) (isCells_of (hs3.get 2 rfl) ?_)
    refine rdCells_of (hs3.get 2 rfl) ?_
    refine ⟨_, rfl, ?_⟩
    refine rdCells_of (hs3.get 0 rfl) ?_
    refine ⟨_, rfl, _, rfl, ?_⟩
    refine look_cut (hs3.get 1 rfl) ?_
    cases hc : cutF t.cs (min (x : Int) y) (max (x : Int) y) with
    | true =>
      refine hK0 _ _ ?_
      refine And.intro (fun _ => ?_) (fun h => absurd h (by decide))
      refine q3 _ _ ?_
      have := h H3 (by rw [ctC, ctK, if_pos hm, if_pos hm, if_pos hc, if_pos hc]; exact hs3.tail)
      rw [ctE, if_pos hm, if_pos hc] at this
      exact this
    | false =>
      refine hK0 _ _ ?_
      clear hK0 K0
      refine And.intro (fun h => absurd h (by decide)) (fun _ => ?_)
      refine q1 _ _ ?_
      clear q1 q2 q3 Q0
      refine vcg_draw tok mx [0, 1, 3, 7, 0, 31] [false, false, false, false, true, false] [0, 1, 2, 3, 4, 5] (by kernel_rfl) ?_
      refine vopsO_gen (fun K0 hK0 => ?_)
      refine And.intro (by decide) (isCells_of (hs3.get 2 rfl) ?_)
      refine rdCells_of (hs3.get 2 rfl) ?_
      refine ⟨_, rfl, ?_⟩
      refine rdCells_of (hs3.get 0 rfl) ?_
      refine ⟨_, rfl, _, rfl, ?_⟩
      refine upd_cut hs3 1 rfl hc (fun H4 hs4 => ?_)
      refine hK0 _ _ ?_
      have := h H4 (by rw [ctC, ctK, if_pos hm, if_pos hm, if_neg (by rw [hc]; decide), if_neg (by rw [hc]; decide)]; exact hs4.tail)
      rw [ctE, if_pos hm, if_neg (by rw [hc]; decide)] at this
      exact this
  · rw [lkV, if_neg hm]
    refine ⟨_, rfl, _, rfl, ?_⟩
    refine new_hs hs1 (fun H2 lb e2 l2 hs2 => ?_)
    simp only [putK, vops, guardK, cstep, Nat.blt]
    refine store_hs hs2 0 rfl [.int .i64 0, .int .i64 0] rfl rfl (Nat.le_refl _) rfl (fun H3 l3 hs3 => ?_)
    refine hK0 _ _ ?_
    clear hK0 K0
    refine vcg_seqG (fun Q0 q1 q2 q3 => ?_)
    refine And.intro (fun _ => ?_) (fun h => absurd h (by decide))
    refine q3 _ _ ?_
    have := h H3 (by rw [ctC, ctK, if_neg hm, if_neg hm]; exact hs3.tail)
    rw [ctE, if_neg hm] at this
    exact this

/-- Whether a link is alive. -/
theorem gAlv {H : List Blk} {R : Value → List Blk → Prop} {t : Nt} {x y n : Nat} (ok : t.Ok) (hn : t.ds.length = n) (hx : x < n) (hy : y < n) (hs : HS H none' (statL [(t.nb, t.nB), (t.dn, t.dB), (t.mb, t.mB), (t.b, t.bB)]) H)
    (h : ∀ H', HS H none' [] H' → R (if (y : Int) ∈ t.s.near x then .tuple ⟨[.bool (t.al x y), .int .i64 0]⟩ else .tuple ⟨[.bool false, .int .i64 4]⟩) H') : ACall Tryz.prog 23 [pV t.nb, .int .i64 (x : Int), .int .i64 (y : Int)] H R := by
  refine acall_vcg tok Tryz.call23 Tryz.func23 rfl Tryz.ntmps23 rfl (by simp) ?_
  refine vops_gen (fun K0 hK0 => hK0 _ _ ?_)
  refine vops_gen (fun K0 hK0 => ?_)
  refine g53 ok hn hx hy (HS.re (HS.pick (L' := [(false, t.nb, t.nB), (false, t.b, t.bB)]) hs [0, 3] (by decide) rfl) none') (fun H1 hs1 => ?_)
  have hs1 := hs.call hs1 rfl
  by_cases hm : (y : Int) ∈ t.s.near x
  · rw [if_pos hm] at h
    rw [lkV, if_pos hm]
    refine ⟨_, rfl, _, rfl, ?_⟩
    refine new_hs hs1 (fun H2 lb e2 l2 hs2 => ?_)
    simp only [putK, vops, guardK, cstep, Nat.blt]
    refine store_hs hs2 0 rfl [.int .i64 (min (x : Int) y), .int .i64 (max (x : Int) y)] rfl rfl (Nat.le_refl _) rfl (fun H3 l3 hs3 => ?_)
    refine hK0 _ _ ?_
    clear hK0 K0
    refine vops_gen (fun K0 hK0 => ?_)
    repeat refine And.intro (fun _ => ?_) (fun h => absurd h (by decide))
    refine n56 ⟨hs3.get 1 rfl, hs3.get 2 rfl, hs3.get 3 rfl⟩ (by omega) (by omega) ?_
    refine hK0 _ _ ?_
    exact h H3 (hs3.pick [] (by decide) rfl)
  · rw [if_neg hm] at h
    rw [lkV, if_neg hm]
    refine ⟨_, rfl, _, rfl, ?_⟩
    refine new_hs hs1 (fun H2 lb e2 l2 hs2 => ?_)
    simp only [putK, vops, guardK, cstep, Nat.blt]
    refine store_hs hs2 0 rfl [.int .i64 0, .int .i64 0] rfl rfl (Nat.le_refl _) rfl (fun H3 l3 hs3 => ?_)
    refine hK0 _ _ ?_
    clear hK0 K0
    refine vops_gen (fun K0 hK0 => ?_)
    repeat refine And.intro (fun h => absurd h (by decide)) (fun _ => ?_)
    refine hK0 _ _ ?_
    exact h H3 (hs3.pick [] (by decide) rfl)
end Go.Af.Tryz
namespace Go.Af.Tryz
open Go Go.Proofs
attribute [local irreducible] awp ACall ACallX AYield AInvoke newSlice isCells rdCells wrCells aAppend rangeEnd roundBegin roundEnd

theorem hs_stat {S : List (Nat × Blk)} {H : List Blk} (hn : (S.map (·.1)).Nodup) (h : ∀ p ∈ S, bget H p.1 = some p.2) : HS H none' (statL S) H := by
  refine ⟨fun {i c b B} hi => ?_, fun {i j p q} hi hj he => ?_, Upd.rfl⟩
  · rw [List.getElem?_map] at hi
    cases hS : S[i]? with
    | none => rw [hS] at hi; cases hi
    | some p' =>
      rw [hS] at hi
      cases hi
      exact ⟨h _ (List.mem_of_getElem? hS), fun h => by cases h⟩
  · rw [List.getElem?_map] at hi hj
    cases hS : S[i]? with
    | none => rw [hS] at hi; cases hi
    | some p' =>
    cases hT : S[j]? with
    | none => rw [hT] at hj; cases hj
    | some q' =>
      rw [hS] at hi; rw [hT] at hj
      cases hi; cases hj
      have h1 : (S.map (·.1))[i]? = some p'.1 := by rw [List.getElem?_map, hS]; rfl
      have h2 : (S.map (·.1))[j]? = some p'.1 := by rw [List.getElem?_map, hT]; exact congrArg some he.symm
      have l1 := (List.getElem?_eq_some_iff.1 h1).1
      exact (List.getElem?_inj l1 hn).1 (h1.trans h2.symm)

theorem WAt.out' {H : List Blk} {b nb tb : Nat} {kf : Nat → Nat} {ns : List Tri} {es : List (List Int)} (hw : WAt H b nb tb kf ns es) {i : Nat} (hi : H.length ≤ i) : Out b nb tb kf es i :=
  ⟨by have := bget_lt hw.w; omega, by have := hw.nl; omega, by have := hw.tl; omega, fun j hj h0 => by have := bget_lt (hw.r j hj h0); omega⟩

/-- What the loops keep: the waits, and blocks that are none of theirs. -/
structure LD (rk : Int → Int → Int → Nat) (wb : Nat) (S : List (Nat × Blk)) (H : List Blk) (nb tb : Nat) (kf : Nat → Nat) (ns : List Tri) (es : List (List Int)) (M : Nat) : Prop where
  w : WAt H wb nb tb kf ns es
  g : Good rk ns es
  s : ∀ p ∈ S, bget H p.1 = some p.2 ∧ Out wb nb tb kf es p.1
  k : (S.map (·.1)).Nodup
  n : ns.length ≤ M
  e : ∀ i, i < es.length → es[i]!.length ≤ M
section
variable {rk : Int → Int → Int → Nat} {wb : Nat} {S : List (Nat × Blk)} {H : List Blk} {nb tb : Nat} {kf : Nat → Nat} {ns : List Tri} {es : List (List Int)} {M : Nat}
theorem LD.hs (h : LD rk wb S H nb tb kf ns es M) : HS H none' (statL S) H := hs_stat h.k (fun p hp => (h.s p hp).1)
/-- A call that keeps all blocks, and makes E. -/
theorem LD.call (h : LD rk wb S H nb tb kf ns es M) {E : List (Nat × Blk)} {H' : List Blk} (c : HS H none' (ownL E) H') : LD rk wb (E ++ S) H' nb tb kf ns es M := by
  have hl := c.le
  have hb : ∀ i, i < H.length → bget H' i = bget H i := fun i hi => c.u.2 i hi (fun h => h)
  have fresh : ∀ p ∈ E, H.length ≤ p.1 ∧ bget H' p.1 = some p.2 := fun p hp => by
    obtain ⟨i, hi, he⟩ := List.getElem_of_mem hp
    have : (ownL E)[i]? = some (true, p.1, p.2) := by rw [List.getElem?_map, List.getElem?_eq_getElem hi, he]; rfl
    have := c.g this
    exact ⟨(this.2 rfl).resolve_left (fun h => h), this.1⟩
  refine ⟨h.w.keep hl (fun i hi _ => hb i hi) (h.w.out' (Nat.le_refl _)), h.g, fun p hp => ?_, ?_, h.n, h.e⟩
  · rcases List.mem_append.1 hp with hp | hp
    · exact ⟨(fresh p hp).2, h.w.out' (fresh p hp).1⟩
    · have := h.s p hp
      exact ⟨by rw [hb _ (bget_lt this.1)]; exact this.1, this.2⟩
  · rw [List.map_append, List.nodup_append]
    refine ⟨?_, h.k, fun a ha b hb' => ?_⟩
    · have := c.nodup
      rwa [List.map_map, show ((·.2.1) ∘ fun (p : Nat × Blk) => (true, p)) = ((·.1) : Nat × Blk → Nat) from rfl] at this
    · obtain ⟨p, hp, rfl⟩ := List.mem_map.1 ha
      obtain ⟨q, hq, rfl⟩ := List.mem_map.1 hb'
      have h1 := (fresh p hp).1
      have h2 := bget_lt (h.s q hq).1
      omega
theorem LD.call0 (h : LD rk wb S H nb tb kf ns es M) {H' : List Blk} (c : HS H none' [] H') : LD rk wb S H' nb tb kf ns es M := h.call (E := []) c
theorem LD.drop {E : List (Nat × Blk)} (h : LD rk wb (E ++ S) H nb tb kf ns es M) : LD rk wb S H nb tb kf ns es M :=
  ⟨h.w, h.g, fun p hp => h.s p (List.mem_append_right _ hp), by have := h.k; rw [List.map_append] at this; exact (List.nodup_append.1 this).2.1, h.n, h.e⟩
theorem LD.le {M' : Nat} (h : LD rk wb S H nb tb kf ns es M) (hm : M ≤ M') : LD rk wb S H nb tb kf ns es M' := ⟨h.w, h.g, h.s, h.k, Nat.le_trans h.n hm, fun i hi => Nat.le_trans (h.e i hi) hm⟩
/-- A path is noted. -/
theorem LD.add (h : LD rk wb S H nb tb kf ns es M) {H' : List Blk} {nb' tb' : Nat} {kf' : Nat → Nat} {ns' : List Tri} {es' : List (List Int)} {M' : Nat} (a : AddI rk H wb nb tb kf es H' nb' tb' kf' ns' es' M') : LD rk wb S H' nb' tb' kf' ns' es' M' :=
  ⟨a.w, a.g, fun p hp => by
    have h1 := h.s p hp
    have := a.f p.1 (bget_lt h1.1) h1.2
    exact ⟨by rw [this.1]; exact h1.1, this.2⟩, h.k, a.n, a.e⟩
end

/-- What Part answers. -/
def PC (t : Nt) (n x : Nat) (pv : Value) (ev : Int) (E : List (Nat × Blk)) : Prop :=
  (t.ds[x]! = true ∧ pv = .slice none 0 0 ∧ ev = 6 ∧ E = []) ∨ (t.ds[x]! = false ∧ ∃ k D, Dst t.nr n x D ∧ pv = sv k (partL D n).length ∧ ev = 0 ∧ E = [(k, rw' (partL D n))])
theorem gPart {H : List Blk} {R : Value → List Blk → Prop} {t : Nt} {x n : Nat} (ok : t.Ok) (hn : t.ds.length = n) (hx : x < n) (hE : HS H none' (statL [(t.nb, t.nB), (t.dn, t.dB), (t.mb, t.mB), (t.b, t.bB)]) H)
    (h : ∀ H' pv ev E, PC t n x pv ev E → HS H none' (ownL E) H' → R (.tuple ⟨[pv, .int .i64 ev]⟩) H') : ACall Tryz.prog 19 [pV t.nb, .int .i64 (x : Int)] H R := by
  have hE' : HS H none' ((false, t.b, t.bB) :: statL t.e) H := HS.pick (L' := [(false, t.b, t.bB), (false, t.nb, t.nB), (false, t.dn, t.dB), (false, t.mb, t.mB)]) hE [3, 0, 1, 2] (by decide) rfl
  by_cases hu : t.ds[x]! = true
  · exact g19d hn hx hu hE' (fun H' hs => h H' _ 6 [] (.inl ⟨hu, rfl, rfl, rfl⟩) hs)
  · have hu : t.ds[x]! = false := by simpa using hu
    exact g19 ok hn hx hu hE' (fun H' k D d hs => h H' _ 0 [(k, rw' (partL D n))] (.inr ⟨hu, k, D, d, rfl, rfl, rfl⟩) hs)

/-- A switch that is down is in no part. -/
theorem down_no {t : Nt} {n x y : Nat} {D : List Int} (d : Dst t.nr n x D) (hx : t.ds[x]! = false) (hy : y < n) (h : t.ds[y]! = true) : D[y]! < 0 := by
  by_cases h0 : 0 ≤ D[y]!
  · rcases d.back y hy h0 with rfl | ⟨w, _, hm, _⟩
    · rw [h] at hx; cases hx
    · have := (List.mem_filter.1 hm).2
      rw [Int.toNat_natCast] at this
      unfold Nt.al at this
      rw [h] at this
      simp at this
  · omega
/-- Detour: what is asked of a row of places. -/
structure DtOk (t : Nt) (n x y : Nat) (l : List Int) : Prop where
  len : l.length ≤ (n + 1) * n + n + n + 1
  way : WayOk t.s n l x y
  up : ∃ B, Up (rkD t n) l (List.replicate (l.length - 1) 0) B
  al : ∀ i, i + 1 < l.length → ∃ a b : Nat, l[i]! = a ∧ l[i + 1]! = b ∧ a < n ∧ b < n ∧ (b : Int) ∈ t.s.near a ∧ t.al a b = true
theorem gDet2 {H : List Blk} {R : Value → List Blk → Prop} {t : Nt} {x y n : Nat} (ok : t.Ok) (hn : t.ds.length = n) (hx : x < n) (hy : y < n) (hE : HS H none' (statL [(t.nb, t.nB), (t.dn, t.dB), (t.mb, t.mB), (t.b, t.bB)]) H)
    (h0 : ∀ H' (fv : Int), fv ≠ 0 → (t.ds[x]! = true ∨ ∀ D, Dst t.nr n x D → D[y]! < 0) → HS H none' [] H' → R (.tuple ⟨[.slice none 0 0, .int .i64 fv]⟩) H')
    (h1 : ∀ H' k l, t.ds[x]! = false → (∀ D, Dst t.nr n x D → 0 ≤ D[y]!) → DtOk t n x y l → HS H none' [(true, k, rw' l)] H' → R (.tuple ⟨[sv k l.length, .int .i64 0]⟩) H') : ACall Tryz.prog 20 [pV t.nb, .int .i64 (x : Int), .int .i64 (y : Int)] H R := by
  refine gDet ok hn hx hy hE (fun hd H' hs => h0 H' 6 (by decide) ?_ hs) (fun H' Dx K hux huy dx dk hlt hs => h0 H' 19 (by decide) (.inr fun D d => ?_) hs) (fun H' k Dx K down both hux huy dx dk hge dd lf hs => ?_)
  · by_cases hux : t.ds[x]! = true
    · exact .inl hux
    · exact .inr fun D d => down_no d (by simpa using hux) hy (hd.resolve_left hux)
  · have e : Dx = D := Dst.eq dx d (fun _ _ _ _ => Iff.rfl)
    subst e
    have := part_eq ok hn dx dk hx (by rw [dx.s0]; exact Int.le_refl _) (rank_x ok hn dx dk) y hy
    omega
  · obtain ⟨a1, a2, a3, a4, a5⟩ := det_all (l := (x : Int) :: dpF t n K down both both[x]!.toNat x true) ok hn hx dx dk hge dd lf rfl
    have := h1 H' k ((x : Int) :: dpF t n K down both both[x]!.toNat x true) hux (fun D d => by
      have e : Dx = D := Dst.eq dx d (fun _ _ _ _ => Iff.rfl)
      subst e
      exact (part_eq ok hn dx dk hx (by rw [dx.s0]; exact Int.le_refl _) (rank_x ok hn dx dk) y hy).2 hge) ⟨a2, a3, a4, a5⟩ hs
    rw [a1] at this
    exact this
end Go.Af.Tryz
namespace Go.Af.Tryz
open Go Go.Proofs
attribute [local irreducible] awp ACall ACallX AYield AInvoke newSlice isCells rdCells wrCells aAppend rangeEnd roundBegin roundEnd


abbrev u8s (l : List Int) : List Value := l.map (Value.int .u8)
theorem u8s_get {l : List Int} {i : Nat} (h : i < l.length) : (u8s l)[0 + i * 1]? = some (.int .u8 l[i]!) := by
  rw [Nat.zero_add, Nat.mul_one, List.getElem?_map, List.getElem?_eq_getElem h, getElem!_pos l i h]; rfl
def u82 : List (Int × Int) → List Value
  | [] => []
  | p :: l => .int .u8 p.1 :: .int .u8 p.2 :: u82 l
theorem tm_nat {v : Int} {n : Nat} (h : 0 ≤ v) : v.tmod n = ((v.toNat % n : Nat) : Int) := by
  obtain ⟨m, rfl⟩ := Int.eq_ofNat_of_zero_le h
  rfl
theorem u82_get : ∀ (l : List (Int × Int)) (i : Nat), i < l.length → (u82 l)[0 + i * 2]? = some (.int .u8 l[i]!.1) ∧ (u82 l)[0 + i * 2 + 1]? = some (.int .u8 l[i]!.2)
  | [], i, h => by simp at h
  | p :: l, 0, h => ⟨rfl, rfl⟩
  | p :: l, i + 1, h => by
    have := u82_get l i (by simpa using h)
    rw [show 0 + (i + 1) * 2 = (0 + i * 2) + 1 + 1 by omega]
    exact this

/-- The network while switches go down and links are cut. -/
abbrev ntT (kind hosts : Int) (sides : List Int) (s : Sh) (nb dn mb b : Nat) (ds : List Bool) (cs : CutL) (ck : Nat) : Nt := ⟨kind, hosts, sides, s, ds, cs, ck, nb, dn, mb, b⟩

structure LS2 where
  H : List Blk
  nb : Nat
  tb : Nat
  kf : Nat → Nat
  ns : List Tri
  es : List (List Int)
  i : Nat

set_option maxHeartbeats 8000000 in
theorem k4d (kind hosts : Int) (sides : List Int) (downs : List Int) (cuts : List (Int × Int)) (hdv : ∀ i, i < downs.length → 0 ≤ downs[i]! ∧ downs[i]! < 256) (hcv : ∀ i, i < cuts.length → (0 ≤ cuts[i]!.1 ∧ cuts[i]!.1 < 256) ∧ 0 ≤ cuts[i]!.2 ∧ cuts[i]!.2 < 256) {m : LM} {argsR : Array Value} {w : World} (ha : LRel m [spV kind (sv 0 sides.length) hosts, sv 1 downs.length, sv 2 cuts.length] argsR.toList) (hr : HRel m [ro sides, .cells false 1 (u8s downs), .cells false 2 (u82 cuts)] w) :
    Calls Tryz.prog 4 argsR w fun e w' => ∃ vR, e = .returned vR ∧ AppOut m [ro sides, .cells false 1 (u8s downs), .cells false 2 (u82 cuts)] w (fun v _ => v = .bool true) vR w' := by
  refine calls_vcg tok Tryz.func4 rfl Tryz.ntmps4 rfl (by simp) ?_ ha hr
  have hs0 := hs_stat (S := [(0, ro sides), (1, .cells false 1 (u8s downs)), (2, .cells false 2 (u82 cuts))]) (H := [ro sides, .cells false 1 (u8s downs), .cells false 2 (u82 cuts)]) (by show [0, 1, 2].Nodup; decide) (by simp; exact ⟨rfl, rfl, rfl⟩)
  generalize hH0 : [ro sides, .cells false 1 (u8s downs), .cells false 2 (u82 cuts)] = H0 at hs0 ⊢
  refine new_hs hs0 (fun H1 sb e1 l1 hs1 => ?_)
  refine vops_gen (fun K0 hK0 => hK0 _ _ ?_)
  refine rdCells_of (hs1.get 0 rfl) ?_
  refine ⟨_, rfl, _, rfl, _, rfl, ?_⟩
  (first | refine c19 (hs1.get 1 rfl) (Nat.le_refl _) ?_ | refine (c19 (hs1.get 1 rfl) (Nat.le_refl _) ?_).call)
  rcases szF_or' (shapeF kind sides hosts) 16 with hz | ⟨s, hs, hsw, hz⟩
  · rw [hz]
    refine ⟨_, rfl, _, rfl, ?_⟩
    refine vops_gen (fun K0 hK0 => hK0 _ _ ?_)
    refine vcg_seqG (fun Q0 q1 q2 q3 => ?_)
    refine vops_gen (fun K0 hK0 => ?_)
    repeat refine And.intro (fun h => absurd h (by decide)) (fun _ => ?_)
    refine hK0 _ _ ?_
    clear hK0 K0
    refine And.intro (fun _ => ?_) (fun h => absurd h (by decide))
    (first | refine c12 ?_ | refine (c12 ?_).call)
    refine q3 _ _ ?_
    exact rfl
  rw [hz]
  refine ⟨_, rfl, _, rfl, ?_⟩
  have hok := shapeF_ok hs
  have hof := shapeF_of hs
  have hbd := sw_bd hok
  obtain ⟨n, hn⟩ : ∃ n : Nat, s.sw = n := ⟨s.sw.toNat, by omega⟩
  rw [hn]
  refine vops_gen (fun K0 hK0 => hK0 _ _ ?_)
  refine vcg_seqG (fun Q0 q1 q2 q3 => ?_)
  have hn1 : 1 ≤ n := by omega
  by_cases hl : 20 < downs.length ∨ 20 < cuts.length
  · refine vops_gen (fun K0 hK0 => ?_)
    refine And.intro (fun _ => ?_) (fun h => by simp at h; omega)
    by_cases h1 : 20 < downs.length
    · have hd : decide ((20 : Int) < (downs.length : Int)) = true := decide_eq_true (by omega)
      repeat (first | refine And.intro (fun _ => ?_) (fun h => absurd h (by first | decide | (rw [hd]; decide))) | refine And.intro (fun h => absurd h (by first | decide | (rw [hd]; decide))) (fun _ => ?_))
      refine hK0 _ _ ?_
      clear hK0 K0
      refine And.intro (fun _ => ?_) (fun h => absurd h (by first | decide | (rw [hd]; decide)))
      (first | refine c12 ?_ | refine (c12 ?_).call)
      refine q3 _ _ ?_
      exact rfl
    · have hd : decide ((20 : Int) < (downs.length : Int)) = false := decide_eq_false (by omega)
      have hc : decide ((20 : Int) < (cuts.length : Int)) = true := decide_eq_true (by omega)
      repeat (first | refine And.intro (fun _ => ?_) (fun h => absurd h (by first | decide | (rw [hd]; decide))) | refine And.intro (fun h => absurd h (by first | decide | (rw [hd]; decide))) (fun _ => ?_))
      refine hK0 _ _ ?_
      clear hK0 K0
      refine And.intro (fun _ => ?_) (fun h => absurd h (by rw [hc]; decide))
      (first | refine c12 ?_ | refine (c12 ?_).call)
      refine q3 _ _ ?_
      exact rfl
  have hd : decide ((20 : Int) < (downs.length : Int)) = false := decide_eq_false (by omega)
  have hc : decide ((20 : Int) < (cuts.length : Int)) = false := decide_eq_false (by omega)
  refine vops_gen (fun K0 hK0 => ?_)
  refine And.intro (fun _ => ?_) (fun h => by simp at h; omega)
  repeat (first | refine And.intro (fun _ => ?_) (fun h => absurd h (by first | decide | (rw [hd]; decide))) | refine And.intro (fun h => absurd h (by first | decide | (rw [hd]; decide))) (fun _ => ?_))
  refine hK0 _ _ ?_
  clear hK0 K0
  refine And.intro (fun h => absurd h (by rw [hc]; decide)) (fun _ => ?_)
  refine q1 _ _ ?_
  clear q1 q2 q3 Q0
  refine vops_gen (fun K0 hK0 => ?_)
  refine rdCells_of (hs1.get 0 rfl) ?_
  refine ⟨_, rfl, _, rfl, _, rfl, ?_⟩
  refine gNew hs hn (hs1.get 1 rfl) (fun H2 nb dn mb b' hs2 => ?_)
  have hs2 := hs1.call hs2 rfl
  refine ⟨_, rfl, _, rfl, ?_⟩
  refine hK0 _ _ ?_
  clear hK0 K0
  refine vcg_seqG (fun Q0 q1 q2 q3 => ?_)
  refine And.intro (fun h => absurd h (by decide)) (fun _ => ?_)
  refine q1 _ _ ?_
  clear q1 q2 q3 Q0
  have hs2 : HS H0 none' [(true, dn, (ntT kind hosts sides s nb dn mb b' (List.replicate n false) [] 0).dB), (true, nb, (ntT kind hosts sides s nb dn mb b' (List.replicate n false) [] 0).nB), (true, mb, (ntT kind hosts sides s nb dn mb b' (List.replicate n false) [] 0).mB), (true, b', rw' sides), (true, sb, spB kind hosts sides), (false, 0, ro sides), (false, 1, .cells false 1 (u8s downs)), (false, 2, .cells false 2 (u82 cuts))] H2 :=
    hs2.pick [1, 0, 2, 3, 4, 5, 6, 7] (by decide) rfl
  refine vcg_loopR (α := List Blk × List Bool × Nat) tok (fun z => z.2.1.length = n ∧ z.2.2 ≤ downs.length ∧ HS H0 none' [(true, dn, (ntT kind hosts sides s nb dn mb b' z.2.1 [] 0).dB), (true, nb, (ntT kind hosts sides s nb dn mb b' z.2.1 [] 0).nB), (true, mb, (ntT kind hosts sides s nb dn mb b' z.2.1 [] 0).mB), (true, b', rw' sides), (true, sb, spB kind hosts sides), (false, 0, ro sides), (false, 1, .cells false 1 (u8s downs)), (false, 2, .cells false 2 (u82 cuts))] z.1)
    (fun | (_, _, i) => [(1, sv 1 downs.length), (2, sv 2 cuts.length), (3, pV sb), (7, .int .i64 (n : Int)), (9, pV nb), (11, .int .i64 (i : Int))]) (fun | (H', _, _) => H') (fun z => downs.length - z.2.2) (H2, List.replicate n false, 0) ⟨by simp, Nat.zero_le _, hs2⟩ (Or.inl ⟨⟨rfl, rfl, rfl, rfl, rfl, rfl, trivial⟩, rfl⟩) ?_
  clear hs2
  rintro ⟨H3, ds, i⟩ ⟨hds, hi, hs3⟩
  simp only at hds hi hs3
  refine And.intro (fun hcc => ?_) (fun hcc => ?_)
  · have hlt : i < downs.length := by simpa using hcc
    have hv := hdv i hlt
    refine isCells_of (hs3.get 6 rfl) ⟨i, rfl, hlt, ?_⟩
    refine rdCells_of (hs3.get 6 rfl) ?_
    refine ⟨_, u8s_get hlt, ?_⟩
    refine Or.inl ⟨downs[i]!, rfl, by unfold I64; omega, ?_⟩
    have hxn : downs[i]!.toNat % n < n := Nat.mod_lt _ (by omega)
    refine ⟨by omega, _, tm_nat hv.1, ?_⟩
    refine g17 (t := ntT kind hosts sides s nb dn mb b' ds [] 0) (x := downs[i]!.toNat % n) (by show _ < ds.length; omega) hs3 (fun H4 hs4 => ?_)
    refine Or.inl ⟨((i + 1 : Nat) : Int), by simp, by unfold I64; omega, ?_⟩
    refine ⟨(H4, ds.set (downs[i]!.toNat % n) true, i + 1), ⟨by simpa using hds, hlt, ?_⟩, by simp only; omega, Or.inl ⟨⟨rfl, rfl, rfl, rfl, rfl, rfl, trivial⟩, rfl⟩⟩
    have e : (ntT kind hosts sides s nb dn mb b' (ds.set (downs[i]!.toNat % n) true) [] 0).nB = (ntT kind hosts sides s nb dn mb b' ds [] 0).nB := by
      show Blk.cells true 1 [_, _, _, _, sv dn (ds.set (downs[i]!.toNat % n) true).length, _] = _
      rw [List.length_set]
    simp only [e]
    exact hs4
  have hs3 : HS H0 none' [(true, mb, (ntT kind hosts sides s nb dn mb b' ds [] 0).mB), (true, nb, (ntT kind hosts sides s nb dn mb b' ds [] 0).nB), (true, b', rw' sides), (true, dn, (ntT kind hosts sides s nb dn mb b' ds [] 0).dB), (true, sb, spB kind hosts sides), (false, 0, ro sides), (false, 1, .cells false 1 (u8s downs)), (false, 2, .cells false 2 (u82 cuts))] H3 :=
    hs3.pick [2, 1, 3, 0, 4, 5, 6, 7] (by decide) rfl
  refine vcg_loopR (α := List Blk × (CutL × Nat) × Nat) tok (fun z => z.2.2 ≤ cuts.length ∧ HS H0 none' [(true, mb, (ntT kind hosts sides s nb dn mb b' ds z.2.1.1 z.2.1.2).mB), (true, nb, (ntT kind hosts sides s nb dn mb b' ds z.2.1.1 z.2.1.2).nB), (true, b', rw' sides), (true, dn, (ntT kind hosts sides s nb dn mb b' ds z.2.1.1 z.2.1.2).dB), (true, sb, spB kind hosts sides), (false, 0, ro sides), (false, 1, .cells false 1 (u8s downs)), (false, 2, .cells false 2 (u82 cuts))] z.1)
    (fun | (_, _, i) => [(1, sv 1 downs.length), (2, sv 2 cuts.length), (3, pV sb), (7, .int .i64 (n : Int)), (9, pV nb), (12, .int .i64 (i : Int))]) (fun | (H', _, _) => H') (fun z => cuts.length - z.2.2) (H3, ([], 0), 0) ⟨Nat.zero_le _, hs3⟩ (Or.inl ⟨⟨rfl, rfl, rfl, rfl, rfl, rfl, trivial⟩, rfl⟩) ?_
  clear hs3 hi hcc
  rintro ⟨H4, ⟨cs, ck⟩, j⟩ ⟨hj, hs4⟩
  simp only at hj hs4
  refine And.intro (fun hcc => ?_) (fun hcc => ?_)
  · have hlt : j < cuts.length := by simpa using hcc
    have hv := hcv j hlt
    obtain ⟨u1, u2⟩ := u82_get cuts j hlt
    have ok : (ntT kind hosts sides s nb dn mb b' ds cs ck).Ok := ⟨hok, hof, by show s.sw = ds.length; omega⟩
    refine vcg_draw tok mx [0, 0, 0, 6, 14, 30, 62, 0, 254, 0, 0, 1536, 3584, 7680, 15872, 0, 65024, 131071] [false, false, false, false, false, false, false, true, false, true, true, true, true, true, true, true, true, false] [0, 1, 2, 3, 4, 5, 6, 7, 8, 9, 10, 11, 12, 13, 14, 15, 16, 17] (by kernel_rfl) ?_
    refine vopsO_gen (fun K0 hK0 => ?_)
    refine isCells_of (hs4.get 7 rfl) ⟨j, rfl, hlt, ?_⟩
    refine isCells_of (hs4.get 7 rfl) ⟨0, rfl, (show 0 < 2 by decide), ?_⟩
    refine rdCells_of (hs4.get 7 rfl) ?_
    refine ⟨_, u1, ?_⟩
    refine Or.inl ⟨cuts[j]!.1, rfl, by unfold I64; omega, ?_⟩
    refine ⟨by omega, _, tm_nat hv.1.1, ?_⟩
    refine isCells_of (hs4.get 7 rfl) ⟨j, rfl, hlt, ?_⟩
    refine isCells_of (hs4.get 7 rfl) ⟨1, rfl, (show 1 < 2 by decide), ?_⟩
    refine rdCells_of (hs4.get 7 rfl) ?_
    refine ⟨_, u2, ?_⟩
    refine Or.inl ⟨cuts[j]!.2, rfl, by unfold I64; omega, ?_⟩
    refine ⟨by omega, _, tm_nat hv.2.1, ?_⟩
    have hxn : cuts[j]!.1.toNat % n < n := Nat.mod_lt _ (by omega)
    have hyn : cuts[j]!.2.toNat % n < n := Nat.mod_lt _ (by omega)
    refine gCut (t := ntT kind hosts sides s nb dn mb b' ds cs ck) (x := cuts[j]!.1.toNat % n) (y := cuts[j]!.2.toNat % n) ok hds hxn hyn hs4 (fun H5 hs5 => ?_)
    refine hK0 _ _ ?_
    clear hK0 K0
    refine Or.inl ⟨((j + 1 : Nat) : Int), by simp, by unfold I64; omega, ?_⟩
    exact ⟨(H5, (_, _), j + 1), ⟨hlt, hs5⟩, by simp only; omega, Or.inl ⟨⟨rfl, rfl, rfl, rfl, rfl, rfl, trivial⟩, rfl⟩⟩
  clear hj hcc
  obtain ⟨t, ht⟩ : ∃ t, t = ntT kind hosts sides s nb dn mb b' ds cs ck := ⟨_, rfl⟩
  have ok : t.Ok := by rw [ht]; exact ⟨hok, hof, by show s.sw = ds.length; omega⟩
  have hs4 : HS H0 none' [(true, t.mb, t.mB), (true, t.nb, t.nB), (true, t.b, t.bB), (true, t.dn, t.dB), (true, sb, spB kind hosts sides), (false, 0, ro sides), (false, 1, .cells false 1 (u8s downs)), (false, 2, .cells false 2 (u82 cuts))] H4 := by rw [ht]; exact hs4
  have htn : t.ds.length = n := by rw [ht]; exact hds
  have hts : t.s = s := by rw [ht]
  have hnb : t.nb = nb := by rw [ht]
  clear ht hds
  obtain ⟨S, hS⟩ : ∃ S, S = [(t.nb, t.nB), (t.dn, t.dB), (t.mb, t.mB), (t.b, t.bB), (sb, spB kind hosts sides), (0, ro sides)] := ⟨_, rfl⟩
  have hs5 : HS H4 none' (statL S) H4 := by rw [hS]; exact HS.re (HS.pick (L' := [(true, t.nb, t.nB), (true, t.dn, t.dB), (true, t.mb, t.mB), (true, t.b, t.bB), (true, sb, spB kind hosts sides), (false, 0, ro sides)]) hs4 [1, 3, 0, 2, 4, 5] (by decide) rfl) none'
  clear hs4
  refine new_hs hs5 (fun H5 wb e5 l5 hs6 => ?_)
  have hLD : LD (rkD t n) wb S H5 wb wb (fun _ => 0) [] [] (400 * (0 * 16)) :=
    ⟨⟨hs6.get 0 rfl, (fun h => by simp at h), (fun h => by simp at h), (fun i h => by simp at h), (fun h => by simp at h), (fun h => by simp at h), (fun i h => by simp at h), (fun i j h => by simp at h), rfl, hs6.lt 0 rfl, hs6.lt 0 rfl⟩, (fun i h => by simp at h), (fun p hp => by
      obtain ⟨i, hi, he⟩ := List.getElem_of_mem hp
      have h1 : (statL S)[i]? = some (false, p.1, p.2) := by rw [List.getElem?_map, List.getElem?_eq_getElem hi, he]; rfl
      refine ⟨hs6.tail.get i h1, ?_⟩
      have := hs6.ne 0 (i + 1) rfl h1 (by omega)
      exact ⟨Ne.symm this, Ne.symm this, Ne.symm this, fun j h => by simp at h⟩), by
      have := hs5.nodup
      rwa [List.map_map, show ((·.2.1) ∘ fun (p : Nat × Blk) => (false, p)) = ((·.1) : Nat × Blk → Nat) from rfl] at this, by simp, fun i h => by simp at h⟩
  clear hs6 hs5
  subst hnb
  have net : ∀ {H : List Blk} {nb' tb : Nat} {kf : Nat → Nat} {ns : List Tri} {es : List (List Int)} {M : Nat}, LD (rkD t n) wb S H nb' tb kf ns es M → HS H none' (statL [(t.nb, t.nB), (t.dn, t.dB), (t.mb, t.mB), (t.b, t.bB)]) H ∧ bget H sb = some (spB kind hosts sides) ∧ bget H 0 = some (ro sides) :=
    fun h => ⟨by have := h.hs; rw [hS] at this; exact this.pick [0, 1, 2, 3] (by decide) rfl, (h.s (sb, _) (by rw [hS]; simp)).1, (h.s (0, _) (by rw [hS]; simp)).1⟩
  have hm0 : (0, ro sides) ∈ S := by rw [hS]; simp
  clear hS
  refine vcg_loopR (α := LS2) tok (fun z => LD (rkD t n) wb S z.H z.nb z.tb z.kf z.ns z.es (400 * (z.i * 16)) ∧ z.i ≤ n)
    (fun | ⟨_, _, _, _, _, _, i⟩ => [(3, pV sb), (7, .int .i64 (n : Int)), (9, pV t.nb), (13, pV wb), (14, .int .i64 (i : Int))]) (fun | ⟨H', _, _, _, _, _, _⟩ => H') (fun z => n - z.i)
    ⟨H5, wb, wb, fun _ => 0, [], [], 0⟩ ⟨hLD, Nat.zero_le _⟩ (Or.inl ⟨⟨rfl, rfl, rfl, rfl, rfl, trivial⟩, rfl⟩) ?_
  clear hLD e5 l5 H5 hd hc hl
  rintro ⟨H1, nb1, tb1, kf1, ns1, es1, x⟩ ⟨hI, hx⟩
  simp only at hI hx
  refine And.intro (fun hc => ?_) (fun hc => ?_)
  · have hxn : x < n := by simpa using hc
    refine gPart ok htn hxn (net hI).1 (fun H2 pv ev E hC hs2 => ?_)
    have hI := hI.call hs2
    refine ⟨_, rfl, _, rfl, ?_⟩
    refine vcg_loopR (α := LS2) tok (fun z => LD (rkD t n) wb (E ++ S) z.H z.nb z.tb z.kf z.ns z.es (400 * (x * 16 + z.i)) ∧ z.i ≤ n)
      (fun | ⟨_, _, _, _, _, _, i⟩ => [(3, pV sb), (7, .int .i64 (n : Int)), (9, pV t.nb), (13, pV wb), (14, .int .i64 (x : Int)), (15, pv), (16, .int .i64 ev), (17, .int .i64 (i : Int))]) (fun | ⟨H', _, _, _, _, _, _⟩ => H') (fun z => n - z.i)
      ⟨H2, nb1, tb1, kf1, ns1, es1, 0⟩ ⟨hI, Nat.zero_le _⟩ (Or.inl ⟨⟨rfl, rfl, rfl, rfl, rfl, rfl, rfl, rfl, trivial⟩, rfl⟩) ?_
    clear hI hs2
    rintro ⟨H3, nb3, tb3, kf3, ns3, es3, y⟩ ⟨hI, hy⟩
    simp only at hI hy
    refine And.intro (fun hc => ?_) (fun hc => ?_)
    · have hyn : y < n := by simpa using hc
      refine gDet2 ok htn hxn hyn (net hI.drop).1 (fun H4 fv hfv hno hs4 => ?_) (fun H4 k l hux hyes hdt hs4 => ?_)
      · have hI := hI.call0 hs4
        refine ⟨_, rfl, _, rfl, ?_⟩
        have hf0 : decide (fv = 0) = false := decide_eq_false hfv
        have hm : 400 * (x * 16 + y) ≤ 400 * (x * 16 + (y + 1)) := by omega
        refine vcg_seqG (fun Q0 q1 q2 q3 => ?_)
        rcases hC with ⟨hu, rfl, rfl, rfl⟩ | ⟨hu, pk, D, d, rfl, rfl, rfl⟩
        · refine vops_gen (fun K0 hK0 => ?_)
          repeat (first | refine And.intro (fun _ => ?_) (fun h => absurd h (by decide)) | refine And.intro (fun h => absurd h (by decide)) (fun _ => ?_))
          refine hK0 _ _ ?_
          clear hK0 K0
          refine And.intro (fun h => absurd h (by rw [hf0]; decide)) (fun _ => ?_)
          refine q1 _ _ ?_
          clear q1 q2 q3 Q0
          refine vcg_seqG (fun Q0 q1 q2 q3 => ?_)
          refine And.intro (fun _ => ?_) (fun h => absurd h (by rw [hf0]; decide))
          refine q2 _ _ _ ?_
          refine Or.inl ⟨((y + 1 : Nat) : Int), by simp, by unfold I64; omega, ?_⟩
          exact ⟨⟨H4, nb3, tb3, kf3, ns3, es3, y + 1⟩, ⟨LD.le hI hm, hyn⟩, by simp only; omega, Or.inl ⟨⟨rfl, rfl, rfl, rfl, rfl, rfl, rfl, rfl, trivial⟩, rfl⟩⟩
        · refine vops_gen (fun K0 hK0 => ?_)
          repeat (first | refine And.intro (fun _ => ?_) (fun h => absurd h (by decide)) | refine And.intro (fun h => absurd h (by decide)) (fun _ => ?_))
          have hD := hno.resolve_left (by rw [hu]; decide) D d
          have hpl := partL_len D n
          have hin : decide ((y : Int) ∈ partL D n) = false := decide_eq_false (fun h => by have := (partL_mem.1 h).2; rw [Int.toNat_natCast] at this; omega)
          (first | refine c42 (Rd.lit (hI.s (pk, rw' (partL D n)) (by simp)).1 (Nat.le_refl _)) (by omega) ?_ | refine (c42 (Rd.lit (hI.s (pk, rw' (partL D n)) (by simp)).1 (Nat.le_refl _)) (by omega) ?_).call)
          rw [hin]
          repeat (first | refine And.intro (fun _ => ?_) (fun h => absurd h (by decide)) | refine And.intro (fun h => absurd h (by decide)) (fun _ => ?_))
          refine hK0 _ _ ?_
          clear hK0 K0
          refine And.intro (fun h => absurd h (by rw [hf0]; decide)) (fun _ => ?_)
          refine q1 _ _ ?_
          clear q1 q2 q3 Q0
          refine vcg_seqG (fun Q0 q1 q2 q3 => ?_)
          refine And.intro (fun _ => ?_) (fun h => absurd h (by rw [hf0]; decide))
          refine q2 _ _ _ ?_
          refine Or.inl ⟨((y + 1 : Nat) : Int), by simp, by unfold I64; omega, ?_⟩
          exact ⟨⟨H4, nb3, tb3, kf3, ns3, es3, y + 1⟩, ⟨LD.le hI hm, hyn⟩, by simp only; omega, Or.inl ⟨⟨rfl, rfl, rfl, rfl, rfl, rfl, rfl, rfl, trivial⟩, rfl⟩⟩
      · have hI4 := hI.call (E := [(k, rw' l)]) hs4
        clear hI hs4
        rcases hC with ⟨hu, _, _, _⟩ | ⟨hu, pk, D, d, rfl, rfl, rfl⟩
        · rw [hu] at hux; cases hux
        have hD := hyes D d
        have hpl := partL_len D n
        have hin : decide ((y : Int) ∈ partL D n) = true := decide_eq_true (partL_mem.2 ⟨by omega, by rw [Int.toNat_natCast]; exact hD⟩)
        have hll : l.length ≤ 400 := by
          have := hdt.len
          have : (n + 1) * n ≤ 17 * 16 := Nat.mul_le_mul (by omega) (by omega)
          omega
        have hway : WayOk s n l x y := by rw [← hts]; exact hdt.way
        have hlp := hway.pos
        refine ⟨_, rfl, _, rfl, ?_⟩
        refine vcg_seqG (fun Q0 q1 q2 q3 => ?_)
        refine vops_gen (fun K0 hK0 => ?_)
        repeat (first | refine And.intro (fun _ => ?_) (fun h => absurd h (by decide)) | refine And.intro (fun h => absurd h (by decide)) (fun _ => ?_))
        (first | refine c42 (Rd.lit (hI4.s (pk, rw' (partL D n)) (by simp)).1 (Nat.le_refl _)) (by omega) ?_ | refine (c42 (Rd.lit (hI4.s (pk, rw' (partL D n)) (by simp)).1 (Nat.le_refl _)) (by omega) ?_).call)
        rw [hin]
        repeat (first | refine And.intro (fun _ => ?_) (fun h => absurd h (by decide)) | refine And.intro (fun h => absurd h (by decide)) (fun _ => ?_))
        refine hK0 _ _ ?_
        clear hK0 K0
        refine And.intro (fun h => absurd h (by decide)) (fun _ => ?_)
        refine q1 _ _ ?_
        clear q1 q2 q3 Q0
        refine vcg_seqG (fun Q0 q1 q2 q3 => ?_)
        refine And.intro (fun h => absurd h (by decide)) (fun _ => ?_)
        refine q1 _ _ ?_
        clear q1 q2 q3 Q0
        refine vops_gen (fun K0 hK0 => ?_)
        refine rdCells_of ((net hI4.drop.drop).2.1) ?_
        refine ⟨_, rfl, _, rfl, _, rfl, ?_⟩
        refine g43 hs hn hxn hyn (net hI4.drop.drop).2.2 (fun H5 Dy hdy hs5 => ?_)
        have hI5 := hI4.call0 hs5
        clear hI4 hs5
        obtain ⟨w1, w2⟩ := way_up hok hn hway hdy
        refine ⟨_, rfl, _, rfl, ?_⟩
        refine hK0 _ _ ?_
        clear hK0 K0
        refine vcg_seqG (fun Q0 q1 q2 q3 => ?_)
        refine vops_gen (fun K0 hK0 => ?_)
        repeat (first | refine And.intro (fun _ => ?_) (fun h => absurd h (by decide)) | refine And.intro (fun h => absurd h (by decide)) (fun _ => ?_))
        refine rdCells_of ((net hI5.drop.drop).2.1) ?_
        refine ⟨_, rfl, _, rfl, _, rfl, ?_⟩
        repeat (first | refine And.intro (fun _ => ?_) (fun h => absurd h (by decide)) | refine And.intro (fun h => absurd h (by decide)) (fun _ => ?_))
        have hsl : bget H5 k = some (rw' l) := (hI5.s (k, rw' l) (by simp)).1
        have hs0 := (net hI5.drop.drop).2.2
        have hne : (0 : Nat) ≠ k := by
          have h1 : (k :: pk :: S.map (·.1)).Nodup := hI5.k
          have h2 := (List.nodup_cons.1 h1).1
          exact fun e => h2 (List.mem_cons_of_mem _ (List.mem_map.2 ⟨_, hm0, e⟩))
        refine g44 hs hn hway (by omega) hs0 hsl (List.take_length) hne (fun H6 hs6 => ?_)
        have hI6 := hI5.call0 hs6
        clear hI5 hs6 hsl hs0
        have hlt : decide (((l.length - 1 : Nat) : Int) < Dy[x]!) = false := decide_eq_false (by omega)
        repeat (first | refine And.intro (fun _ => ?_) (fun h => absurd h (by decide)) | refine And.intro (fun h => absurd h (by decide)) (fun _ => ?_))
        refine Or.inl ⟨((l.length - 1 : Nat) : Int), by omega, by unfold I64; omega, ?_⟩
        repeat (first | refine And.intro (fun _ => ?_) (fun h => absurd h (by decide)) | refine And.intro (fun h => absurd h (by decide)) (fun _ => ?_))
        refine hK0 _ _ ?_
        clear hK0 K0
        refine And.intro (fun h => absurd h (by first | decide | (rw [hlt]; decide))) (fun _ => ?_)
        refine q1 _ _ ?_
        clear q1 q2 q3 Q0
        refine vcg_loopR (α := List Blk × Nat) tok (fun z => LD (rkD t n) wb ([(k, rw' l)] ++ ([(pk, rw' (partL D n))] ++ S)) z.1 nb3 tb3 kf3 ns3 es3 (400 * (x * 16 + y)) ∧ 1 ≤ z.2 ∧ z.2 ≤ l.length)
          (fun z => [(3, pV sb), (7, .int .i64 (n : Int)), (9, pV t.nb), (13, pV wb), (14, .int .i64 (x : Int)), (15, sv pk (partL D n).length), (16, .int .i64 0), (17, .int .i64 (y : Int)), (18, sv k l.length), (22, .int .i64 (z.2 : Int))]) (fun z => z.1) (fun z => l.length - z.2)
          (H6, 1) ⟨hI6, Nat.le_refl _, hlp⟩ (Or.inl ⟨⟨rfl, rfl, rfl, rfl, rfl, rfl, rfl, rfl, rfl, rfl, trivial⟩, rfl⟩) ?_
        clear hI6 hlt
        rintro ⟨H7, i⟩ ⟨hI7, h1, hi⟩
        simp only at hI7 h1 hi
        have hsl : bget H7 k = some (rw' l) := (hI7.s (k, rw' l) (by simp)).1
        refine And.intro (fun hcc => ?_) (fun hcc => ?_)
        · have hlt : i < l.length := by simpa using hcc
          obtain ⟨i, rfl⟩ : ∃ j, i = j + 1 := ⟨i - 1, by omega⟩
          obtain ⟨a, b, ea, eb, han, hbn, hm, hal⟩ := hdt.al i hlt
          refine vcg_draw tok mx [0, 0, 0, 4, 14, 30, 0, 0, 192, 448, 1023, 2047, 4095, 4095, 8191, 32767] [false, false, false, false, false, false, true, true, true, true, false, false, false, false, false, false] [0, 1, 2, 3, 4, 5, 6, 7, 8, 9, 10, 11, 12, 13, 14, 15] (by kernel_rfl) ?_
          refine vopsO_gen (fun K0 hK0 => ?_)
          refine Or.inl ⟨(i : Int), by rw [Int.natCast_add]; omega, by unfold I64; omega, ?_⟩
          refine isCells_of hsl ⟨i, rfl, by omega, ?_⟩
          refine rdCells_of hsl (Ld_ints i l[i]! (by simp) (by simp [show i < l.length by omega]) ?_)
          refine isCells_of hsl ⟨i + 1, rfl, by omega, ?_⟩
          refine rdCells_of hsl (Ld_ints (i + 1) l[i + 1]! (by simp) (by simp [hlt]) ?_)
          rw [ea, eb]
          refine gAlv ok htn han hbn (net hI7.drop.drop).1 (fun H8 hs8 => ?_)
          rw [if_pos hm, hal]
          refine ⟨_, rfl, _, rfl, ?_⟩
          refine hK0 _ _ ?_
          clear hK0 K0
          refine vcg_seqG (fun Q0 q1 q2 q3 => ?_)
          refine vops_gen (fun K0 hK0 => ?_)
          repeat (first | refine And.intro (fun _ => ?_) (fun h => absurd h (by decide)) | refine And.intro (fun h => absurd h (by decide)) (fun _ => ?_))
          refine hK0 _ _ ?_
          clear hK0 K0
          refine q1 _ _ ?_
          clear q1 q2 q3 Q0
          refine And.intro (fun h => absurd h (by decide)) (fun _ => ?_)
          refine Or.inl ⟨((i + 1 + 1 : Nat) : Int), by simp, by unfold I64; omega, ?_⟩
          exact ⟨(H8, i + 1 + 1), ⟨hI7.call0 hs8, by omega, hlt⟩, by simp only; omega, Or.inl ⟨⟨rfl, rfl, rfl, rfl, rfl, rfl, rfl, rfl, rfl, rfl, trivial⟩, rfl⟩⟩
        · refine vops_gen (fun K0 hK0 => ?_)
          refine ⟨by decide, l.length, l.length, ⟨rfl, rfl⟩, ⟨Nat.le_refl _, by simp only; omega⟩, ints (List.replicate l.length 0), by simp [zeroRep, ints, cellsL], ?_⟩
          refine new_hs hI7.hs (fun H8 zb e8 l8 hs8 => ?_)
          have hI8 := hI7.call (E := [(zb, rw' (List.replicate l.length 0))]) (H' := H8) (hs8.pick (L' := [(true, zb, rw' (List.replicate l.length 0))]) [0] (by decide) rfl)
          obtain ⟨B, hup⟩ := hdt.up
          have hbk : bget H8 k = some (rw' l) := (hI8.s (k, rw' l) (by simp)).1
          have hbz : bget H8 zb = some (rw' (List.replicate l.length 0)) := (hI8.s (zb, rw' (List.replicate l.length 0)) (by simp)).1
          have hM : 400 * (x * 16 + y) + l.length ≤ 1000000 := by omega
          refine g20 hI8.w hI8.g hup hM hI8.n hI8.e ⟨_, _, rfl⟩ (fun h2 => ⟨k, 0, l.length, true, ints l, zb, 0, l.length, l.length, true, ints (List.replicate l.length 0), ⟨rfl, hbk, fun i v hv => ?_⟩, (hI8.s (k, rw' l) (by simp)).2, ⟨rfl, by simp, hbz, fun i v hv => ?_⟩, (hI8.s (zb, rw' (List.replicate l.length 0)) (by simp)).2⟩) (fun H9 nb' tb' kf' ns' es' hA => ?_)
          · rw [Nat.zero_add, Nat.mul_one, ints_get, hv]; rfl
          · rw [Nat.zero_add, Nat.mul_one, ints_get]
            rw [List.getElem?_replicate] at hv ⊢
            split at hv
            · rw [if_pos (by omega)]; cases hv; rfl
            · cases hv
          have hI9 := (hI8.add hA).drop.drop
          refine hK0 _ _ ?_
          clear hK0 K0
          refine Or.inl ⟨((y + 1 : Nat) : Int), by simp, by unfold I64; omega, ?_⟩
          have hm : 400 * (x * 16 + y) + l.length ≤ 400 * (x * 16 + (y + 1)) := by omega
          exact ⟨⟨H9, nb', tb', kf', ns', es', y + 1⟩, ⟨hI9.le hm, hyn⟩, by simp only; omega, Or.inl ⟨⟨rfl, rfl, rfl, rfl, rfl, rfl, rfl, rfl, trivial⟩, rfl⟩⟩
    · have : y = n := by simp at hc; omega
      subst this
      refine Or.inl ⟨((x + 1 : Nat) : Int), by simp, by unfold I64; omega, ?_⟩
      have hm : 400 * (x * 16 + y) ≤ 400 * ((x + 1) * 16) := by omega
      exact ⟨⟨H3, nb3, tb3, kf3, ns3, es3, x + 1⟩, ⟨hI.drop.le hm, hxn⟩, by simp only; omega, Or.inl ⟨⟨rfl, rfl, rfl, rfl, rfl, trivial⟩, rfl⟩⟩
  · have hxe : x = n := by simp at hc; omega
    subst hxe
    have hM : 400 * (x * 16) ≤ 1000000 := by omega
    refine vops_gen (fun K0 hK0 => ?_)
    refine g21 hI.w hI.g (Nat.le_trans hI.n hM) (fun i hi => Nat.le_trans (hI.e i hi) hM) ?_
    intro H'
    refine And.intro (fun _ => ?_) (fun h => absurd h (by decide))
    (first | refine c12 ?_ | refine (c12 ?_).call)
    refine hK0 _ _ ?_
    exact rfl
end Go.Af.Tryz
