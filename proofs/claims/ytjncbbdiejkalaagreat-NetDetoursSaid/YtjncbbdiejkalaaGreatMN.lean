/-
  The library's sort, in place, at a row of numbers: by the kit's contract.
  The neighbours of a switch, collected and sorted.
  The neighbours, sorted, are those that the reference lists. No program is in sight.
  Links and Neighbors, of both sides.
  The law NetLinks, as a call.
  The law NetLinks, as a call.
  The snake has each home once, and its neighbours are linked in a grid. No program is in sight.
  The law NetSnake, as a call.
-/
import Derived.Test.YtjncbbdiejkalaaGreatML
import Derived.Shelf.Sort.Plain
import Derived.Test.YtjncbbdiejkalaaGreatMZ
set_option linter.all false
namespace Go.Proofs
open Go Go.RowKit Go.Sort Go.Shelf
def Tryz.laysSort_ren : Go.Shelf.Ren := ⟨fun | 189 => 87 | 125 => 108 | 257 => 107 | 128 => 124 | 129 => 125 | 294 => 115 | 295 => 116 | 296 => 117 | 297 => 118 | 298 => 119 | 299 => 120 | 216 => 121 | 300 => 122 | 301 => 123 | 328 => 127 | 329 => 128 | 330 => 129 | 331 => 130 | 332 => 131 | 215 => 132 | 343 => 133 | n => n, fun | 28 => 22 | 3 => 3 | 46 => 150 | 0 => 0 | 51 => 159 | 53 => 162 | 4 => 4 | 183 => 167 | 182 => 166 | 131 => 127 | 5 => 5 | 9 => 9 | 218 => 173 | 222 => 177 | 228 => 179 | 229 => 40 | n => n, fun | n => n⟩
theorem Tryz.laysSort : Go.Proofs.Lays.n189 Tryz.prog Tryz.laysSort_ren := {
  mixed := by kernel_rfl,
  f125 := Tryz.func108.trans (congrArg some (by kernel_rfl)),
  f128 := Tryz.func124.trans (congrArg some (by kernel_rfl)),
  f129 := Tryz.func125.trans (congrArg some (by kernel_rfl)),
  f189 := Tryz.func87.trans (congrArg some (by kernel_rfl)),
  f215 := Tryz.func132.trans (congrArg some (by kernel_rfl)),
  f216 := Tryz.func121.trans (congrArg some (by kernel_rfl)),
  f257 := Tryz.func107.trans (congrArg some (by kernel_rfl)),
  f294 := Tryz.func115.trans (congrArg some (by kernel_rfl)),
  f295 := Tryz.func116.trans (congrArg some (by kernel_rfl)),
  f296 := Tryz.func117.trans (congrArg some (by kernel_rfl)),
  f297 := Tryz.func118.trans (congrArg some (by kernel_rfl)),
  f298 := Tryz.func119.trans (congrArg some (by kernel_rfl)),
  f299 := Tryz.func120.trans (congrArg some (by kernel_rfl)),
  f300 := Tryz.func122.trans (congrArg some (by kernel_rfl)),
  f301 := Tryz.func123.trans (congrArg some (by kernel_rfl)),
  f328 := Tryz.func127.trans (congrArg some (by kernel_rfl)),
  f329 := Tryz.func128.trans (congrArg some (by kernel_rfl)),
  f330 := Tryz.func129.trans (congrArg some (by kernel_rfl)),
  f331 := Tryz.func130.trans (congrArg some (by kernel_rfl)),
  f332 := Tryz.func131.trans (congrArg some (by kernel_rfl)),
  f343 := Tryz.func133.trans (congrArg some (by kernel_rfl)),
  t0 := Tryz.underlying0,
  a0 := Tryz.isAgg0,
  z0 := Tryz.sizeOf0,
  v0 := Tryz.zeroValue0,
  t3 := Tryz.underlying3,
  a3 := Tryz.isAgg3,
  z3 := Tryz.sizeOf3,
  v3 := Tryz.zeroValue3,
  t4 := Tryz.underlying4,
  a4 := Tryz.isAgg4,
  z4 := Tryz.sizeOf4,
  v4 := Tryz.zeroValue4,
  t5 := Tryz.underlying5,
  a5 := Tryz.isAgg5,
  z5 := Tryz.sizeOf5,
  v5 := Tryz.zeroValue5,
  t9 := Tryz.underlying9,
  a9 := Tryz.isAgg9,
  z9 := Tryz.sizeOf9,
  v9 := Tryz.zeroValue9,
  t28 := Tryz.underlying22,
  a28 := Tryz.isAgg22,
  z28 := Tryz.sizeOf22,
  v28 := Tryz.zeroValue22,
  t46 := Tryz.underlying150,
  a46 := Tryz.isAgg150,
  z46 := Tryz.sizeOf150,
  v46 := Tryz.zeroValue150,
  t51 := Tryz.underlying159,
  a51 := Tryz.isAgg159,
  z51 := Tryz.sizeOf159,
  v51 := Tryz.zeroValue159,
  t53 := Tryz.underlying162,
  a53 := Tryz.isAgg162,
  z53 := Tryz.sizeOf162,
  v53 := Tryz.zeroValue162,
  t131 := Tryz.underlying127,
  a131 := Tryz.isAgg127,
  z131 := Tryz.sizeOf127,
  v131 := Tryz.zeroValue127,
  t182 := Tryz.underlying166,
  a182 := Tryz.isAgg166,
  z182 := Tryz.sizeOf166,
  v182 := Tryz.zeroValue166,
  t183 := Tryz.underlying167,
  a183 := Tryz.isAgg167,
  z183 := Tryz.sizeOf167,
  v183 := Tryz.zeroValue167,
  t218 := Tryz.underlying173,
  a218 := Tryz.isAgg173,
  z218 := Tryz.sizeOf173,
  v218 := Tryz.zeroValue173,
  t222 := Tryz.underlying177,
  a222 := Tryz.isAgg177,
  z222 := Tryz.sizeOf177,
  v222 := Tryz.zeroValue177,
  t228 := Tryz.underlying179,
  a228 := Tryz.isAgg179,
  z228 := Tryz.sizeOf179,
  v228 := Tryz.zeroValue179,
  t229 := Tryz.underlying40,
  a229 := Tryz.isAgg40,
  z229 := Tryz.sizeOf40,
  v229 := Tryz.zeroValue40 }
end Go.Proofs
namespace Go.Af.Tryz
open Go Go.Proofs

section nil
attribute [local irreducible] awp ACall ACallX AYield AInvoke
theorem tistring : TIOk Tryz.prog 9 ⟨.str, 1, 16, .string ⟨#[]⟩⟩ := ⟨Tryz.underlying9, by kernel_rfl, rfl⟩
theorem tiuint : TIOk Tryz.prog 150 ⟨.int .u64, 1, 8, .int .u64 0⟩ := ⟨Tryz.underlying150, by kernel_rfl, rfl⟩
theorem tiuint64 : TIOk Tryz.prog 162 ⟨.int .u64, 1, 8, .int .u64 0⟩ := ⟨Tryz.underlying162, by kernel_rfl, rfl⟩
def T71 : TT := (9, ⟨.str, 1, 16, .string ⟨#[]⟩⟩) :: (150, ⟨.int .u64, 1, 8, .int .u64 0⟩) :: (162, ⟨.int .u64, 1, 8, .int .u64 0⟩) :: T
theorem tok71 : TOk Tryz.prog T71 := ⟨tistring, tiuint, tiuint64, tok⟩
set_option maxRecDepth 100000 in
theorem n106 {H : List Blk} {R : Value → List Blk → Prop} (h : R (.int .i64 0) H) : ACall Tryz.prog 125 [.int .u64 0] H R := by
  refine acall_vcg tok71 Tryz.call125 Tryz.func125 rfl Tryz.ntmps125 rfl (by simp) ?_
  refine And.intro (fun h => absurd h (by decide)) (fun _ => ?_)
  refine And.intro (fun h => absurd h (by decide)) (fun _ => ?_)
  refine And.intro (fun h => absurd h (by decide)) (fun _ => ?_)
  refine ⟨0, 0, rfl, rfl, ?_⟩
  refine Or.inl ⟨0, rfl, by unfold I64; omega, ?_⟩
  refine Or.inl ⟨0, rfl, by unfold I64; omega, ?_⟩
  exact h
theorem n94 {H : List Blk} {R : Value → List Blk → Prop} (h : R (.int .i64 0) H) : ACall Tryz.prog 108 [.int .u64 0] H R := by
  refine acall_vcg tok71 Tryz.call108 Tryz.func108 rfl Tryz.ntmps108 rfl (by simp) ?_
  refine And.intro (fun h => absurd h (by decide)) (fun _ => ?_)
  refine n106 ?_
  exact h
theorem n96 {H : List Blk} {R : Value → List Blk → Prop} {k : Nat} (h : R (.tuple ⟨[]⟩) H) : ACall Tryz.prog 115 [sv k 0, .int .i64 0, .int .i64 0] H R := by
  refine acall_vcg tok71 Tryz.call115 Tryz.func115 rfl Tryz.ntmps115 rfl (by simp) ?_
  refine Or.inl ⟨1, rfl, by unfold I64; omega, ?_⟩
  refine vcg_loopR (α := Nat) tok71 (fun _ => True) (fun _ => [(2, .int .i64 0), (6, .int .i64 1)]) (fun _ => H) (fun x => x) 0 trivial (Or.inl ⟨⟨rfl, rfl, trivial⟩, rfl⟩) ?_
  intro x _
  refine And.intro (fun h => absurd h (by decide)) (fun _ => ?_)
  exact h
set_option maxRecDepth 100000 in
theorem n93 {H : List Blk} {R : Value → List Blk → Prop} {k : Nat} (h : R (.tuple ⟨[]⟩) H) : ACall Tryz.prog 107 [sv k 0, .int .i64 0, .int .i64 0, .int .i64 0] H R := by
  refine acall_vcg tok71 Tryz.call107 Tryz.func107 rfl Tryz.ntmps107 rfl (by simp) ?_
  refine vcg_loopR (α := Nat) tok71 (fun _ => True) (fun _ => [(0, sv k 0), (1, .int .i64 0), (2, .int .i64 0), (3, .int .i64 0)]) (fun _ => H) (fun x => x) 0 trivial (Or.inl ⟨⟨rfl, rfl, rfl, rfl, trivial⟩, rfl⟩) ?_
  intro x _
  refine Or.inl ⟨0, rfl, by unfold I64; omega, ?_⟩
  refine vcg_seqG (fun Q0 q1 q2 q3 => ?_)
  refine And.intro (fun _ => ?_) (fun h => absurd h (by decide))
  refine n96 ?_
  refine q3 _ _ ?_
  exact h
theorem n85 {H : List Blk} {R : Value → List Blk → Prop} {k : Nat} (h : R (.tuple ⟨[]⟩) H) : ACall Tryz.prog 87 [sv k 0] H R := by
  refine acall_vcg tok71 Tryz.call87 Tryz.func87 rfl Tryz.ntmps87 rfl (by simp) ?_
  refine n94 ?_
  refine n93 ?_
  exact h
end nil

theorem heap_sorted {w : World} {r sh n : Nat} {os : Array Obj} {c : Array Value} {e : TypeId} {f : Nat × Nat} {zs : List Int} (hw : w.heap[r]? = some (.cells c e f)) :
    (∀ q, q < w.heap.size → q ≠ r → (Sort.grow (Sort.putRow (Value.int .i64) (Sort.ahead w n) r sh zs.toArray) os).heap[q]? = w.heap[q]?) ∧
    (Sort.grow (Sort.putRow (Value.int .i64) (Sort.ahead w n) r sh zs.toArray) os).heap[r]? = some (.cells (Sort.putCells (Value.int .i64) sh zs.toArray c) e f) ∧
    w.heap.size ≤ (Sort.grow (Sort.putRow (Value.int .i64) (Sort.ahead w n) r sh zs.toArray) os).heap.size := by
  have hr : r < w.heap.size := (Array.getElem?_eq_some_iff.1 hw).1
  refine ⟨fun q hq hne => ?_, ?_, ?_⟩
  · simp only [Sort.grow, Sort.putRow, Sort.mapBlock, Sort.ahead]
    rw [Array.getElem?_append_left (by simpa using hq), Array.getElem?_modify, if_neg (fun e => hne e.symm)]
  · simp only [Sort.grow, Sort.putRow, Sort.mapBlock, Sort.ahead]
    rw [Array.getElem?_append_left (by simpa using hr), Array.getElem?_modify, if_pos rfl, hw]
    rfl
  · simp [Sort.grow, Sort.putRow, Sort.mapBlock, Sort.ahead]

abbrev srt (xs : List Int) : List Int := xs.mergeSort fun x y => decide (x ≤ y)

theorem c85 {H : List Blk} {R : Value → List Blk → Prop} {k : Nat} {xs : List Int} (hb : bget H k = some (rw' xs)) (hl : xs.length ≤ 1000000)
    (h : ∀ H' : List Blk, H'.length = H.length → bget H' k = some (rw' (srt xs)) → (∀ i, i ≠ k → bget H' i = bget H i) → R (.tuple ⟨[]⟩) H') : ACall Tryz.prog 87 [sv k xs.length] H R := by
  by_cases hx : xs.length = 0
  · have hx' : xs = [] := List.length_eq_zero_iff.1 hx
    subst hx'
    exact n85 (h H rfl (by simpa [srt] using hb) (fun _ _ => rfl))
  refine ⟨Tryz.call87, fun m argsR w ha hh => ?_⟩
  obtain ⟨vR, rest, hargs, hv, hrest⟩ := ha.inv_cons
  have hrn := hrest.inv_nil
  subst hrn
  have hae : argsR = #[vR] := by
    apply Array.toList_inj.1; rw [hargs]
  subst hae
  have hb' : H[k]? = some (rw' xs) := by rw [← bget_eq]; exact hb
  generalize hn : xs.length = n at hv hx
  cases hv with
  | sliceZero _ _ a => exact absurd rfl hx
  | sliceDead _ _ _ _ c' a hm _ => have := hh.dd k hm; rw [hb'] at this; cases this
  | slice _ _ r sh tot esz _ _ c' hm hc hlen =>
    subst hn
    obtain ⟨c, e, f, hw, hcell, hez, hwr⟩ := hh.cells hm hb'
    obtain ⟨hfr, hez2, hz0, htot⟩ := hwr rfl
    have hr : r < w.heap.size := (Array.getElem?_eq_some_iff.1 hw).1
    have hcx : ∀ i, i < xs.length → c[sh + i]? = some (.int .i64 xs[i]!) := fun i hi => by
      obtain ⟨v', h1, h2⟩ := hcell i (.int .i64 xs[i]!) (by rw [ints_get]; simp [hi])
      cases h2
      exact h1
    have hold : Sort.Holds (Value.int .i64) w r (sh + 0) xs.toArray := fun j hj => by
      have hj : j < xs.length := by simpa using hj
      refine ⟨?_, not_frozen hh hm hb' _⟩
      have := hcx j hj
      simp only [Nat.add_zero]
      simp only [World.cell?, hw, this]
      simp [hj]
    have hsl : (srt xs).length = xs.length := List.length_mergeSort _
    have hcl := Any.slices_Sort_int Tryz.laysSort r (sh + 0) c' xs w hold hr (by omega)
    have hcl : Calls Tryz.prog 87 #[.slice (some ⟨r, sh + 0, none⟩) xs.length c'] w fun e w' => e = .returned (.tuple #[]) ∧ ∃ n os, w' = Sort.grow (Sort.putRow (Value.int .i64) (Sort.ahead w n) r (sh + 0) (srt xs).toArray) os := hcl
    refine Enters.of_calls (hcl.mono ?_)
    rintro e' w' ⟨rfl, dn, os, rfl⟩
    obtain ⟨q1, q2, q3⟩ := heap_sorted (n := dn) (sh := sh + 0) (os := os) (zs := srt xs) hw
    generalize hW : Sort.grow (Sort.putRow (Value.int .i64) (Sort.ahead w dn) r (sh + 0) (srt xs).toArray) os = w' at q1 q2 q3
    have hout : OutEq w w' := by subst hW; exact ⟨rfl, rfl, rfl⟩
    clear hW
    have hkl : k < H.length := (List.getElem?_eq_some_iff.1 hb').1
    have hloc : locBlk (m k) = some r := by rw [hm]; rfl
    have hne : ∀ i q, locBlk (m i) = some q → i ≠ k → q ≠ r := fun i q h1 h2 h3 => h2 (hh.own k i r _ hloc hb' rfl (by rw [h1, h3])).symm
    refine ⟨_, rfl, .tuple ⟨[]⟩, H.set k (rw' (srt xs)), m, h _ (by simp) (bget_set_eq hkl) (fun i hi => bget_set_ne hi), VRel.tuple' (LRel.nil m), ?_, ?_⟩
    · refine ⟨fun i l hl => by rw [List.length_set]; exact hh.dom i l hl, fun i l b hl hd hbi => ?_, fun i hi => ?_, fun i j q b h1 h2 h3 h4 => ?_⟩
      · by_cases hik : i = k
        · subst hik
          rw [hm] at hl; cases hl
          rw [List.getElem?_set_self hkl] at hbi; cases hbi
          refine ⟨_, e, f, q2, fun j v hj => ?_, hez, fun _ => ⟨hfr, hez2, hz0, by rw [htot]; simp [Sort.putCells]⟩⟩
          rw [ints_get] at hj
          cases hs : (srt xs)[j]? with
          | none => rw [hs] at hj; cases hj
          | some z =>
            rw [hs] at hj; cases hj
            have hjl : j < (srt xs).length := (List.getElem?_eq_some_iff.1 hs).1
            have hce := hcx j (by omega)
            have hcs : sh + j < c.size := (Array.getElem?_eq_some_iff.1 hce).1
            refine ⟨.int .i64 z, ?_, .int _ _⟩
            simp only [Sort.putCells, Nat.add_zero, Array.getElem?_mapIdx, hce, Option.map_some]
            rw [if_pos ⟨by omega, by simp; omega⟩, Nat.add_sub_cancel_left]
            have : (srt xs).toArray[j]! = z := by
              rw [getElem!_pos _ j (by simpa using hjl)]
              simpa using (List.getElem?_eq_some_iff.1 hs).2
            rw [this]
        · rw [List.getElem?_set_ne (fun e => hik e.symm)] at hbi
          exact (hh.blk i l b hl hd hbi).same (fun q hq => q1 q (hh.lt (by rw [hl]; exact hq)) (hne i q (by rw [hl]; exact hq) hik))
      · have hik : k ≠ i := fun e => by subst e; rw [hm] at hi; cases hi
        rw [List.getElem?_set_ne hik]
        exact hh.dd i hi
      · by_cases hik : i = k
        · subst hik; exact hh.own i j q _ h1 hb' rfl h4
        · rw [List.getElem?_set_ne (fun e => hik e.symm)] at h2
          exact hh.own i j q b h1 h2 h3 h4
    · have wr : ∀ q, Wr m (H.set k (rw' (srt xs))) q → Wr m H q := fun q ⟨i, b, h1, h2, h3⟩ => by
        by_cases hik : i = k
        · subst hik; exact ⟨i, _, h1, hb', rfl⟩
        · rw [List.getElem?_set_ne (fun e => hik e.symm)] at h2
          exact ⟨i, b, h1, h2, h3⟩
      refine ⟨q3, fun _ => by simp, fun i _ l hl => .inl hl, fun i _ hl => hl, fun i _ b' h1 h2 => ?_, fun q hq hnw => ⟨q1 q hq (fun e => ?_), fun hx => hnw (wr q hx)⟩, hout⟩
      · by_cases hik : i = k
        · subst hik; exact ⟨_, hb', rfl⟩
        · rw [List.getElem?_set_ne (fun e => hik e.symm)] at h1
          exact ⟨b', h1, h2⟩
      · subst e; exact hnw ⟨k, _, hloc, hb', rfl⟩
end Go.Af.Tryz
namespace Go.Af.Tryz
open Go Go.Proofs
attribute [local irreducible] awp ACall ACallX AYield AInvoke newSlice isCells rdCells wrCells aAppend rangeEnd roundBegin roundEnd


/-- A function value that hands out the neighbours, in a heap that has grown since. -/
def NearH (s : Sh) (x : Int) (N0 bg : Nat) (H : List Blk) (fv : Value) : Prop := ∃ Hn, NearV s x N0 bg Hn fv ∧ bg < Hn.length ∧ Hn.length ≤ H.length ∧ ∀ i, i < Hn.length → bget H i = bget Hn i
def rowQ (lr b : Nat) (L : Blk) (p : List Int) (M : List (Nat × Blk)) : Prop :=
  (p = [] ∧ M = [(lr, L), (b, .cells true 1 [.slice none 0 0])]) ∨ ∃ k, 0 < p.length ∧ M = [(lr, L), (b, .cells true 1 [sv k p.length]), (k, rw' p)]

set_option maxHeartbeats 1000000 in
theorem g92 {H : List Blk} {R : Value → List Blk → Prop} {s : Sh} {x : Int} {N0 bg : Nat} {fv : Value} (hok : s.ok) (hx : 0 ≤ x ∧ x < s.sw) (hf : NearH s x N0 bg H fv)
    (h : ∀ H' k, HS H none' [(true, k, rw' (s.near x))] H' → R (sv k (s.near x).length) H') : ACall Tryz.prog 106 [.slice none 0 0, fv] H R := by
  have hnin := near_in hok hx
  refine acall_weak ?_
  refine acall_vcg tok Tryz.call106 Tryz.func106 rfl Tryz.ntmps106 rfl (by simp) ?_
  refine new_hs (HS.start H none') (fun H1 b e1 l1 hs1 => ?_)
  obtain ⟨Hn, ⟨g, first, cap, rfl, hnear⟩, hbg, hnl, hne⟩ := hf
  refine new_hs hs1 (fun H2 lr e2 l2 hs2 => ?_)
  generalize hL : Blk.loop LoopState.ready none _ _ _ _ _ = L at hs2
  have hu2 : ∀ i, i < H.length → bget H2 i = bget H i := fun i hi => hs2.u.2 i hi (fun x => x)
  have hR := roundsI_of (P := Tryz.prog) (l := lr) (Hs := H2) (o0 := fun j => j = lr ∨ j = b) (xs := s.near x) (Z := fun _ => False) [] (fun b ⟨i, B, hi⟩ => by simp at hi) (rowQ lr b L)
    (fun {p y H3 M o} hp hN hq ho hs3 => by
      have hpl : p.length + 1 ≤ 20 := by
        have := hp.length_le
        simp at this
        have := hnin.2
        omega
      subst hL
      rcases hq with ⟨rfl, rfl⟩ | ⟨k, h0, rfl⟩
      · have q3 := hs3.get 0 rfl
        refine round_of tok q3 ?_
        refine roundBegin_of q3 (fun H4 d1 d2 d3 => ?_)
        have hs4 := hs3.set 0 rfl d1 d2 d3
        refine rdCells_of (hs4.get 1 rfl) ?_
        refine ⟨_, rfl, ?_⟩
        refine And.intro (by decide) ?_
        refine newS_hs hs4 (fun H5 j e5 l5 hs5 => ?_)
        refine And.intro rfl ?_
        refine app_nil_hs hs5 (by decide) (hs5.get 0 rfl) rfl rfl (by decide) (fun H6 k' e6 l6 hs6 => ?_)
        simp only [putK, vops, guardK, cstep, Nat.blt]
        refine store_hs hs6 3 rfl [sv k' 1] rfl rfl (Nat.le_refl _) rfl (fun H7 l7 hs7 => ?_)
        refine roundEnd_go (hs7.get 2 rfl) (fun H8 t1 t2 t3 => ?_)
        have hs8 := hs7.set 2 rfl t1 t2 t3
        refine Or.inl ⟨rfl, _, Or.inr ⟨k', by simp, rfl⟩, ?_⟩
        exact hs8.pick [2, 3, 0] (by decide) rfl
      · have q3 := hs3.get 0 rfl
        refine round_of tok q3 ?_
        refine roundBegin_of q3 (fun H4 d1 d2 d3 => ?_)
        have hs4 := hs3.set 0 rfl d1 d2 d3
        refine rdCells_of (hs4.get 1 rfl) ?_
        refine ⟨_, rfl, ?_⟩
        refine And.intro (by decide) ?_
        refine newS_hs hs4 (fun H5 j e5 l5 hs5 => ?_)
        refine And.intro rfl ?_
        refine app_hs hs5 3 rfl (by decide) (hs5.get 0 rfl) rfl rfl (by simp) (by simp only; omega) (fun H6 k' e6 l6 hs6 => ?_)
        simp only [putK, vops, guardK, cstep, Nat.blt]
        refine store_hs hs6 2 rfl [sv k' (p.length + 1)] rfl rfl (Nat.le_refl _) rfl (fun H7 l7 hs7 => ?_)
        refine roundEnd_go (hs7.get 1 rfl) (fun H8 t1 t2 t3 => ?_)
        have hs8 := hs7.set 1 rfl t1 t2 t3
        refine Or.inl ⟨rfl, _, Or.inr ⟨k', by simp, rfl⟩, ?_⟩
        simp only [List.length_append, List.length_cons, List.length_nil, rw', ints_append]
        exact hs8.pick [1, 2, 3] (by decide) rfl)
  refine hnear (o := fun j => j = lr ∨ j = b) ?_ hR.rounds ⟨[], rfl, [(lr, L), (b, .cells true 1 [.slice none 0 0])], Or.inl ⟨rfl, rfl⟩, ?_, ?_⟩ ?_ ?_
  · intro j hj
    have hjl : j < Hn.length := by rcases hj with rfl | hj <;> omega
    exact ⟨by show ¬ (j = lr ∨ j = b); omega, (hu2 j (by omega)).trans (hne j hjl)⟩
  · intro j
    constructor
    · rintro (rfl | rfl)
      · exact ⟨0, _, rfl⟩
      · exact ⟨1, _, rfl⟩
    · rintro ⟨i, B, hi⟩
      match i, hi with
      | 0, hi => simp at hi; exact .inl hi.1.symm
      | 1, hi => simp at hi; exact .inr hi.1.symm
      | i + 2, hi => simp at hi
  · refine ⟨fun {i c q B} hi => ?_, fun hi hj => hs2.nd hi hj, Upd.rfl⟩
    have := hs2.g hi
    refine ⟨this.1, fun hc => ?_⟩
    match i, hi with
    | 0, hi => simp at hi; exact .inl (.inl hi.2.1.symm)
    | 1, hi => simp at hi; exact .inl (.inr hi.2.1.symm)
    | i + 2, hi => simp at hi
  · rintro o' H' ⟨ps, e, M, hq, ho, hs'⟩
    have e := ints_inj' e
    subst e
    have hs' := hs2.comp hs' (fun j hj => .inr (by omega))
    subst hL
    rcases hq with ⟨hp, rfl⟩ | ⟨k, h0, rfl⟩
    · refine rangeEnd_of (hs'.get 0 rfl) (by decide) (fun H7 r1 r2 => ?_)
      have hs7 := hs'.forget r1 r2
      refine rdCells_of (hs7.get 0 rfl) ?_
      refine ⟨_, rfl, ?_⟩
      refine ⟨sv H7.length 0, H7 ++ [rw' []], .inl (WkV.nil _), WkH.rfl.app _, ?_⟩
      have := h _ _ (by rw [hp]; exact (hs7.virt (rw' [])).pick [0] (by decide) rfl)
      rw [hp] at this
      exact this
    · refine rangeEnd_of (hs'.get 0 rfl) (by decide) (fun H7 r1 r2 => ?_)
      have hs7 := hs'.forget r1 r2
      refine rdCells_of (hs7.get 0 rfl) ?_
      refine ⟨_, rfl, ?_⟩
      exact ⟨_, _, WkT.rfl, .rfl, h _ _ (hs7.pick [1] (by decide) rfl)⟩
  · intro H' h; exact h.elim
theorem g84 {H : List Blk} {R : Value → List Blk → Prop} {s : Sh} {x : Int} {N0 bg : Nat} {fv : Value} (hok : s.ok) (hx : 0 ≤ x ∧ x < s.sw) (hf : NearH s x N0 bg H fv)
    (h : ∀ H' k, HS H none' [(true, k, rw' (s.near x))] H' → R (sv k (s.near x).length) H') : ACall Tryz.prog 86 [fv] H R := by
  refine acall_vcg tok Tryz.call86 Tryz.func86 rfl Tryz.ntmps86 rfl (by simp) ?_
  refine g92 hok hx hf (fun H' k hs => ?_)
  exact h H' k hs
theorem g71 {H : List Blk} {R : Value → List Blk → Prop} {s : Sh} {x : Int} {N0 bg : Nat} {fv : Value} (hok : s.ok) (hx : 0 ≤ x ∧ x < s.sw) (hf : NearH s x N0 bg H fv)
    (h : ∀ H' k, HS H none' [(true, k, rw' (srt (s.near x)))] H' → R (sv k (srt (s.near x)).length) H') : ACall Tryz.prog 47 [fv] H R := by
  have hnin := near_in hok hx
  refine acall_vcg tok Tryz.call47 Tryz.func47 rfl Tryz.ntmps47 rfl (by simp) ?_
  refine g84 hok hx hf (fun H1 k hs1 => ?_)
  refine c85 (hs1.get 0 rfl) (by omega) (fun H2 l1 l2 l3 => ?_)
  have hs2 := hs1.set 0 rfl l1 l2 l3
  have := h _ k hs2
  rw [List.length_mergeSort] at this
  exact this
/-- The neighbours, sorted: what stands behind 'slices.Sorted(f.near(x))'. -/
theorem x_near_sorted {H : List Blk} {R : Value → List Blk → Prop} {s : Sh} {b n : Nat} {x : Int} (hs : s.ok) (ha : s.at H b n) (hbl : b < H.length) (hx : 0 ≤ x ∧ x < s.sw)
    (h : ∀ fv H1, ACall Tryz.prog 47 [fv] H1 (fun v H' => ∃ k, v = sv k (srt (s.near x)).length ∧ HS H none' [(true, k, rw' (srt (s.near x)))] H') → R fv H1) : AInvoke Tryz.prog (shT s) (shU (sv b n) s) "armada/net.near" [.int .i64 x] H R := by
  refine x_near hs ha hx (fun fv H1 hf hl he => ?_)
  refine h fv H1 (g71 hs hx ⟨H1, hf, by omega, Nat.le_refl _, fun _ _ => rfl⟩ (fun H' k hk => ⟨k, rfl, ?_⟩))
  have h1 : HS H none' [] H1 := (HS.start H none').ext (by omega) he
  exact h1.call hk rfl
end Go.Af.Tryz
namespace Go.Af.Tryz
open Go

theorem sorted_eq {l l' : List Int} (hp : l.Perm l') (h : l.Pairwise (· ≤ ·)) (h' : l'.Pairwise (· ≤ ·)) : l = l' :=
  hp.eq_of_pairwise (fun _ _ _ _ h1 h2 => Int.le_antisymm h1 h2) h h'
theorem srt_pair (l : List Int) : (srt l).Pairwise (· ≤ ·) := by
  have h := List.pairwise_mergeSort (le := fun x y : Int => decide (x ≤ y)) (fun a b c h1 h2 => by simp at *; omega) (fun a b => by simp; omega) l
  exact h.imp (fun h => by simpa using h)
theorem iota_pair : ∀ m : Nat, ((List.range m).map fun y : Nat => (y : Int)).Pairwise (· < ·)
  | 0 => by simp
  | m + 1 => by
    rw [List.range_succ, List.map_append, List.pairwise_append]
    refine ⟨iota_pair m, by simp, fun a ha b hb => ?_⟩
    obtain ⟨k, hk, rfl⟩ := List.mem_map.1 ha
    simp at hb
    have := List.mem_range.1 hk
    omega
theorem lnkL_pair (s : Sh) (x : Int) (m : Nat) : (lnkL s x m).Pairwise (· < ·) := (iota_pair m).filter _
theorem nodup_lt {l : List Int} (h : l.Pairwise (· < ·)) : l.Nodup := h.imp (fun h => by omega)
theorem near_nodup {s : Sh} (hok : s.ok) {n : Nat} (hn : s.sw = n) {x : Nat} (hx : x < n) : (s.near x).Nodup := by
  refine List.nodup_iff_count.2 fun y => ?_
  by_cases hy : y ∈ s.near x
  · have h := (near_in hok (x := (x : Int)) (by omega)).1 y hy
    obtain ⟨k, rfl⟩ : ∃ k : Nat, y = k := ⟨y.toNat, by omega⟩
    rw [near_lnk hok hn hx (by omega)]
    split <;> omega
  · rw [List.count_eq_zero.2 hy]; omega
theorem near_mem {s : Sh} (hok : s.ok) {n : Nat} (hn : s.sw = n) {x : Nat} (hx : x < n) {y : Int} : y ∈ s.near x ↔ (0 ≤ y ∧ y < n) ∧ s.lnk x y = true := by
  constructor
  · intro hy
    have h := (near_in hok (x := (x : Int)) (by omega)).1 y hy
    obtain ⟨k, rfl⟩ : ∃ k : Nat, y = k := ⟨y.toNat, by omega⟩
    refine ⟨by omega, ?_⟩
    have h1 := near_lnk hok hn hx (show k < n by omega)
    have h2 := List.count_pos_iff.2 hy
    by_cases h3 : s.lnk x k = true
    · exact h3
    · rw [if_neg h3] at h1; omega
  · rintro ⟨h1, h2⟩
    obtain ⟨k, rfl⟩ : ∃ k : Nat, y = k := ⟨y.toNat, by omega⟩
    have h3 := near_lnk hok hn hx (show k < n by omega)
    rw [if_pos h2] at h3
    exact List.count_pos_iff.1 (by omega)
theorem near_srt {s : Sh} (hok : s.ok) {n : Nat} (hn : s.sw = n) {x : Nat} (hx : x < n) : srt (s.near x) = lnkL s x n := by
  refine sorted_eq ((List.mergeSort_perm _ _).trans ?_) (srt_pair _) ((lnkL_pair s x n).imp (fun h => by omega))
  refine (List.perm_ext_iff_of_nodup (near_nodup hok hn hx) (nodup_lt (lnkL_pair s x n))).2 fun y => ?_
  rw [near_mem hok hn hx, lnkL_mem]
end Go.Af.Tryz
namespace Go.Af.Tryz
open Go Go.Proofs
attribute [local irreducible] awp ACall ACallX AYield AInvoke newSlice isCells rdCells wrCells aAppend rangeEnd roundBegin roundEnd


/-- What Neighbors answers. -/
def nbL (o : Option Sh) (x : Int) : List Int :=
  match o with
  | none => []
  | some s => if 0 ≤ x ∧ x < s.sw then lnkL s x s.sw.toNat else []
theorem nbL_some {s : Sh} {x : Int} {n : Nat} (hn : s.sw = n) (hx : 0 ≤ x ∧ x < s.sw) : nbL (some s) x = lnkL s x n := by simp only [nbL]; rw [if_pos hx, hn]; rfl

theorem g40 {H : List Blk} {R : Value → List Blk → Prop} {b : Nat} {wr : Bool} {kind hosts x : Int} {sides : List Int} (hb : bget H b = some (.cells wr 1 (ints sides)))
    (h : ∀ H' k, HS H none' [(true, k, rw' (nbL (shapeF kind sides hosts) x))] H' → R (.tuple ⟨[sv k (nbL (shapeF kind sides hosts) x).length, .int .i64 (isF (shapeF kind sides hosts) x)]⟩) H') : ACall Tryz.prog 60 [spV kind (sv b sides.length) hosts, .int .i64 x] H R := by
  refine acall_weak ?_
  refine acall_vcg tok Tryz.call60 Tryz.func60 rfl Tryz.ntmps60 rfl (by simp) ?_
  refine new_hs (((HS.start H none').add (c := false) hb (fun i p hi => by simp at hi) (fun h => by cases h))) (fun H1 b1 e1 l1 hs1 => ?_)
  refine rdCells_of (hs1.get 0 rfl) ?_
  refine ⟨_, rfl, _, rfl, _, rfl, ?_⟩
  refine And.intro (by decide) ?_
  refine newS_hs hs1 (fun H2 j e2 l2 hs2 => ?_)
  (first | refine c62 (l := [x]) kind hosts (hs2.get 2 rfl) (Nat.le_refl _) (hs2.get 0 rfl) (Nat.le_refl _) (by simp) ?_ | refine (c62 (l := [x]) kind hosts (hs2.get 2 rfl) (Nat.le_refl _) (hs2.get 0 rfl) (Nat.le_refl _) (by simp) ?_).call)
  have err : ∀ (e : Int), nbL (shapeF kind sides hosts) x = [] → isF (shapeF kind sides hosts) x = e → ∃ v2 H', WkT (.tuple ⟨[.slice none 0 0, .int .i64 e]⟩) v2 ∧ WkH H2 H' ∧ R v2 H' := fun e h1 h2 =>
    ⟨.tuple ⟨[sv H2.length 0, .int .i64 e]⟩, H2 ++ [rw' []], WkT.nil2 _ _, WkH.rfl.app _, by
      have := h (H2 ++ [rw' []]) H2.length (by rw [h1]; exact (hs2.virt (rw' [])).pick [0] (by decide) rfl)
      rw [h1, h2] at this
      exact this⟩
  cases hs : shapeF kind sides hosts with
  | none =>
    simp only [withR]
    refine ⟨_, rfl, _, rfl, ?_⟩
    refine And.intro (fun _ => ?_) (fun h => absurd h (by decide))
    exact err 2 (by rw [hs]; rfl) (by rw [hs]; rfl)
  | some s =>
    have hok := shapeF_ok hs
    have hof := shapeF_of hs
    have hbd := sw_bd hok
    by_cases hin : 0 ≤ x ∧ x < s.sw
    · have ew : withR (sv b sides.length) (some s) [x] = .tuple ⟨[shV (sv b sides.length) s, .int .i64 0]⟩ := by simp [withR, inAll, hin]
      rw [ew]
      obtain ⟨n, hn⟩ : ∃ n : Nat, s.sw = n := ⟨s.sw.toNat, by omega⟩
      obtain ⟨y, rfl⟩ : ∃ y : Nat, x = y := ⟨x.toNat, by omega⟩
      have hnb := nbL_some hn hin
      have his : isF (some s) (y : Int) = 0 := by simp only [isF]; rw [if_pos hin]
      rw [hs, hnb, his] at h
      refine ⟨_, rfl, _, rfl, ?_⟩
      refine And.intro (fun h => absurd h (by decide)) (fun _ => ?_)
      refine x_near_sorted hok (at_of hof (hs2.get 2 rfl)) (hs2.lt 2 rfl) hin (fun fv H3 hcall => ?_)
      refine hcall.mono ?_
      rw [near_srt hok hn (show y < n by omega)]
      rintro _ H4 ⟨q, rfl, hs4⟩
      have hs4 := hs2.call hs4 rfl
      exact ⟨_, _, WkT.rfl, .rfl, h _ _ (hs4.pick [0] (by decide) rfl)⟩
    · have ew : withR (sv b sides.length) (some s) [x] = .tuple ⟨[.nilIface, .int .i64 3]⟩ := by
        have : inAll [x] s.sw = false := by simp [inAll]; omega
        simp [withR, this]
      rw [ew]
      refine ⟨_, rfl, _, rfl, ?_⟩
      refine And.intro (fun _ => ?_) (fun h => absurd h (by decide))
      exact err 3 (by rw [hs]; simp only [nbL]; rw [if_neg hin]) (by rw [hs]; simp only [isF]; rw [if_neg hin])

end Go.Af.Tryz
namespace Go.Af.Tryz
open Go Go.Proofs
attribute [local irreducible] awp ACall ACallX AYield AInvoke newSlice isCells rdCells wrCells aAppend rangeEnd roundBegin roundEnd

theorem eqF2 {d : Nat} {xs ys : Array Value} {a0 a1 b0 b1 : Int} (h0 : xs[0]? = some (.int .i64 a0)) (h1 : xs[1]? = some (.int .i64 a1)) (k0 : ys[0]? = some (.int .i64 b0)) (k1 : ys[1]? = some (.int .i64 b1)) (w : World) :
    ∀ fs : List Field, fs.map (fun f => (f.name == "_", f.type, f.offset)) = [(false, 3, 0), (false, 3, 1)] → (Op.eqFields (d + 1) xs ys fs).run Tryz.prog w = .ok (decide ([a0, a1] = [b0, b1])) w := by
  intro fs hfs
  have hl := congrArg List.length hfs
  simp only [List.length_map, List.length_cons, List.length_nil] at hl
  obtain ⟨f, g, rfl⟩ : ∃ f g, fs = [f, g] := by
    rcases fs with _ | ⟨f, _ | ⟨g, _ | ⟨e, r⟩⟩⟩
    · simp at hl
    · simp at hl
    · exact ⟨f, g, rfl⟩
    · simp at hl
  simp only [List.map_cons, List.map_nil, List.cons.injEq, Prod.mk.injEq, and_true, beq_eq_false_iff_ne] at hfs
  obtain ⟨⟨n0, t0, o0⟩, ⟨n1, t1, o1⟩⟩ := hfs
  simp only [Op.eqFields, if_pos n0, if_pos n1, t0, o0, t1, o1, Sem.run_bind, part3 xs 0 _ h0, part3 ys 0 _ k0, part3 xs 1 _ h1, part3 ys 1 _ k1, Result.andThen_ok, eqi3]
  by_cases e0 : a0 = b0
  · by_cases e1 : a1 = b1 <;> simp [e0, e1, part3 xs 1 _ h1, part3 ys 1 _ k1, eqi3]
  · simp [e0]
end Go.Af.Tryz
namespace Go.Af.Tryz
open Go Go.Proofs
attribute [local irreducible] awp ACall ACallX AYield AInvoke newSlice isCells rdCells wrCells aAppend rangeEnd roundBegin roundEnd


abbrev spB (kind hosts : Int) (sides : List Int) : Blk := .cells true 1 [.int .i64 kind, sv 0 sides.length, .int .i64 hosts]
theorem nbL_le (kind hosts : Int) (sides : List Int) (x : Int) : (nbL (shapeF kind sides hosts) x).length ≤ 1000000000 := by
  cases hs : shapeF kind sides hosts with
  | none => simp [nbL]
  | some s =>
    have hbd := sw_bd (shapeF_ok hs)
    simp only [nbL]
    split
    · have := lnkL_len s x s.sw.toNat
      omega
    · simp

end Go.Af.Tryz
namespace Go.Af.Tryz
open Go

section
variable {g : List Int}
end
end Go.Af.Tryz
namespace Go.Af.Tryz
open Go Go.Proofs
attribute [local irreducible] awp ACall ACallX AYield AInvoke newSlice isCells rdCells wrCells aAppend rangeEnd roundBegin roundEnd


end Go.Af.Tryz
