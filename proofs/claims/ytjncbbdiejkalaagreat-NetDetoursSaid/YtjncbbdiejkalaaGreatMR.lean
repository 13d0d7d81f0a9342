/-
  Links go both ways. No program is in sight.
  A dragonfly's routes: each hop is a link; at most three, and at most one more than the shortest. No program is in sight.
  How far two coordinates lie apart on a ring: one link changes it by one at most. No program is in sight.
  A grid's route: each hop is a link, and it is as long as the places lie apart. No program is in sight.
  A fat tree's words, by their digits. No program is in sight.
  A fat tree's links, by levels and words. No program is in sight.
  Up a fat tree. No program is in sight.
  A fat tree's route is a way; its length changes by one along a link. No program is in sight.
  Routes against the shortest ways. No program is in sight.
  A route is a way, and how long it is against the shortest one. No program is in sight.
  The law NetPaths, as a call.
-/
import Derived.Test.YtjncbbdiejkalaaGreatMO
import Derived.Test.YtjncbbdiejkalaaGreatMZ
import Derived.Test.YtjncbbdiejkalaaGreatMN
set_option linter.all false
namespace Go.Af.Tryz
open Go

theorem lnS_comm (g a b : List Int) : ∀ i, lnS g a b i = lnS g b a i
  | 0 => rfl
  | i + 1 => by
    have ih := lnS_comm g a b i
    simp only [lnS]
    by_cases h : a[i]! = b[i]!
    · rw [if_pos h, if_pos h.symm, ih]
    · rw [if_neg h, if_neg (fun e => h e.symm), ih, Int.max_comm (a[i]! - b[i]!) (b[i]! - a[i]!)]
theorem gap_comm {a h gx gy : Int} (h0 : 0 ≤ gx) (h1 : gx < a * h + 1) (h2 : 0 ≤ gy) (h3 : gy < a * h + 1) (hne : gx ≠ gy) : gapF a h gy gx = a * h + 1 - 2 - gapF a h gx gy := by
  unfold gapF
  generalize a * h = m at h1 h3 ⊢
  rw [Int.tmod_eq_emod_of_nonneg (by omega), Int.tmod_eq_emod_of_nonneg (by omega)]
  by_cases hlt : gx < gy
  · rw [Int.emod_eq_of_lt (a := gx - gy - 1 + (m + 1)) (by omega) (by omega), Int.add_emod_right, Int.emod_eq_of_lt (by omega) (by omega)]; omega
  · rw [Int.emod_eq_of_lt (a := gy - gx - 1 + (m + 1)) (by omega) (by omega), Int.add_emod_right, Int.emod_eq_of_lt (by omega) (by omega)]; omega
theorem lnk_sym {s : Sh} (hok : s.ok) {x y : Int} (hx : 0 ≤ x ∧ x < s.sw) (hy : 0 ≤ y ∧ y < s.sw) : s.lnk x y = s.lnk y x := by
  simp only [Sh.lnk]
  by_cases e : x = y
  · rw [if_pos e, if_pos e.symm]
  · rw [if_neg e, if_neg (fun h => e h.symm)]
    cases s with
    | grid g => simp only [lnG, lnS_comm g (coords g x) (coords g y)]
    | fat k n => simp only [lnFa, Int.max_comm x y, Int.min_comm x y]
    | fly a h =>
      obtain ⟨ha, hh, _⟩ := hok
      have h1 := fly_grp (h := h) ha.1 hx
      have h2 := fly_grp (h := h) ha.1 hy
      simp only [lnFl]
      by_cases eg : x.tdiv a = y.tdiv a
      · rw [decide_eq_true eg, decide_eq_true eg.symm]; rfl
      · have eg' : ¬ y.tdiv a = x.tdiv a := fun e => eg e.symm
        rw [show decide (x.tdiv a = y.tdiv a) = false from decide_eq_false eg, show decide (y.tdiv a = x.tdiv a) = false from decide_eq_false eg', Bool.false_or, Bool.false_or, gap_comm h1.1 h1.2 h2.1 h2.2 eg, Bool.and_comm,
          show a * h + 1 - 2 - (a * h + 1 - 2 - gapF a h (x.tdiv a) (y.tdiv a)) = gapF a h (x.tdiv a) (y.tdiv a) by omega]
end Go.Af.Tryz
namespace Go.Af.Tryz
open Go

end Go.Af.Tryz
namespace Go.Af.Tryz
open Go

end Go.Af.Tryz
namespace Go.Af.Tryz
open Go

end Go.Af.Tryz
namespace Go.Af.Tryz
open Go

end Go.Af.Tryz
namespace Go.Af.Tryz
open Go

end Go.Af.Tryz
namespace Go.Af.Tryz
open Go

end Go.Af.Tryz
namespace Go.Af.Tryz
open Go

end Go.Af.Tryz
namespace Go.Af.Tryz
open Go

theorem way_up {s : Sh} (hok : s.ok) {n : Nat} (hn : s.sw = n) {l D : List Int} {x y : Nat} (hw : WayOk s n l x y) (d : Dst (fun x : Nat => s.near x) n y D) : 0 ≤ D[x]! ∧ D[x]! ≤ ((l.length - 1 : Nat) : Int) := by
  have hp := hw.pos
  have g : ∀ {i a : Nat}, (l.map Int.toNat)[i]? = some a → i < l.length ∧ l[i]! = a := fun {i a} h => by
    have hi : i < l.length := by
      have := (List.getElem?_eq_some_iff.1 h).1
      simpa using this
    have := hw.inn i hi
    rw [List.getElem?_map, List.getElem?_eq_getElem hi] at h
    simp only [Option.map_some, Option.some.injEq] at h
    rw [getElem!_pos l i hi] at this ⊢
    exact ⟨hi, by omega⟩
  have e : ∀ {i : Nat}, i < l.length → (l.map Int.toNat)[i]? = some l[i]!.toNat := fun {i} hi => by
    rw [List.getElem?_map, List.getElem?_eq_getElem hi, getElem!_pos l i hi]; rfl
  have h := d.way (l := l.map Int.toNat) (by rw [List.length_map, e (by omega), hw.last, Int.toNat_natCast]) (fun i a b ha hb => by
      obtain ⟨h1, h2⟩ := g ha
      obtain ⟨h3, h4⟩ := g hb
      have r1 := hw.inn i h1
      have r2 := hw.inn (i + 1) h3
      have hl := hw.lnk i h3
      rw [h2] at r1 hl
      rw [h4] at r2 hl
      rw [lnk_sym hok (by omega) (by omega)] at hl
      exact ⟨by omega, (near_mem hok hn (by omega)).2 ⟨r1, hl⟩⟩) (l.length - 1) x (by
    rw [List.length_map, Nat.sub_self, e hp, hw.hd, Int.toNat_natCast]) (by rw [List.length_map]; omega)
  exact ⟨h.2.1, h.2.2⟩
end Go.Af.Tryz
namespace Go.Af.Tryz
open Go

end Go.Af.Tryz
namespace Go.Af.Tryz
open Go Go.Proofs
attribute [local irreducible] awp ACall ACallX AYield AInvoke newSlice isCells rdCells wrCells aAppend rangeEnd roundBegin roundEnd


end Go.Af.Tryz
