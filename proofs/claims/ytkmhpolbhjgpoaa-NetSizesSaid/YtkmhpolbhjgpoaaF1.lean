/-
  The law NetSizes returns true for every network, every host and every switch: its given statement, with no condition of its own.
-/
import Derived.Test.YtkmhpolbhjgpoaaRows
import Derived.Test.YtkmhpolbhjgpoaaS11
import Derived.Test.YtkmhpolbhjgpoaaF0
namespace Go.Proofs.Ytkmhpolbhjgpoaa
open Go Go.Af Go.ChangeShapes Go.WideShapes Go.ChangeAt Go.RowKit Go.Joins

theorem Try.own : ownKnob Try.prog.godebug = none := by kernel_rfl
theorem Try.laidOut : laidOutB Try.prog = true := by kernel_rfl
theorem Try.cells24 : Try.prog.cellsOf 24 = 3 := by kernel_rfl
theorem Try.cells3 : Try.prog.cellsOf 3 = 1 := by kernel_rfl

set_option maxRecDepth 100000 in
theorem netSizes_lifted (os : Os) (started : os.Started) (H : Type) (enc : TypeId × Value → H) :
    ReturnsInHanded {} Try.checked os 5 .any (Rows.netSizesSpec.pre6 enc Try.prog Try.f5 Rows.netSizesRow.domain false) (Rows.netSizesSpec.post enc Try.prog Try.f5 false true false false) := by
  refine returnsInHanded_of_change (C := Try.checked) Try.own started (by kernel_rfl) Try.func5
    (ChangeSpec.witness6 (enc := enc) (C := Try.checked) false ⟨#[], #[.agg #[.int .i64 0, .slice none 0 0, .int .i64 0], .int .i64 0, .int .i64 0], []⟩ 8 (by kernel_rfl) (by kernel_rfl) (by kernel_rfl) (by kernel_rfl)) ?_
  intro W base args ds gs before hval0 hW hcnd _
  have hval : ∀ (j : Nat) t v, Try.f5.params[j]? = some t → args[j]? = some v → Value.okWide Try.prog W .any base t v := hval0
  have hW' := hW
  obtain ⟨p, q, hA0, hV, rfl, hfz, hnd⟩ := hW
  have hA : DataW.TrodAll enc Try.prog W 0 (fun _ => true) true Try.f5.params.toList args.toList ds p := hA0
  rw [Try.params5] at hA hval
  obtain ⟨v0, v1, v2, d0, d1, d2, p0, p1, p2, rfl, rfl, rfl, h0, h1, h2⟩ := trodAll_three hA
  obtain ⟨rfl, rfl⟩ := trodVars_none hV
  obtain ⟨a, rfl, rfl, rfl, wa⟩ := open_int Try.underlying3 (hval 1 3 v1 rfl rfl) h1
  obtain ⟨b, rfl, rfl, rfl, wb⟩ := open_int Try.underlying3 (hval 2 3 v2 rfl rfl) h2
  have h0k := h0
  obtain ⟨c0, c1, c2, y0, y1, y2, n, rfl, rfl, rfl, hy0, hy1, hy2⟩ := open_agg3 Try.underlying24 (by kernel_rfl) Try.cells24 (hval 0 24 v0 rfl rfl) h0
  obtain ⟨kind, e0, _, _⟩ := DataW.trod_int Try.underlying3 hy0
  obtain ⟨hosts, e2, _, _⟩ := DataW.trod_int Try.underlying3 hy2
  have hs := open_ints Try.underlying22 Try.underlying3 Try.cells3 hy1
  have hsl : c1 = .slice none 0 0 ∨ ∃ (a : Addr) (len cap : Nat) (zs : List Int), c1 = .slice (some a) len cap ∧ len ≤ cap ∧ zs.length = cap ∧ ∀ i, i < zs.length → W.cell? (a.add i) = some (.int .i64 (zs.getD i 0)) := by
    rcases hs with ⟨e1, _⟩ | ⟨a, len, cap, zs, e1, _, h3, _, h5, _, h7, _⟩
    · exact .inl (by simpa using e1)
    · exact .inr ⟨a, len, cap, zs, by simpa using e1, h3, by simpa using h5, h7⟩
  obtain ⟨xs, m, hm, hv⟩ := ints_arg hsl
  have e0 : c0 = .int .i64 kind := by simpa using e0
  have e2 : c2 = .int .i64 hosts := by simpa using e2
  subst e0; subst e2
  have hlt : ∀ x ∈ y0.2 ++ (y1.2 ++ y2.2), x.block < W.heap.size := fun x hx => hW'.lt x (by simpa using hx)
  refine (Go.Af.Try.k5 kind hosts xs a b (i64_wf wa) (i64_wf wb) (m := m) (.cons (.agg' (.cons (.int _ _) (.cons hv (.cons (.int _ _) (.nil m))))) (.cons (.int _ _) (.cons (.int _ _) (.nil m)))) hm).mono fun e W' ⟨vR, he, v, H', m', hv1, hv2, _, hf⟩ => ?_
  subst he; subst hv1
  cases hv2
  have hb : Below W.heap.size W W' := below_of rfl hf
  exact ⟨_, rfl, post_below (pa := y0.2 ++ (y1.2 ++ y2.2) ++ ([] ++ [])) (pv := []) hW' (fun _ _ _ => trodAll_mk1 (shut_bool Try.underlying4 true))
    (fun sp hsp => trodAll_mk3 (below_trod Try.laidOut (by kernel_rfl) (of_decide_eq_true (by kernel_rfl)) h0k hb hlt (fun x hx => hsp x (by simpa using hx))) (shut_int Try.underlying3 wa) (shut_int Try.underlying3 wb))
    (fun _ _ => rfl) (by simp) hb (ok_one (by kernel_rfl) rfl (okWide_bool_mk Try.underlying4 true))⟩

theorem netSizes_holds : Rows.NetSizesSaid :=
  OpenClaim.holds_of_wide 5 Try.f5 rfl rfl rfl rfl rfl rfl rfl ⟨rfl, rfl, rfl, rfl, rfl⟩ rfl rfl rfl rfl rfl (by kernel_rfl) Try.func5 (by kernel_rfl)
    (of_decide_eq_true (by kernel_rfl)) (by unfold Func.isWrapper; first | (rw [if_pos (by decide +kernel)]; kernel_rfl) | (rw [if_neg (by decide +kernel)]; exact ⟨rfl, rfl⟩))
    (fun os started H enc _ => netSizes_lifted os started H enc)
end Go.Proofs.Ytkmhpolbhjgpoaa
