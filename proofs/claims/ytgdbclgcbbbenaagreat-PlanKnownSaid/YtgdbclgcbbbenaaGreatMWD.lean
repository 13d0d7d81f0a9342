/-
  Calls that are computed once and for all: what the examples measure, choose, verify and need.
-/
import Derived.Test.YtgdbclgcbbbenaaGreatMWC
set_option linter.all false
noncomputable section
namespace Go.Af.Tryz.W
open Go Go.Proofs Go.Af.Tryz
set_option maxRecDepth 100000
attribute [local irreducible] awp qi qw qH qy
def meA (a:Int) (w:List Int):List Value := [tkQ 1 4 0 2, .int .i64 a, .agg ⟨ints w⟩]
theorem me_run1:plC EE 49 (meA 1 [3,4,6,0,46]) (.bool true)=true:=by kernel_rfl
theorem me_run2:plC EE 49 (meA 2 [2,3,6,0,35]) (.bool true)=true:=by kernel_rfl
def neV (i:Bool):Value := .tuple ⟨[.bool i, .int .i64 0]⟩
theorem ne_run1:plC EE4 24 [tkQ 4 3 0 1, .int .i64 1, .int .i64 2] (neV true)=true:=by kernel_rfl
theorem ne_run2:plC EE4 24 [tkQ 4 3 0 1, .int .i64 2, .int .i64 1] (neV false)=true:=by kernel_rfl
def ceV (k w j c:Int):Value := .agg ⟨[.int .i64 3, .int .i64 4, .int .i64 0, .int .i64 1, .slice none 0 0, .slice none 0 0, .int .i64 6, .int .i64 2, .int .i64 3, .int .i64 3, .int .i64 2, .int .i64 k]++lowV 2 2 w j c 0 2 1 0⟩
theorem ch_run:mcC EE5 33 [tkQ 3 4 0 1] (.tuple ⟨[ceV 31 2 2 28, .int .i64 0]⟩)=true:=by kernel_rfl
theorem ve_run1:mcC EE4 41 [ceV 31 2 2 28] (.int .i64 0)=true:=by kernel_rfl
theorem ve_run2:mcC EE4 41 [ceV 30 2 2 28] (.int .i64 23)=true:=by kernel_rfl
theorem ve_run3:mcC EE4 41 [ceV 31 2 1 27] (.int .i64 0)=true:=by kernel_rfl
theorem ve_run4:mcC EE4 41 [ceV 31 3 2 30] (.int .i64 23)=true:=by kernel_rfl
def EE6:Env := { EE5 with ors:=(41,orE (orcG [ceV 31 2 2 28] (.int .i64 0)) (orE (orcG [ceV 30 2 2 28] (.int .i64 23)) (orE (orcG [ceV 31 2 1 27] (.int .i64 0)) (orcG [ceV 31 3 2 30] (.int .i64 23)))))::EE5.ors }
theorem eok6:EOk Tryz.prog EE6:=eok_add eok5 (orE_ok (orcG_ok rfl (mc_run eok4 rfl ve_run1) rfl) (orE_ok (orcG_ok rfl (mc_run eok4 rfl ve_run2) rfl) (orE_ok (orcG_ok rfl (mc_run eok4 rfl ve_run3) rfl) (orcG_ok rfl (mc_run eok4 rfl ve_run4) rfl))))
def EE7:Env := { EE6 with ors:=(33,orcG [tkQ 3 4 0 1] (.tuple ⟨[ceV 31 2 2 28, .int .i64 0]⟩))::EE6.ors }
theorem eok7:EOk Tryz.prog EE7:=eok_add eok6 (orcG_ok rfl (mc_run eok5 rfl ch_run) rfl)
def EE8:Env := { EE7 with ors:=(49,orE (orcP (meA 1 [3,4,6,0,46]) (.bool true)) (orcP (meA 2 [2,3,6,0,35]) (.bool true)))::EE7.ors }
theorem eok8:EOk Tryz.prog EE8:=eok_add eok7 (orE_ok (orcP_ok eok rfl rfl me_run1) (orcP_ok eok rfl rfl me_run2))
def EE9:Env := { EE8 with ors:=(24,orE (orcP [tkQ 4 3 0 1, .int .i64 1, .int .i64 2] (neV true)) (orcP [tkQ 4 3 0 1, .int .i64 2, .int .i64 1] (neV false)))::EE8.ors }
theorem eok9:EOk Tryz.prog EE9:=eok_add eok8 (orE_ok (orcP_ok eok4 rfl rfl ne_run1) (orcP_ok eok4 rfl rfl ne_run2))
theorem works_run:plC EE9 13 [] (.bool true)=true:=by kernel_rfl
def EE10:Env := { EE9 with ors:=(13,orcP [] (.bool true))::EE9.ors }
theorem eok10:EOk Tryz.prog EE10:=eok_add eok9 (orcP_ok eok9 rfl rfl works_run)
end Go.Af.Tryz.W
