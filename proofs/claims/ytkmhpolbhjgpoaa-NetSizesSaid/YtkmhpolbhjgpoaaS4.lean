import Derived.Test.YtkmhpolbhjgpoaaS3
namespace Go.Af.Try
open Go Go.Proofs
attribute [local irreducible] awp ACall ACallX AYield

/-- A specification of a network as an argument. -/
abbrev spV (kind : Int) (v : Value) (hosts : Int) : Value := .agg ⟨[.int .i64 kind, v, .int .i64 hosts]⟩

theorem vback_sv {ι : List (Nat × Nat)} {j i n c : Nat} (h : ι[j]? = some (i, 0)) : VBack ι (.slice (some ⟨j, 0, none⟩) n c) (.slice (some ⟨i, 0, none⟩) n c) := by
  have := VBack.slice (o := 0) (l := n) (c := c) h
  simpa using this
theorem vback_shR {ι : List (Nat × Nat)} {j i n : Nat} (h : ι[j]? = some (i, 0)) (s : Option Sh) : VBack ι (shR (sv j n) s) (shR (sv i n) s) := by
  match s with
  | none => exact VBack.plain rfl
  | some (.grid g) => exact VBack.tuple (.cons (.iface _ (vback_sv h)) (.cons (.int _ _) .nil))
  | some (.fat k n) => exact VBack.plain rfl
  | some (.fly k n) => exact VBack.plain rfl

theorem c57 {H : List Blk} {R : Value → List Blk → Prop} {b c : Nat} {wr : Bool} {sides : List Int} (kind hosts : Int) (hb : bget H b = some (.cells wr 1 (ints sides))) (hc : sides.length ≤ c)
    (h : R (shR (sv b sides.length) (shapeF kind sides hosts)) H) : ACallX Try.prog 57 [spV kind (.slice (some ⟨b, 0, none⟩) sides.length c) hosts] H R :=
  acallx_ro (l57 kind hosts sides) [(b, 0)] rfl (.cons (.agg (.cons (.int _ _) (.cons (VRen.slice rfl rfl hc) (.cons (.int _ _) .nil)))) .nil)
    ⟨⟨_, hb, BRen.seg fun i x hx => by rw [Nat.zero_add, ints_get, hx]; rfl⟩, trivial⟩ (by
      rintro v2 H2' ⟨rfl, rfl⟩
      exact ⟨_, [], [], by simp, rfl, fun k b2 hk => by simp at hk, vback_shR rfl _, by simpa using h⟩)
end Go.Af.Try
