/-
  The table of algorithms: a map of maps.
  The algorithms of a task: plainly.
  The algorithms of a task, and of the reference; whether two rows are equal.
-/
import Derived.Test.YtmnjcogpchodhaaGreatMGG
import Derived.Test.YtmnjcogpchodhaaGreatMGC
import Derived.Test.YtmnjcogpchodhaaGreatMGS
set_option linter.all false
namespace Go.Af.Tryz
open Go Go.Proofs
set_option maxRecDepth 100000
set_option maxHeartbeats 4000000
attribute [local irreducible] awp qV vU vZ vW ve isCells qP qN vN vz qW roundEnd rdMap wrMap keyK xn

def entG (S : List (Int × Value)) : List MapEntry := S.mapIdx fun i p=>⟨.int .i64 p.1,p.2,i⟩
abbrev mpG (S : List (Int × Value)) : Blk := .map true (entG S) S.length
theorem entG_get {S : List (Int × Value)} {j : Nat} {e : MapEntry} (h : (entG S)[j]? = some e) : ∃ p,S[j]? = some p∧e = ⟨.int .i64 p.1,p.2,j⟩ := by
  unfold entG at h
  rw [List.getElem?_mapIdx] at h
  cases hw : S[j]? with
  | none=>rw [hw] at h;cases h
  | some p=>rw [hw] at h;cases h;exact ⟨p,rfl,rfl⟩
theorem mfind_G {H : List Blk} {S : List (Int × Value)} {a : Int} {K : Option Nat→Prop} (h1 : ∀ j v,S[j]? = some (a,v)→(∀ j' p,j' < j→S[j']? = some p→p.1≠a)→K (some j)) (h0 : (∀ p∈S,p.1≠a)→K none) : xn Tryz.prog T H 3 (.int .i64 a) (entG S) 0 K := by
  refine mfind_list (fun e=>match e.key with | .int .i64 c=>decide (a = c) | _=>false) _ _ (fun e he K' hk=>?_) (fun j e hj ht hb=>?_) (fun hn=>h0 (fun p hp he=>?_))
  · obtain ⟨j,hj⟩ := List.getElem?_of_mem he
    obtain ⟨p,_,rfl⟩ := entG_get hj
    exact keq3 hk
  · obtain ⟨p,hp,rfl⟩ := entG_get hj
    simp only [decide_eq_true_eq] at ht
    rw [Nat.zero_add]
    refine h1 j p.2 (by rw [hp,ht]) (fun j' q hj' hq he=>?_)
    have := hb j' ⟨.int .i64 q.1,q.2,j'⟩ hj' (by unfold entG;rw [List.getElem?_mapIdx,hq];rfl)
    simp [he] at this
  · obtain ⟨j,hj⟩ := List.getElem?_of_mem hp
    have := hn ⟨.int .i64 p.1,p.2,j⟩ (List.mem_of_getElem? (i := j) (by unfold entG;rw [List.getElem?_mapIdx,hj];rfl))
    simp [he] at this
theorem lookG {H : List Blk} {m n j : Nat} {wr : Bool} {S : List (Int × Value)} {a : Int} {v z : Value} {K : Value→Prop} (hm : bget H m = some (.map wr (entG S) n)) (hj : S[j]? = some (a,v)) (hb : (S.take j).all (fun p => !(decide (p.1 = a))) = true) (h : K v) :
    rdMap H m (fun es=>keyK Tryz.prog T 3 (.int .i64 a) (xn Tryz.prog T H 3 (.int .i64 a) es 0 (fun r=>lkK false z es r K))) := by
  refine rdMap_of hm (keyK3 (mfind_G (fun j' v' hj' hb' => ?_) (fun hn=>absurd rfl (hn _ (List.mem_of_getElem? hj)))))
  have e : j' = j := by
    rcases Nat.lt_trichotomy j' j with hlt | he | hlt
    · have := List.all_eq_true.1 hb (a,v') (List.mem_of_getElem? (i := j') (by rw [List.getElem?_take,if_pos hlt];exact hj'))
      simp at this
    · exact he
    · exact absurd rfl (hb' j _ hlt hj)
  subst e
  refine ⟨⟨.int .i64 a,v,j'⟩,by unfold entG;rw [List.getElem?_mapIdx,hj];rfl,h⟩
theorem entG_snoc (S : List (Int × Value)) (a : Int) (v : Value) : entG S ++ [⟨.int .i64 a,v,S.length⟩] = entG (S ++ [(a,v)]) := by unfold entG;rw [List.mapIdx_append];simp
section
variable {H0 H : List Blk} {o : Nat→Prop} {L : List (Bool × Nat × Blk)}
theorem vF (hs : HS H0 o L H) (i : Nat) {m : Nat} {S : List (Int × Value)} {a : Int} {v : Value} {K : List Blk→Prop} (hi : L[i]? = some (true,m,mpG S)) (hn : S.all (fun p => !(decide (p.1 = a))) = true) (k : ∀ H',HS H0 o (L.set i (true,m,mpG (S ++ [(a,v)]))) H' → K H') :
    wrMap H m (fun es clock=>keyK Tryz.prog T 3 (.int .i64 a) (xn Tryz.prog T H 3 (.int .i64 a) es 0 (fun r=>match r with
      | some p=>zi H m (.map true (es.modify p (fun e=>{ e with key := .int .i64 a,val := v })) clock) K
      | none=>zi H m (.map true (es ++ [⟨.int .i64 a,v,clock⟩]) (clock + 1)) K))) := by
  refine wrMap_of (hs.get i hi) (keyK3 (mfind_G (fun j v' hj _=>?_) (fun _=>?_)))
  · have := List.all_eq_true.1 hn _ (List.mem_of_getElem? hj)
    simp at this
  · refine set_of (hs.lt i hi) (fun H' h1 h2 h3=>k H' ?_)
    rw [entG_snoc] at h2
    refine hs.set i hi h1 ?_ h3
    rw [h2];simp
end
abbrev fnC (f : Nat) : Value := .func (.func f) #[] #[]
abbrev eaV (k : Nat) : Value := .func (.func 198) #[] #[.pointer (some ⟨k,0,none⟩)]
theorem c109 {H : List Blk} {f : Nat} {R : Value→List Blk→Prop} (h : ∀ H' k,HS H none' [(true,k, .cells true 1 [fnC f])] H' → R (eaV k) H') : qV Tryz.prog 109 [fnC f] H R := by
  refine qJ tok Tryz.call109 Tryz.func109 rfl Tryz.ntmps109 rfl (by simp) ?_
  refine qI (HS.start H none') (fun H1 b1 e1 l1 hs=>?_)
  exact h H1 b1 hs
abbrev tabF (m1 m2 m3 m4 m5 m6 m7 m8 m9 m10 m11 : Nat) : List (Int × Value) := [(1, .map (some m1)),(2, .map (some m2)),(3, .map (some m3)),(4, .map (some m4)),(5, .map (some m5)),(6, .map (some m6)),(7, .map (some m7)),(8, .map (some m8)),(9, .map (some m9)),(10, .map (some m10)),(11, .map (some m11))]
theorem c59 {H : List Blk} {R : Value→List Blk→Prop} (h : ∀ H' m m1 m2 m3 m4 m5 m6 m7 m8 m9 m10 m11 k110 k114 k119 k121 k123 k125 k131 k132,HS H none' [(true,m,mpG (tabF m1 m2 m3 m4 m5 m6 m7 m8 m9 m10 m11)),(true,m1,mpG [(1,eaV k110),(2,fnC 111),(3,fnC 112),(4,fnC 113)]),(true,m2,mpG [(1,eaV k114),(2,fnC 115),(3,fnC 112)]),(true,m3,mpG [(5,fnC 116),(6,fnC 117),(7,fnC 118)]),(true,m4,mpG [(1,eaV k119),(6,fnC 120)]),(true,m5,mpG [(1,eaV k121),(2,fnC 122)]),(true,m6,mpG [(1,eaV k123),(2,fnC 124)]),(true,m7,mpG [(7,eaV k125),(6,fnC 126),(8,fnC 127)]),(true,m8,mpG [(9,fnC 128),(10,fnC 129),(8,fnC 130)]),(true,m9,mpG [(7,eaV k131),(9,eaV k132),(11,fnC 133)]),(true,m10,mpG [(7,fnC 134),(5,fnC 116)]),(true,m11,mpG [(7,fnC 135)]),(true,k110, .cells true 1 [fnC 110]),(true,k114, .cells true 1 [fnC 114]),(true,k119, .cells true 1 [fnC 119]),(true,k121, .cells true 1 [fnC 121]),(true,k123, .cells true 1 [fnC 123]),(true,k125, .cells true 1 [fnC 125]),(true,k131, .cells true 1 [fnC 131]),(true,k132, .cells true 1 [fnC 132])] H' → R (.map (some m)) H') : qV Tryz.prog 59 [] H R := by
  refine qJ tok Tryz.call59 Tryz.func59 rfl Tryz.ntmps59 rfl (by simp) ?_
  have hs := HS.start H none'
  refine qO (fun _ hKs=>hKs _ _ ?_);clear hKs
  refine qo (fun K0 hK0=>?_)
  refine qI hs (fun H1 m e1 l1 hs=>?_)
  refine qI hs (fun H2 m1 e2 l2 hs=>?_)
  refine c109 (fun H3 k110 hn=>?_)
  have hs := hs.call hn rfl;clear hn
  refine vF hs 1 (S := []) (a := 1) (v := eaV k110) rfl rfl (fun H4 hs=>?_)
  refine vF hs 1 (S := [(1,eaV k110)]) (a := 2) (v := fnC 111) rfl rfl (fun H5 hs=>?_)
  refine vF hs 1 (S := [(1,eaV k110),(2,fnC 111)]) (a := 3) (v := fnC 112) rfl rfl (fun H6 hs=>?_)
  refine vF hs 1 (S := [(1,eaV k110),(2,fnC 111),(3,fnC 112)]) (a := 4) (v := fnC 113) rfl rfl (fun H7 hs=>?_)
  refine vF hs 2 (S := []) (a := 1) (v := .map (some m1)) rfl rfl (fun H8 hs=>?_)
  refine qI hs (fun H9 m2 e9 l9 hs=>?_)
  refine c109 (fun H10 k114 hn=>?_)
  have hs := hs.call hn rfl;clear hn
  refine vF hs 1 (S := []) (a := 1) (v := eaV k114) rfl rfl (fun H11 hs=>?_)
  refine vF hs 1 (S := [(1,eaV k114)]) (a := 2) (v := fnC 115) rfl rfl (fun H12 hs=>?_)
  refine vF hs 1 (S := [(1,eaV k114),(2,fnC 115)]) (a := 3) (v := fnC 112) rfl rfl (fun H13 hs=>?_)
  refine vF hs 4 (S := [(1, .map (some m1))]) (a := 2) (v := .map (some m2)) rfl rfl (fun H14 hs=>?_)
  refine qI hs (fun H15 m3 e15 l15 hs=>?_)
  refine vF hs 0 (S := []) (a := 5) (v := fnC 116) rfl rfl (fun H16 hs=>?_)
  refine vF hs 0 (S := [(5,fnC 116)]) (a := 6) (v := fnC 117) rfl rfl (fun H17 hs=>?_)
  refine vF hs 0 (S := [(5,fnC 116),(6,fnC 117)]) (a := 7) (v := fnC 118) rfl rfl (fun H18 hs=>?_)
  refine vF hs 5 (S := [(1, .map (some m1)),(2, .map (some m2))]) (a := 3) (v := .map (some m3)) rfl rfl (fun H19 hs=>?_)
  refine qI hs (fun H20 m4 e20 l20 hs=>?_)
  refine c109 (fun H21 k119 hn=>?_)
  have hs := hs.call hn rfl;clear hn
  refine vF hs 1 (S := []) (a := 1) (v := eaV k119) rfl rfl (fun H22 hs=>?_)
  refine vF hs 1 (S := [(1,eaV k119)]) (a := 6) (v := fnC 120) rfl rfl (fun H23 hs=>?_)
  refine vF hs 7 (S := [(1, .map (some m1)),(2, .map (some m2)),(3, .map (some m3))]) (a := 4) (v := .map (some m4)) rfl rfl (fun H24 hs=>?_)
  refine qI hs (fun H25 m5 e25 l25 hs=>?_)
  refine c109 (fun H26 k121 hn=>?_)
  have hs := hs.call hn rfl;clear hn
  refine vF hs 1 (S := []) (a := 1) (v := eaV k121) rfl rfl (fun H27 hs=>?_)
  refine vF hs 1 (S := [(1,eaV k121)]) (a := 2) (v := fnC 122) rfl rfl (fun H28 hs=>?_)
  refine vF hs 9 (S := [(1, .map (some m1)),(2, .map (some m2)),(3, .map (some m3)),(4, .map (some m4))]) (a := 5) (v := .map (some m5)) rfl rfl (fun H29 hs=>?_)
  refine qI hs (fun H30 m6 e30 l30 hs=>?_)
  refine c109 (fun H31 k123 hn=>?_)
  have hs := hs.call hn rfl;clear hn
  refine vF hs 1 (S := []) (a := 1) (v := eaV k123) rfl rfl (fun H32 hs=>?_)
  refine vF hs 1 (S := [(1,eaV k123)]) (a := 2) (v := fnC 124) rfl rfl (fun H33 hs=>?_)
  refine vF hs 11 (S := [(1, .map (some m1)),(2, .map (some m2)),(3, .map (some m3)),(4, .map (some m4)),(5, .map (some m5))]) (a := 6) (v := .map (some m6)) rfl rfl (fun H34 hs=>?_)
  refine qI hs (fun H35 m7 e35 l35 hs=>?_)
  refine c109 (fun H36 k125 hn=>?_)
  have hs := hs.call hn rfl;clear hn
  refine vF hs 1 (S := []) (a := 7) (v := eaV k125) rfl rfl (fun H37 hs=>?_)
  refine vF hs 1 (S := [(7,eaV k125)]) (a := 6) (v := fnC 126) rfl rfl (fun H38 hs=>?_)
  refine vF hs 1 (S := [(7,eaV k125),(6,fnC 126)]) (a := 8) (v := fnC 127) rfl rfl (fun H39 hs=>?_)
  refine vF hs 13 (S := [(1, .map (some m1)),(2, .map (some m2)),(3, .map (some m3)),(4, .map (some m4)),(5, .map (some m5)),(6, .map (some m6))]) (a := 7) (v := .map (some m7)) rfl rfl (fun H40 hs=>?_)
  refine qI hs (fun H41 m8 e41 l41 hs=>?_)
  refine vF hs 0 (S := []) (a := 9) (v := fnC 128) rfl rfl (fun H42 hs=>?_)
  refine vF hs 0 (S := [(9,fnC 128)]) (a := 10) (v := fnC 129) rfl rfl (fun H43 hs=>?_)
  refine vF hs 0 (S := [(9,fnC 128),(10,fnC 129)]) (a := 8) (v := fnC 130) rfl rfl (fun H44 hs=>?_)
  refine vF hs 14 (S := [(1, .map (some m1)),(2, .map (some m2)),(3, .map (some m3)),(4, .map (some m4)),(5, .map (some m5)),(6, .map (some m6)),(7, .map (some m7))]) (a := 8) (v := .map (some m8)) rfl rfl (fun H45 hs=>?_)
  refine qI hs (fun H46 m9 e46 l46 hs=>?_)
  refine c109 (fun H47 k131 hn=>?_)
  have hs := hs.call hn rfl;clear hn
  refine vF hs 1 (S := []) (a := 7) (v := eaV k131) rfl rfl (fun H48 hs=>?_)
  refine c109 (fun H49 k132 hn=>?_)
  have hs := hs.call hn rfl;clear hn
  refine vF hs 2 (S := [(7,eaV k131)]) (a := 9) (v := eaV k132) rfl rfl (fun H50 hs=>?_)
  refine vF hs 2 (S := [(7,eaV k131),(9,eaV k132)]) (a := 11) (v := fnC 133) rfl rfl (fun H51 hs=>?_)
  refine vF hs 17 (S := [(1, .map (some m1)),(2, .map (some m2)),(3, .map (some m3)),(4, .map (some m4)),(5, .map (some m5)),(6, .map (some m6)),(7, .map (some m7)),(8, .map (some m8))]) (a := 9) (v := .map (some m9)) rfl rfl (fun H52 hs=>?_)
  refine qI hs (fun H53 m10 e53 l53 hs=>?_)
  refine vF hs 0 (S := []) (a := 7) (v := fnC 134) rfl rfl (fun H54 hs=>?_)
  refine vF hs 0 (S := [(7,fnC 134)]) (a := 5) (v := fnC 116) rfl rfl (fun H55 hs=>?_)
  refine vF hs 18 (S := [(1, .map (some m1)),(2, .map (some m2)),(3, .map (some m3)),(4, .map (some m4)),(5, .map (some m5)),(6, .map (some m6)),(7, .map (some m7)),(8, .map (some m8)),(9, .map (some m9))]) (a := 10) (v := .map (some m10)) rfl rfl (fun H56 hs=>?_)
  refine qI hs (fun H57 m11 e57 l57 hs=>?_)
  refine vF hs 0 (S := []) (a := 7) (v := fnC 135) rfl rfl (fun H58 hs=>?_)
  refine vF hs 19 (S := [(1, .map (some m1)),(2, .map (some m2)),(3, .map (some m3)),(4, .map (some m4)),(5, .map (some m5)),(6, .map (some m6)),(7, .map (some m7)),(8, .map (some m8)),(9, .map (some m9)),(10, .map (some m10))]) (a := 11) (v := .map (some m11)) rfl rfl (fun H59 hs=>?_)
  refine hK0 _ _ ?_
  repeat' (first|with_reducible (first|refine ql ?_|refine qo (fun K0 hK0=>?_)|refine qw ?_|refine qx ?_|refine qf ?_|refine qi ?_|refine qg ?_|refine qc ?_|refine qy (fun K0 hK0=>?_)|refine qB ?_|refine qH ?_|refine qp ?_|refine qG ?_|refine qA ?_|refine qj ?_|refine qh ?_|refine qC ?_|refine qE rfl ?_|refine qm rfl ?_)|refine aI (by decide) ?_|refine iS hs ?_|refine rS hs ?_|refine eI _ (aI rfl ?_)|refine cF (fun _=>?_)|refine cT (fun _=>?_)|refine aI (by omega) ?_|refine oJ ?_|refine qI hs (fun _ _ _ _ hs=>?_)|refine qF hs (fun _ _ _ _ hs=>?_)|refine sS hs 0 (fun _ _ hs=>?_)|refine sS hs 1 (fun _ _ hs=>?_)|refine sS hs 2 (fun _ _ hs=>?_)|refine rd ?_|(refine hK0 _ _ ?_;clear hK0)|fail)
  exact h _ m m1 m2 m3 m4 m5 m6 m7 m8 m9 m10 m11 k110 k114 k119 k121 k123 k125 k131 k132 (hs.pick [19,18,16,14,13,11,9,7,5,4,1,0,17,15,12,10,8,6,3,2] (by decide) rfl)
def algK (op : Int) : List Int :=
  if op = 1 then [1,2,3,4] else if op = 2 then [1,2,3] else if op = 3 then [5,6,7] else if op = 4 then [1,6] else if op = 5 then [1,2] else if op = 6 then [1,2]
  else if op = 7 then [7,6,8] else if op = 8 then [9,10,8] else if op = 9 then [7,9,11] else if op = 10 then [7,5] else [7]
theorem c59a {H : List Blk} {op : Int} {R : Value→List Blk→Prop} (hop : 1≤op∧op≤11) (h : ∀ H' m mb j M S,HS H none' [(true,m,mpG M),(true,mb,mpG S)] H' → M[j]? = some (op, .map (some mb))→(M.take j).all (fun p => !(decide (p.1 = op))) = true→S.map Prod.fst = algK op→R (.map (some m)) H') : qV Tryz.prog 59 [] H R := by
  have : op = 1∨op = 2∨op = 3∨op = 4∨op = 5∨op = 6∨op = 7∨op = 8∨op = 9∨op = 10∨op = 11 := by omega
  rcases this with rfl | rfl | rfl | rfl | rfl | rfl | rfl | rfl | rfl | rfl | rfl
  · exact c59 (fun H2 m m1 m2 m3 m4 m5 m6 m7 m8 m9 m10 m11 k110 k114 k119 k121 k123 k125 k131 k132 hn=>h H2 m m1 0 _ _ (hn.pick [0,1] (by decide) rfl) rfl rfl rfl)
  · exact c59 (fun H2 m m1 m2 m3 m4 m5 m6 m7 m8 m9 m10 m11 k110 k114 k119 k121 k123 k125 k131 k132 hn=>h H2 m m2 1 _ _ (hn.pick [0,2] (by decide) rfl) rfl rfl rfl)
  · exact c59 (fun H2 m m1 m2 m3 m4 m5 m6 m7 m8 m9 m10 m11 k110 k114 k119 k121 k123 k125 k131 k132 hn=>h H2 m m3 2 _ _ (hn.pick [0,3] (by decide) rfl) rfl rfl rfl)
  · exact c59 (fun H2 m m1 m2 m3 m4 m5 m6 m7 m8 m9 m10 m11 k110 k114 k119 k121 k123 k125 k131 k132 hn=>h H2 m m4 3 _ _ (hn.pick [0,4] (by decide) rfl) rfl rfl rfl)
  · exact c59 (fun H2 m m1 m2 m3 m4 m5 m6 m7 m8 m9 m10 m11 k110 k114 k119 k121 k123 k125 k131 k132 hn=>h H2 m m5 4 _ _ (hn.pick [0,5] (by decide) rfl) rfl rfl rfl)
  · exact c59 (fun H2 m m1 m2 m3 m4 m5 m6 m7 m8 m9 m10 m11 k110 k114 k119 k121 k123 k125 k131 k132 hn=>h H2 m m6 5 _ _ (hn.pick [0,6] (by decide) rfl) rfl rfl rfl)
  · exact c59 (fun H2 m m1 m2 m3 m4 m5 m6 m7 m8 m9 m10 m11 k110 k114 k119 k121 k123 k125 k131 k132 hn=>h H2 m m7 6 _ _ (hn.pick [0,7] (by decide) rfl) rfl rfl rfl)
  · exact c59 (fun H2 m m1 m2 m3 m4 m5 m6 m7 m8 m9 m10 m11 k110 k114 k119 k121 k123 k125 k131 k132 hn=>h H2 m m8 7 _ _ (hn.pick [0,8] (by decide) rfl) rfl rfl rfl)
  · exact c59 (fun H2 m m1 m2 m3 m4 m5 m6 m7 m8 m9 m10 m11 k110 k114 k119 k121 k123 k125 k131 k132 hn=>h H2 m m9 8 _ _ (hn.pick [0,9] (by decide) rfl) rfl rfl rfl)
  · exact c59 (fun H2 m m1 m2 m3 m4 m5 m6 m7 m8 m9 m10 m11 k110 k114 k119 k121 k123 k125 k131 k132 hn=>h H2 m m10 9 _ _ (hn.pick [0,10] (by decide) rfl) rfl rfl rfl)
  · exact c59 (fun H2 m m1 m2 m3 m4 m5 m6 m7 m8 m9 m10 m11 k110 k114 k119 k121 k123 k125 k131 k132 hn=>h H2 m m11 10 _ _ (hn.pick [0,11] (by decide) rfl) rfl rfl rfl)
end Go.Af.Tryz
namespace Go.Af.Tryz
open Go Go.Proofs
set_option maxRecDepth 100000
set_option maxHeartbeats 4000000

theorem nodup_le : ∀ {l m : List Nat},l.Nodup→(∀ x∈l,x∈m)→l.length≤m.length
  | [],_,_,_=>Nat.zero_le _
  | a :: l,m,hn,hs=>by
    have ha := hs a List.mem_cons_self
    have hc := List.nodup_cons.1 hn
    have := nodup_le (l := l) (m := m.erase a) hc.2 (fun x hx=>(List.mem_erase_of_ne (fun (e : x = a)=>hc.1 (by rw [← e];exact hx))).2 (hs x (List.mem_cons_of_mem _ hx)))
    have h1 := List.length_erase_of_mem ha
    have h2 := List.length_pos_of_mem ha
    simp only [List.length_cons]
    omega
theorem nodup_perm : ∀ {l m : List Nat},l.Nodup→m.Nodup→(∀ x,x∈l↔x∈m)→l.Perm m
  | [],m,_,_,h=>by
    cases m with
    | nil=>exact .nil
    | cons b m=>exact absurd ((h b).2 List.mem_cons_self) (by simp)
  | a :: l,m,hn,hm,h=>by
    have ha := (h a).1 List.mem_cons_self
    have hc := List.nodup_cons.1 hn
    refine (List.Perm.cons a (nodup_perm (l := l) (m := m.erase a) hc.2 (hm.erase a) (fun x=>?_))).trans (List.perm_cons_erase ha).symm
    rw [hm.mem_erase_iff]
    constructor
    · exact fun hx=>⟨fun (e : x = a)=>hc.1 (by rw [← e];exact hx),(h x).1 (List.mem_cons_of_mem _ hx)⟩
    · rintro ⟨h1,h2⟩
      rcases List.mem_cons.1 ((h x).2 h2) with h3 | h3
      · exact absurd h3 h1
      · exact h3
def okA (op : Int) (q : Bool) (a : Int) : Bool := if a = 10 then q else if a = 11 then q else if a = 6 then if op = 7 then q else true else true
def algF (op : Int) : Bool→List Int
  | true=>if op = 1 then [1,2,3,4] else if op = 2 then [1,2,3] else if op = 3 then [5,6,7] else if op = 4 then [1,6] else if op = 5∨op = 6 then [1,2]
    else if op = 7 then [6,7,8] else if op = 8 then [8,9,10] else if op = 9 then [7,9,11] else if op = 10 then [5,7] else [7]
  | false=>if op = 1 then [1,2,3,4] else if op = 2 then [1,2,3] else if op = 3 then [5,6,7] else if op = 4 then [1,6] else if op = 5∨op = 6 then [1,2]
    else if op = 7 then [7,8] else if op = 8 then [8,9] else if op = 9 then [7,9] else if op = 10 then [5,7] else [7]
def powB (p : Int) : Bool := decide (IntKind.i64.wrap ((BitVec.ofInt IntKind.i64.bits p &&& BitVec.ofInt IntKind.i64.bits (p - 1)).toNat : Int) = 0)
theorem alg_perm {op : Int} (h : 1≤op∧op≤11) (q : Bool) : ((algK op).filter (okA op q)).Perm (algF op q)∧(algF op q).Pairwise (· ≤ ·) := by
  have : op = 1∨op = 2∨op = 3∨op = 4∨op = 5∨op = 6∨op = 7∨op = 8∨op = 9∨op = 10∨op = 11 := by omega
  rcases this with rfl | rfl | rfl | rfl | rfl | rfl | rfl | rfl | rfl | rfl | rfl <;> cases q <;> exact ⟨List.isPerm_iff.1 (by decide),by decide⟩
theorem srt_alg {op : Int} (h : 1≤op∧op≤11) (q : Bool) {seen : List Nat} (hn : seen.Nodup) (hl : ∀ x∈seen,x < (algK op).length) (ha : ∀ x,x < (algK op).length→x∈seen) :
    srt ((seen.map (fun i=>(algK op)[i]!)).filter (okA op q)) = algF op q := by
  have hp : seen.Perm (List.range (algK op).length) := nodup_perm hn List.nodup_range (fun x=>by rw [List.mem_range];exact ⟨hl x,ha x⟩)
  have he : (List.range (algK op).length).map (fun i=>(algK op)[i]!) = algK op := by
    apply List.ext_getElem
    · simp
    · intro i h1 h2
      simp
      rw [getElem?_pos (algK op) i h2]
      rfl
  have hq := (hp.map (fun i=>(algK op)[i]!)).filter (okA op q)
  rw [he] at hq
  have hs := ((List.mergeSort_perm ((seen.map (fun i=>(algK op)[i]!)).filter (okA op q)) (fun x y=>decide (x≤y))).trans hq).trans (alg_perm h q).1
  refine hs.eq_of_pairwise (fun _ _ _ _ h1 h2=>Int.le_antisymm h1 h2) ?_ (alg_perm h q).2
  have := List.pairwise_mergeSort (le := fun x y : Int=>decide (x≤y)) (fun a b c h1 h2=>by simp at h1 h2 ⊢; omega) (fun a b=>by simp;omega) ((seen.map (fun i=>(algK op)[i]!)).filter (okA op q))
  exact this.imp (fun h=>by simpa using h)
theorem alg_lens {op : Int} (h : 1≤op∧op≤11) (q : Bool) : (algF op q).length≤4∧(algK op).length≤4 := by
  have : op = 1∨op = 2∨op = 3∨op = 4∨op = 5∨op = 6∨op = 7∨op = 8∨op = 9∨op = 10∨op = 11 := by omega
  rcases this with rfl | rfl | rfl | rfl | rfl | rfl | rfl | rfl | rfl | rfl | rfl <;> cases q <;> decide
def selF (op : Int) (q : Bool) (seen : List Nat) : List Int := (seen.map (fun i=>(algK op)[i]!)).filter (okA op q)
theorem selF_snoc (op : Int) (q : Bool) (seen : List Nat) (i : Nat) : selF op q (seen ++ [i]) = selF op q seen ++ (if okA op q (algK op)[i]! = true then [(algK op)[i]!] else []) := by
  unfold selF
  rw [List.map_append,List.filter_append]
  simp only [List.map_cons,List.map_nil,List.filter_cons,List.filter_nil]
theorem selF_len (op : Int) (q : Bool) (seen : List Nat) : (selF op q seen).length≤seen.length := by
  unfold selF
  have := List.length_filter_le (okA op q) (seen.map (fun i=>(algK op)[i]!))
  simpa using this
theorem mem_entG {S : List (Int × Value)} {e : MapEntry} (h : e∈entG S) : ∃ i, ∃ hi : i < S.length,e = ⟨.int .i64 S[i].1,S[i].2,i⟩ := by
  obtain ⟨j,hj⟩ := List.getElem?_of_mem h
  obtain ⟨p,hp,rfl⟩ := entG_get hj
  obtain ⟨hlt,rfl⟩ := List.getElem?_eq_some_iff.1 hp
  exact ⟨j,hlt,rfl⟩
theorem entG_mem {S : List (Int × Value)} {i : Nat} (hi : i < S.length) : (⟨.int .i64 S[i].1,S[i].2,i⟩ : MapEntry)∈entG S :=
  List.mem_of_getElem? (i := i) (by unfold entG;rw [List.getElem?_mapIdx,List.getElem?_eq_getElem hi];rfl)
theorem find_entG {S : List (Int × Value)} {i : Nat} (hi : i < S.length) : (entG S).find? (fun e=>Nat.beq e.born i) = some ⟨.int .i64 S[i].1,S[i].2,i⟩ := by
  rw [List.find?_eq_some_iff_getElem]
  refine ⟨by simp,i,by unfold entG;simpa using hi,by unfold entG;simp,fun j hj=>?_⟩
  have e : ((entG S)[j]'(by unfold entG;simp;omega)).born = j := by unfold entG;simp
  show (!(Nat.beq _ i)) = true
  rw [e]
  cases hb : Nat.beq j i with
  | false=>rfl
  | true=>exact absurd (Nat.eq_of_beq_eq_true hb) (by omega)
theorem next_some (S : List (Int × Value)) (seen : List Nat) : (seen.toArray.isEmpty || (entG S).isEmpty || !((entG S).all (fun e=>decide (S.length≤e.born)))) = true := by
  cases S with
  | nil=>simp [entG]
  | cons p S=>simp [entG,List.mapIdx_cons]
end Go.Af.Tryz
namespace Go.Af.Tryz
open Go Go.Proofs
set_option maxRecDepth 100000
set_option maxHeartbeats 4000000
attribute [local irreducible] awp qV vU vZ vW ve isCells qP qN vN vz qW roundEnd rdMap wrMap keyK xn

theorem c19 {H : List Blk} {xs ys : List Int} {a b : Nat} {wa wb : Bool} {R : Value→List Blk→Prop} (ha : bget H a = some (.cells wa 1 (ints xs))) (hb : bget H b = some (.cells wb 1 (ints ys))) (hl : xs.length≤1000000) (h : R (.bool (decide (xs = ys))) H) : qV Tryz.prog 19 [sv a xs.length,sv b ys.length] H R := by
  refine qJ tok Tryz.call19 Tryz.func19 rfl Tryz.ntmps19 rfl (by simp) ?_
  refine qO (fun _ hKs=>hKs _ _ ?_);clear hKs
  have hs := HS.start H none'
  by_cases hq : xs.length = ys.length
  · skip
    repeat' (first|with_reducible (first|refine ql ?_|refine qo (fun K0 hK0=>?_)|refine qw ?_|refine qx ?_|refine qf ?_|refine qi ?_|refine qg ?_|refine qc ?_|refine qy (fun K0 hK0=>?_)|refine qB ?_|refine qH ?_|refine qp ?_|refine qG ?_|refine qA ?_|refine qj ?_|refine qh ?_|refine qC ?_|refine qE rfl ?_|refine qm rfl ?_)|refine aI (by decide) ?_|refine iS hs ?_|refine rS hs ?_|refine eI _ (aI rfl ?_)|refine cF (fun _=>?_)|refine cT (fun _=>?_)|refine aI (by omega) ?_|refine oJ ?_|refine qI hs (fun _ _ _ _ hs=>?_)|refine qF hs (fun _ _ _ _ hs=>?_)|refine sS hs 0 (fun _ _ hs=>?_)|refine sS hs 1 (fun _ _ hs=>?_)|refine sS hs 2 (fun _ _ hs=>?_)|((refine aI (fun hc=>?_) (fun hc=>?_)) <;> (try simp only [decide_eq_true_eq,decide_eq_false_iff_not,Bool.not_eq_true',Bool.not_eq_false',Bool.not_false,Bool.not_true,bne_iff_ne,ne_eq,Decidable.not_not,Int.not_lt,Int.not_le] at hc) <;> (try (exfalso;omega)))|refine rd ?_|(refine hK0 _ _ ?_;clear hK0)|fail)
    refine wQ (α := Nat) tok (fun i=>i≤xs.length∧∀ j,j < i→xs[j]? = ys[j]?) (fun i=>[(0,sv a xs.length),(1,sv b ys.length),(5, .int .i64 i)]) (fun _=>H) (fun i=>xs.length - i)
      0 ⟨Nat.zero_le _,fun j hj=>absurd hj (by omega)⟩ ⟨⟨_,rfl, .rfl⟩,⟨_,rfl, .rfl⟩,⟨_,rfl, .rfl⟩,trivial⟩ WkH.rfl ?_
    rintro i ⟨hi,he⟩
    try dsimp only at hi he ⊢
    repeat' (first|with_reducible (first|refine ql ?_|refine qo (fun K0 hK0=>?_)|refine qw ?_|refine qx ?_|refine qf ?_|refine qi ?_|refine qg ?_|refine qc ?_|refine qy (fun K0 hK0=>?_)|refine qB ?_|refine qH ?_|refine qp ?_|refine qG ?_|refine qA ?_|refine qj ?_|refine qh ?_|refine qC ?_|refine qE rfl ?_|refine qm rfl ?_)|refine aI (by decide) ?_|refine iS hs ?_|refine rS hs ?_|refine eI _ (aI rfl ?_)|refine cF (fun _=>?_)|refine cT (fun _=>?_)|refine aI (by omega) ?_|refine oJ ?_|refine qI hs (fun _ _ _ _ hs=>?_)|refine qF hs (fun _ _ _ _ hs=>?_)|refine sS hs 0 (fun _ _ hs=>?_)|refine sS hs 1 (fun _ _ hs=>?_)|refine sS hs 2 (fun _ _ hs=>?_)|refine rd ?_|(refine hK0 _ _ ?_;clear hK0)|fail)
    refine And.intro (fun hc=>?_) (fun hc=>?_)
    · have hlt : i < xs.length := by simp at hc;omega
      clear hc
      repeat' (first|with_reducible (first|refine ql ?_|refine qo (fun K0 hK0=>?_)|refine qw ?_|refine qx ?_|refine qf ?_|refine qi ?_|refine qg ?_|refine qc ?_|refine qy (fun K0 hK0=>?_)|refine qB ?_|refine qH ?_|refine qp ?_|refine qG ?_|refine qA ?_|refine qj ?_|refine qh ?_|refine qC ?_|refine qE rfl ?_|refine qm rfl ?_)|refine aI (by decide) ?_|refine iS hs ?_|refine rS hs ?_|refine eI _ (aI rfl ?_)|refine cF (fun _=>?_)|refine cT (fun _=>?_)|refine aI (by omega) ?_|refine oJ ?_|refine qI hs (fun _ _ _ _ hs=>?_)|refine qF hs (fun _ _ _ _ hs=>?_)|refine sS hs 0 (fun _ _ hs=>?_)|refine sS hs 1 (fun _ _ hs=>?_)|refine sS hs 2 (fun _ _ hs=>?_)|refine rd ?_|(refine hK0 _ _ ?_;clear hK0)|fail)
      refine vO tok mx [0,0,3,7,0,0,48,112,255] [false,false,false,false,true,true,true,true,false] (.first 0 (.first 1 (.first 2 (.first 3 (.first 4 (.first 5 (.first 6 (.first 7 (.first 8 .done))))))))) (by kernel_rfl) ?_
      refine wo (fun K0 hK0=>?_)
      have hlt2 : i < ys.length := by omega
      repeat' (first|refine aI (by decide) ?_|refine iS hs ?_|refine rS hs ?_|refine eI _ (aI rfl ?_)|refine eI 0 (aI (by decide) ?_)|refine eI 1 (aI (by decide) ?_)|refine eI 2 (aI (by decide) ?_)|refine eI 3 (aI (by decide) ?_)|refine cF (fun _=>?_)|refine cT (fun _=>?_)|refine aI (by omega) ?_|refine oJ ?_|refine qI hs (fun _ _ _ _ hs=>?_)|refine qF hs (fun _ _ _ _ hs=>?_)|refine sS hs 0 (fun _ _ hs=>?_)|refine sS hs 1 (fun _ _ hs=>?_)|refine sS hs 2 (fun _ _ hs=>?_)|refine sS hs 3 (fun _ _ hs=>?_)|refine sS hs 4 (fun _ _ hs=>?_)|refine sS hs 5 (fun _ _ hs=>?_)|refine round_of tok (hs.get 0 rfl) ?_|refine wL hs 0 rfl (fun _ hs=>?_)|refine zJ hs 0 rfl (fun _ hs=>?_)|refine zo hs 0 rfl (by intro h;cases h) (fun _ hs=>?_)|refine round_of tok (hs.get 1 rfl) ?_|refine wL hs 1 rfl (fun _ hs=>?_)|refine zJ hs 1 rfl (fun _ hs=>?_)|refine zo hs 1 rfl (by intro h;cases h) (fun _ hs=>?_)|refine round_of tok (hs.get 2 rfl) ?_|refine wL hs 2 rfl (fun _ hs=>?_)|refine zJ hs 2 rfl (fun _ hs=>?_)|refine zo hs 2 rfl (by intro h;cases h) (fun _ hs=>?_)|refine round_of tok (hs.get 3 rfl) ?_|refine wL hs 3 rfl (fun _ hs=>?_)|refine zJ hs 3 rfl (fun _ hs=>?_)|refine zo hs 3 rfl (by intro h;cases h) (fun _ hs=>?_)|refine round_of tok (hs.get 4 rfl) ?_|refine wL hs 4 rfl (fun _ hs=>?_)|refine zJ hs 4 rfl (fun _ hs=>?_)|refine zo hs 4 rfl (by intro h;cases h) (fun _ hs=>?_)|refine round_of tok (hs.get 5 rfl) ?_|refine wL hs 5 rfl (fun _ hs=>?_)|refine zJ hs 5 rfl (fun _ hs=>?_)|refine zo hs 5 rfl (by intro h;cases h) (fun _ hs=>?_)|first|(refine vP ha ?_)|(refine vP hb ?_)|(refine vH ha ?_)|(refine vH hb ?_)|(refine vV hlt ?_)|(refine vV hlt2 ?_)|(refine And.intro ?_ ?_)|exact trivial|refine rd ?_|refine hK0 _ _ ?_|fail)
      · intro hc
        have hne : xs[i]! ≠ ys[i]! := by
          intro e
          rw [e] at hc
          simp at hc
        rw [decide_eq_false (fun e=>hne (by rw [e]))] at h
        repeat' (first|with_reducible (first|refine ql ?_|refine qo (fun K0 hK0=>?_)|refine qw ?_|refine qx ?_|refine qf ?_|refine qi ?_|refine qg ?_|refine qc ?_|refine qy (fun K0 hK0=>?_)|refine qB ?_|refine qH ?_|refine qp ?_|refine qG ?_|refine qA ?_|refine qj ?_|refine qh ?_|refine qC ?_|refine qE rfl ?_|refine qm rfl ?_)|refine aI (by decide) ?_|refine iS hs ?_|refine rS hs ?_|refine eI _ (aI rfl ?_)|refine cF (fun _=>?_)|refine cT (fun _=>?_)|refine aI (by omega) ?_|refine oJ ?_|refine qI hs (fun _ _ _ _ hs=>?_)|refine qF hs (fun _ _ _ _ hs=>?_)|refine sS hs 0 (fun _ _ hs=>?_)|refine sS hs 1 (fun _ _ hs=>?_)|refine sS hs 2 (fun _ _ hs=>?_)|refine rd ?_|(refine hK0 _ _ ?_;clear hK0)|fail)
        exact h
      · intro hc
        have heq : xs[i]! = ys[i]! := by
          by_cases e : xs[i]! = ys[i]!
          · exact e
          · rw [decide_eq_false e] at hc
            simp at hc
        have he2 : ∀ j,j < i + 1→xs[j]? = ys[j]? := fun j hj=>by
          by_cases hji : j = i
          · subst hji
            rw [getElem!_pos xs j hlt,getElem!_pos ys j hlt2] at heq
            rw [List.getElem?_eq_getElem hlt,List.getElem?_eq_getElem hlt2,heq]
          · exact he j (by omega)
        repeat' (first|with_reducible (first|refine ql ?_|refine qo (fun K0 hK0=>?_)|refine qw ?_|refine qx ?_|refine qf ?_|refine qi ?_|refine qg ?_|refine qc ?_|refine qy (fun K0 hK0=>?_)|refine qB ?_|refine qH ?_|refine qp ?_|refine qG ?_|refine qA ?_|refine qj ?_|refine qh ?_|refine qC ?_|refine qE rfl ?_|refine qm rfl ?_)|refine aI (by decide) ?_|refine iS hs ?_|refine rS hs ?_|refine eI _ (aI rfl ?_)|refine cF (fun _=>?_)|refine cT (fun _=>?_)|refine aI (by omega) ?_|refine oJ ?_|refine qI hs (fun _ _ _ _ hs=>?_)|refine qF hs (fun _ _ _ _ hs=>?_)|refine sS hs 0 (fun _ _ hs=>?_)|refine sS hs 1 (fun _ _ hs=>?_)|refine sS hs 2 (fun _ _ hs=>?_)|refine rd ?_|(refine hK0 _ _ ?_;clear hK0)|fail)
        exact ⟨i + 1,⟨hlt,he2⟩,by omega,Or.inl ⟨⟨rfl,rfl,rfl,trivial⟩,rfl⟩⟩
    · have hie : i = xs.length := by simp at hc;omega
      subst hie
      have he2 : xs = ys := by
        apply List.ext_getElem? 
        intro j
        by_cases hj : j < xs.length
        · exact he j hj
        · rw [List.getElem?_eq_none (by omega),List.getElem?_eq_none (by omega)]
      rw [decide_eq_true he2] at h
      repeat' (first|with_reducible (first|refine ql ?_|refine qo (fun K0 hK0=>?_)|refine qw ?_|refine qx ?_|refine qf ?_|refine qi ?_|refine qg ?_|refine qc ?_|refine qy (fun K0 hK0=>?_)|refine qB ?_|refine qH ?_|refine qp ?_|refine qG ?_|refine qA ?_|refine qj ?_|refine qh ?_|refine qC ?_|refine qE rfl ?_|refine qm rfl ?_)|refine aI (by decide) ?_|refine iS hs ?_|refine rS hs ?_|refine eI _ (aI rfl ?_)|refine cF (fun _=>?_)|refine cT (fun _=>?_)|refine aI (by omega) ?_|refine oJ ?_|refine qI hs (fun _ _ _ _ hs=>?_)|refine qF hs (fun _ _ _ _ hs=>?_)|refine sS hs 0 (fun _ _ hs=>?_)|refine sS hs 1 (fun _ _ hs=>?_)|refine sS hs 2 (fun _ _ hs=>?_)|refine rd ?_|(refine hK0 _ _ ?_;clear hK0)|fail)
      exact h
  · rw [decide_eq_false (fun e=>hq (by rw [e]))] at h
    repeat' (first|with_reducible (first|refine ql ?_|refine qo (fun K0 hK0=>?_)|refine qw ?_|refine qx ?_|refine qf ?_|refine qi ?_|refine qg ?_|refine qc ?_|refine qy (fun K0 hK0=>?_)|refine qB ?_|refine qH ?_|refine qp ?_|refine qG ?_|refine qA ?_|refine qj ?_|refine qh ?_|refine qC ?_|refine qE rfl ?_|refine qm rfl ?_)|refine aI (by decide) ?_|refine iS hs ?_|refine rS hs ?_|refine eI _ (aI rfl ?_)|refine cF (fun _=>?_)|refine cT (fun _=>?_)|refine aI (by omega) ?_|refine oJ ?_|refine qI hs (fun _ _ _ _ hs=>?_)|refine qF hs (fun _ _ _ _ hs=>?_)|refine sS hs 0 (fun _ _ hs=>?_)|refine sS hs 1 (fun _ _ hs=>?_)|refine sS hs 2 (fun _ _ hs=>?_)|((refine aI (fun hc=>?_) (fun hc=>?_)) <;> (try simp only [decide_eq_true_eq,decide_eq_false_iff_not,Bool.not_eq_true',Bool.not_eq_false',Bool.not_false,Bool.not_true,bne_iff_ne,ne_eq,Decidable.not_not,Int.not_lt,Int.not_le] at hc) <;> (try (exfalso;omega)))|refine rd ?_|(refine hK0 _ _ ?_;clear hK0)|fail)
    exact h
def algS (t : Tk) : List Int := if chkF t = 0 then algF t.op (powB t.pr) else []
theorem c42 {H : List Blk} {t : Tk} {b c : Nat} {R : Value→List Blk→Prop} (g : Gr H t.sz b) (hl : t.sz.length≤10) (hw : t.ws.length≤10) (h : ∀ H' k,HS H none' [(true,k,rw' (algS t))] H' → R (.tuple ⟨[sv k (algS t).length, .int .i64 (chkF t)]⟩) H') : qV Tryz.prog 42 [tkV t b c] H R := by
  refine zN ?_
  refine qJ tok Tryz.call42 Tryz.func42 rfl Tryz.ntmps42 rfl (by simp) ?_
  refine qI (HS.start H none') (fun H1 b1 e1 l1 hs=>?_)
  refine qO (fun _ hKs=>hKs _ _ ?_);clear hKs
  clear e1 l1
  repeat' (first|with_reducible (first|refine ql ?_|refine qo (fun K0 hK0=>?_)|refine qw ?_|refine qx ?_|refine qf ?_|refine qi ?_|refine qg ?_|refine qc ?_|refine qy (fun K0 hK0=>?_)|refine qB ?_|refine qH ?_|refine qp ?_|refine qG ?_|refine qA ?_|refine qj ?_|refine qh ?_|refine qC ?_|refine qE rfl ?_|refine qm rfl ?_)|refine aI (by decide) ?_|refine iS hs ?_|refine rS hs ?_|refine eI _ (aI rfl ?_)|refine cF (fun _=>?_)|refine cT (fun _=>?_)|refine aI (by omega) ?_|refine oJ ?_|refine qI hs (fun _ _ _ _ hs=>?_)|refine qF hs (fun _ _ _ _ hs=>?_)|refine sS hs 0 (fun _ _ hs=>?_)|refine sS hs 1 (fun _ _ hs=>?_)|refine sS hs 2 (fun _ _ hs=>?_)|refine rd ?_|(refine hK0 _ _ ?_;clear hK0)|fail)
  refine c36 (g.up (qQ hs)) hl hw (fun H2 hn=>?_)
  have hs := qX hs hn
  clear hn
  unfold algS at h
  by_cases h0 : chkF t = 0
  · have kt := tk_ok h0
    have hpr := kt.pr
    have hop := kt.op
    rw [if_pos h0] at h
    rw [h0] at h ⊢
    cases hq : powB t.pr with
    | true =>
      have hq' := of_decide_eq_true hq
      rw [hq] at h
      dsimp only [algF] at h
      repeat' (first|with_reducible (first|refine ql ?_|refine qo (fun K0 hK0=>?_)|refine qw ?_|refine qx ?_|refine qf ?_|refine qi ?_|refine qg ?_|refine qc ?_|refine qy (fun K0 hK0=>?_)|refine qB ?_|refine qH ?_|refine qp ?_|refine qG ?_|refine qA ?_|refine qj ?_|refine qh ?_|refine qC ?_|refine qE rfl ?_|refine qm rfl ?_)|refine aI (by decide) ?_|refine iS hs ?_|refine rS hs ?_|refine eI _ (aI rfl ?_)|refine cF (fun _=>?_)|refine cT (fun _=>?_)|refine aI (by omega) ?_|refine oJ ?_|refine qI hs (fun _ _ _ _ hs=>?_)|refine qF hs (fun _ _ _ _ hs=>?_)|refine sS hs 0 (fun _ _ hs=>?_)|refine sS hs 1 (fun _ _ hs=>?_)|refine sS hs 2 (fun _ _ hs=>?_)|((refine aI (fun hc=>?_) (fun hc=>?_)) <;> (try simp only [decide_eq_true_eq,decide_eq_false_iff_not,Bool.not_eq_true',Bool.not_eq_false',Bool.not_false,Bool.not_true,bne_iff_ne,ne_eq,Decidable.not_not,Int.not_lt,Int.not_le] at hc) <;> (try (exfalso;omega)))|refine rd ?_|(refine hK0 _ _ ?_;clear hK0)|fail)
      all_goals try (
        (repeat (first | rw [if_pos (by omega)] at h | rw [if_neg (by omega)] at h))
        exact ⟨_,_, .rfl, .rfl,h _ _ (hs.pick [0] (by decide) rfl)⟩)
      all_goals (
        refine app_hs hs 1 rfl (by decide) (hs.get 0 rfl) rfl rfl rfl (by decide) (fun H9 k9 e9 l9 hs=>?_)
        repeat' (first|with_reducible (first|refine ql ?_|refine qo (fun K0 hK0=>?_)|refine qw ?_|refine qx ?_|refine qf ?_|refine qi ?_|refine qg ?_|refine qc ?_|refine qy (fun K0 hK0=>?_)|refine qB ?_|refine qH ?_|refine qp ?_|refine qG ?_|refine qA ?_|refine qj ?_|refine qh ?_|refine qC ?_|refine qE rfl ?_|refine qm rfl ?_)|refine aI (by decide) ?_|refine iS hs ?_|refine rS hs ?_|refine eI _ (aI rfl ?_)|refine cF (fun _=>?_)|refine cT (fun _=>?_)|refine aI (by omega) ?_|refine oJ ?_|refine qI hs (fun _ _ _ _ hs=>?_)|refine qF hs (fun _ _ _ _ hs=>?_)|refine sS hs 0 (fun _ _ hs=>?_)|refine sS hs 1 (fun _ _ hs=>?_)|refine sS hs 2 (fun _ _ hs=>?_)|refine rd ?_|(refine hK0 _ _ ?_;clear hK0)|fail)
        (repeat (first | rw [if_pos (by omega)] at h | rw [if_neg (by omega)] at h))
        exact ⟨_,_, .rfl, .rfl,h _ k9 (hs.pick [1] (by decide) rfl)⟩)
    | false =>
      have hq' := of_decide_eq_false hq
      rw [hq] at h
      dsimp only [algF] at h
      repeat' (first|with_reducible (first|refine ql ?_|refine qo (fun K0 hK0=>?_)|refine qw ?_|refine qx ?_|refine qf ?_|refine qi ?_|refine qg ?_|refine qc ?_|refine qy (fun K0 hK0=>?_)|refine qB ?_|refine qH ?_|refine qp ?_|refine qG ?_|refine qA ?_|refine qj ?_|refine qh ?_|refine qC ?_|refine qE rfl ?_|refine qm rfl ?_)|refine aI (by decide) ?_|refine iS hs ?_|refine rS hs ?_|refine eI _ (aI rfl ?_)|refine cF (fun _=>?_)|refine cT (fun _=>?_)|refine aI (by omega) ?_|refine oJ ?_|refine qI hs (fun _ _ _ _ hs=>?_)|refine qF hs (fun _ _ _ _ hs=>?_)|refine sS hs 0 (fun _ _ hs=>?_)|refine sS hs 1 (fun _ _ hs=>?_)|refine sS hs 2 (fun _ _ hs=>?_)|((refine aI (fun hc=>?_) (fun hc=>?_)) <;> (try simp only [decide_eq_true_eq,decide_eq_false_iff_not,Bool.not_eq_true',Bool.not_eq_false',Bool.not_false,Bool.not_true,bne_iff_ne,ne_eq,Decidable.not_not,Int.not_lt,Int.not_le] at hc) <;> (try (exfalso;omega)))|refine rd ?_|(refine hK0 _ _ ?_;clear hK0)|fail)
      all_goals try (
        (repeat (first | rw [if_pos (by omega)] at h | rw [if_neg (by omega)] at h))
        exact ⟨_,_, .rfl, .rfl,h _ _ (hs.pick [0] (by decide) rfl)⟩)
      all_goals (
        refine app_hs hs 1 rfl (by decide) (hs.get 0 rfl) rfl rfl rfl (by decide) (fun H9 k9 e9 l9 hs=>?_)
        repeat' (first|with_reducible (first|refine ql ?_|refine qo (fun K0 hK0=>?_)|refine qw ?_|refine qx ?_|refine qf ?_|refine qi ?_|refine qg ?_|refine qc ?_|refine qy (fun K0 hK0=>?_)|refine qB ?_|refine qH ?_|refine qp ?_|refine qG ?_|refine qA ?_|refine qj ?_|refine qh ?_|refine qC ?_|refine qE rfl ?_|refine qm rfl ?_)|refine aI (by decide) ?_|refine iS hs ?_|refine rS hs ?_|refine eI _ (aI rfl ?_)|refine cF (fun _=>?_)|refine cT (fun _=>?_)|refine aI (by omega) ?_|refine oJ ?_|refine qI hs (fun _ _ _ _ hs=>?_)|refine qF hs (fun _ _ _ _ hs=>?_)|refine sS hs 0 (fun _ _ hs=>?_)|refine sS hs 1 (fun _ _ hs=>?_)|refine sS hs 2 (fun _ _ hs=>?_)|refine rd ?_|(refine hK0 _ _ ?_;clear hK0)|fail)
        (repeat (first | rw [if_pos (by omega)] at h | rw [if_neg (by omega)] at h))
        exact ⟨_,_, .rfl, .rfl,h _ k9 (hs.pick [1] (by decide) rfl)⟩)
  · rw [if_neg h0] at h
    generalize chkF t = z at h0 h ⊢
    repeat' (first|with_reducible (first|refine ql ?_|refine qo (fun K0 hK0=>?_)|refine qw ?_|refine qx ?_|refine qf ?_|refine qi ?_|refine qg ?_|refine qc ?_|refine qy (fun K0 hK0=>?_)|refine qB ?_|refine qH ?_|refine qp ?_|refine qG ?_|refine qA ?_|refine qj ?_|refine qh ?_|refine qC ?_|refine qE rfl ?_|refine qm rfl ?_)|refine aI (by decide) ?_|refine iS hs ?_|refine rS hs ?_|refine eI _ (aI rfl ?_)|refine cF (fun _=>?_)|refine cT (fun _=>?_)|refine aI (by omega) ?_|refine oJ ?_|refine qI hs (fun _ _ _ _ hs=>?_)|refine qF hs (fun _ _ _ _ hs=>?_)|refine sS hs 0 (fun _ _ hs=>?_)|refine sS hs 1 (fun _ _ hs=>?_)|refine sS hs 2 (fun _ _ hs=>?_)|((refine aI (fun hc=>?_) (fun hc=>?_)) <;> (try simp only [decide_eq_true_eq,decide_eq_false_iff_not,Bool.not_eq_true',Bool.not_eq_false',Bool.not_false,Bool.not_true,bne_iff_ne,ne_eq,Decidable.not_not,Int.not_lt,Int.not_le] at hc) <;> (try (exfalso;omega)))|refine rd ?_|(refine hK0 _ _ ?_;clear hK0)|fail)
    have hv := hs.virt (rw' [])
    exact ⟨.tuple ⟨[sv H2.length 0, .int .i64 z]⟩,H2 ++ [rw' []], .nil2 _ _,WkH.rfl.app _,h _ _ (hv.pick [0] (by decide) rfl)⟩
theorem awp_stepA {P : Program} {rd : Bool} {n0 n : Nat} {Q : Ex→List (Nat × Value)→List Blk→Prop} {sl : List (Nat × Value)} {H : List Blk} {x y : Code}
    (hx : awp P rd n0 x (aft n (fun e sl' H' => match e with
      | .normal=>awp P rd n0 y (aft n Q) ⟨n,sl'⟩ H'
      | .exit i=>Q (.exit i) sl' H'
      | .ret=>Q .ret sl' H')) ⟨n,sl⟩ H) : awp P rd n0 (.seq x y) (aft n Q) ⟨n,sl⟩ H := by
  refine awp_seq (wz hx ?_)
  rintro e ⟨n2,sl2⟩ H2 ⟨rfl,hq⟩
  cases e with
  | normal=>exact hq
  | exit i=>exact ⟨rfl,hq⟩
  | ret=>exact ⟨rfl,hq⟩
theorem c41 {H : List Blk} {t : Tk} {b c : Nat} {R : Value→List Blk→Prop} (g : Gr H t.sz b) (hl : t.sz.length≤10) (hw : t.ws.length≤10) (h : ∀ H' k,HS H none' [(true,k,rw' (algS t))] H' → R (.tuple ⟨[sv k (algS t).length, .int .i64 (chkF t)]⟩) H') : qV Tryz.prog 41 [tkV t b c] H R := by
  refine zN ?_
  refine acall_awp tok Tryz.call41 Tryz.func41 rfl Tryz.ntmps41 rfl (by simp) ?_
  have hs := HS.start H none'
  refine yc tok ?_
  refine qI hs (fun H1 x e1 l1 hs=>?_)
  repeat' (first|with_reducible (first|refine ql ?_|refine qo (fun K0 hK0=>?_)|refine qw ?_|refine qx ?_|refine qf ?_|refine qi ?_|refine qg ?_|refine qc ?_|refine qy (fun K0 hK0=>?_)|refine qB ?_|refine qH ?_|refine qp ?_|refine qG ?_|refine qA ?_|refine qj ?_|refine qh ?_|refine qC ?_|refine qE rfl ?_|refine qm rfl ?_)|refine aI (by decide) ?_|refine iS hs ?_|refine rS hs ?_|refine eI _ (aI rfl ?_)|refine cF (fun _=>?_)|refine cT (fun _=>?_)|refine aI (by omega) ?_|refine oJ ?_|refine qI hs (fun _ _ _ _ hs=>?_)|refine qF hs (fun _ _ _ _ hs=>?_)|refine sS hs 0 (fun _ _ hs=>?_)|refine sS hs 1 (fun _ _ hs=>?_)|refine sS hs 2 (fun _ _ hs=>?_)|refine rd ?_|(refine hK0 _ _ ?_;clear hK0)|fail)
  clear e1 l1
  refine yc tok ?_
  repeat' (first|with_reducible (first|refine ql ?_|refine qo (fun K0 hK0=>?_)|refine qw ?_|refine qx ?_|refine qf ?_|refine qi ?_|refine qg ?_|refine qc ?_|refine qy (fun K0 hK0=>?_)|refine qB ?_|refine qH ?_|refine qp ?_|refine qG ?_|refine qA ?_|refine qj ?_|refine qh ?_|refine qC ?_|refine qE rfl ?_|refine qm rfl ?_)|refine aI (by decide) ?_|refine iS hs ?_|refine rS hs ?_|refine eI _ (aI rfl ?_)|refine cF (fun _=>?_)|refine cT (fun _=>?_)|refine aI (by omega) ?_|refine oJ ?_|refine qI hs (fun _ _ _ _ hs=>?_)|refine qF hs (fun _ _ _ _ hs=>?_)|refine sS hs 0 (fun _ _ hs=>?_)|refine sS hs 1 (fun _ _ hs=>?_)|refine sS hs 2 (fun _ _ hs=>?_)|refine rd ?_|(refine hK0 _ _ ?_;clear hK0)|fail)
  refine c31 (g.up (qQ hs)) hl hw (fun H2 hn=>?_)
  have hs := qX hs hn
  clear hn
  unfold algS at h
  by_cases h0 : chkF t = 0
  · have kt := tk_ok h0
    have hpr := kt.pr
    have hop := kt.op
    rw [if_pos h0] at h
    rw [h0] at h ⊢
    repeat' (first|with_reducible (first|refine ql ?_|refine qo (fun K0 hK0=>?_)|refine qw ?_|refine qx ?_|refine qf ?_|refine qi ?_|refine qg ?_|refine qc ?_|refine qy (fun K0 hK0=>?_)|refine qB ?_|refine qH ?_|refine qp ?_|refine qG ?_|refine qA ?_|refine qj ?_|refine qh ?_|refine qC ?_|refine qE rfl ?_|refine qm rfl ?_)|refine aI (by decide) ?_|refine iS hs ?_|refine rS hs ?_|refine eI _ (aI rfl ?_)|refine cF (fun _=>?_)|refine cT (fun _=>?_)|refine aI (by omega) ?_|refine oJ ?_|refine qI hs (fun _ _ _ _ hs=>?_)|refine qF hs (fun _ _ _ _ hs=>?_)|refine sS hs 0 (fun _ _ hs=>?_)|refine sS hs 1 (fun _ _ hs=>?_)|refine sS hs 2 (fun _ _ hs=>?_)|refine rd ?_|(refine hK0 _ _ ?_;clear hK0)|fail)
    refine yc tok ?_
    repeat' (first|with_reducible (first|refine ql ?_|refine qo (fun K0 hK0=>?_)|refine qw ?_|refine qx ?_|refine qf ?_|refine qi ?_|refine qg ?_|refine qc ?_|refine qy (fun K0 hK0=>?_)|refine qB ?_|refine qH ?_|refine qp ?_|refine qG ?_|refine qA ?_|refine qj ?_|refine qh ?_|refine qC ?_|refine qE rfl ?_|refine qm rfl ?_)|refine aI (by decide) ?_|refine iS hs ?_|refine rS hs ?_|refine eI _ (aI rfl ?_)|refine cF (fun _=>?_)|refine cT (fun _=>?_)|refine aI (by omega) ?_|refine oJ ?_|refine qI hs (fun _ _ _ _ hs=>?_)|refine qF hs (fun _ _ _ _ hs=>?_)|refine sS hs 0 (fun _ _ hs=>?_)|refine sS hs 1 (fun _ _ hs=>?_)|refine sS hs 2 (fun _ _ hs=>?_)|refine rd ?_|(refine hK0 _ _ ?_;clear hK0)|fail)
    refine yc tok ?_
    repeat' (first|with_reducible (first|refine ql ?_|refine qo (fun K0 hK0=>?_)|refine qw ?_|refine qx ?_|refine qf ?_|refine qi ?_|refine qg ?_|refine qc ?_|refine qy (fun K0 hK0=>?_)|refine qB ?_|refine qH ?_|refine qp ?_|refine qG ?_|refine qA ?_|refine qj ?_|refine qh ?_|refine qC ?_|refine qE rfl ?_|refine qm rfl ?_)|refine aI (by decide) ?_|refine iS hs ?_|refine rS hs ?_|refine eI _ (aI rfl ?_)|refine cF (fun _=>?_)|refine cT (fun _=>?_)|refine aI (by omega) ?_|refine oJ ?_|refine qI hs (fun _ _ _ _ hs=>?_)|refine qF hs (fun _ _ _ _ hs=>?_)|refine sS hs 0 (fun _ _ hs=>?_)|refine sS hs 1 (fun _ _ hs=>?_)|refine sS hs 2 (fun _ _ hs=>?_)|((refine aI (fun hc=>?_) (fun hc=>?_)) <;> (try simp only [decide_eq_true_eq,decide_eq_false_iff_not,Bool.not_eq_true',Bool.not_eq_false',Bool.not_false,Bool.not_true,bne_iff_ne,ne_eq,Decidable.not_not,Int.not_lt,Int.not_le] at hc) <;> (try (exfalso;omega)))|refine rd ?_|(refine hK0 _ _ ?_;clear hK0)|fail)
    change awp _ _ _ _ _ ⟨_,_ :: (5, .bool (powB t.pr)) :: _⟩ _
    generalize powB t.pr = q at h ⊢
    refine awp_stepA ?_
    refine vcg_cutV tok (α := List Blk × Nat × Nat × List (Int × Value)) (fun z=>HS H none' [(true,z.2.1, .iter (.mapIter (some z.2.2.1) z.2.2.2.length #[] z.2.2.2.length)),(true,z.2.2.1,mpG z.2.2.2),(true,x, .cells true 1 (tkC t b c))] z.1∧z.2.2.2.map Prod.fst = algK t.op)
      (fun z=>[(1, .pointer (some ⟨x,0,none⟩)),(5, .bool q),(6, .slice none 0 0),(25, .pointer (some ⟨z.2.1,0,some 0⟩))]) (fun z=>z.1) ?_ ?_
    · refine vO tok mx [0,0,2,7,15] [false,false,false,false,false] (.first 1 (.alt 0 (.first 2 (.first 3 (.first 4 .done))) (.alt 2 (.first 0 (.first 3 (.first 4 .done))) .no))) (by kernel_rfl) ?_
      refine wo (fun K0 hK0=>?_)
      repeat' (first|with_reducible (first|refine ql ?_|refine qo (fun K0 hK0=>?_)|refine qw ?_|refine qx ?_|refine qf ?_|refine qi ?_|refine qg ?_|refine qc ?_|refine qy (fun K0 hK0=>?_)|refine qB ?_|refine qH ?_|refine qp ?_|refine qG ?_|refine qA ?_|refine qj ?_|refine qh ?_|refine qC ?_|refine qE rfl ?_|refine qm rfl ?_)|refine aI (by decide) ?_|refine iS hs ?_|refine rS hs ?_|refine eI _ (aI rfl ?_)|refine cF (fun _=>?_)|refine cT (fun _=>?_)|refine aI (by omega) ?_|refine oJ ?_|refine qI hs (fun _ _ _ _ hs=>?_)|refine qF hs (fun _ _ _ _ hs=>?_)|refine sS hs 0 (fun _ _ hs=>?_)|refine sS hs 1 (fun _ _ hs=>?_)|refine sS hs 2 (fun _ _ hs=>?_)|refine rd ?_|(refine hK0 _ _ ?_;clear hK0)|fail)
      refine And.intro ?_ (And.intro ?_ trivial)
      all_goals (
        repeat' (first|with_reducible (first|refine ql ?_|refine qo (fun K0 hK0=>?_)|refine qw ?_|refine qx ?_|refine qf ?_|refine qi ?_|refine qg ?_|refine qc ?_|refine qy (fun K0 hK0=>?_)|refine qB ?_|refine qH ?_|refine qp ?_|refine qG ?_|refine qA ?_|refine qj ?_|refine qh ?_|refine qC ?_|refine qE rfl ?_|refine qm rfl ?_)|refine aI (by decide) ?_|refine iS hs ?_|refine rS hs ?_|refine eI _ (aI rfl ?_)|refine cF (fun _=>?_)|refine cT (fun _=>?_)|refine aI (by omega) ?_|refine oJ ?_|refine qI hs (fun _ _ _ _ hs=>?_)|refine qF hs (fun _ _ _ _ hs=>?_)|refine sS hs 0 (fun _ _ hs=>?_)|refine sS hs 1 (fun _ _ hs=>?_)|refine sS hs 2 (fun _ _ hs=>?_)|refine rd ?_|(refine hK0 _ _ ?_;clear hK0)|fail)
        refine c59a hop (fun H5 m' mb j M S hn hj hall hS=>?_)
        have hs := hs.call hn rfl
        clear hn
        repeat' (first|with_reducible (first|refine ql ?_|refine qo (fun K0 hK0=>?_)|refine qw ?_|refine qx ?_|refine qf ?_|refine qi ?_|refine qg ?_|refine qc ?_|refine qy (fun K0 hK0=>?_)|refine qB ?_|refine qH ?_|refine qp ?_|refine qG ?_|refine qA ?_|refine qj ?_|refine qh ?_|refine qC ?_|refine qE rfl ?_|refine qm rfl ?_)|refine aI (by decide) ?_|refine iS hs ?_|refine rS hs ?_|refine eI _ (aI rfl ?_)|refine cF (fun _=>?_)|refine cT (fun _=>?_)|refine aI (by omega) ?_|refine oJ ?_|refine qI hs (fun _ _ _ _ hs=>?_)|refine qF hs (fun _ _ _ _ hs=>?_)|refine sS hs 0 (fun _ _ hs=>?_)|refine sS hs 1 (fun _ _ hs=>?_)|refine sS hs 2 (fun _ _ hs=>?_)|refine rd ?_|(refine hK0 _ _ ?_;clear hK0)|fail)
        refine lookG (hs.get 0 rfl) hj hall ?_
        repeat' (first|with_reducible (first|refine ql ?_|refine qo (fun K0 hK0=>?_)|refine qw ?_|refine qx ?_|refine qf ?_|refine qi ?_|refine qg ?_|refine qc ?_|refine qy (fun K0 hK0=>?_)|refine qB ?_|refine qH ?_|refine qp ?_|refine qG ?_|refine qA ?_|refine qj ?_|refine qh ?_|refine qC ?_|refine qE rfl ?_|refine qm rfl ?_)|refine aI (by decide) ?_|refine iS hs ?_|refine rS hs ?_|refine eI _ (aI rfl ?_)|refine cF (fun _=>?_)|refine cT (fun _=>?_)|refine aI (by omega) ?_|refine oJ ?_|refine qI hs (fun _ _ _ _ hs=>?_)|refine qF hs (fun _ _ _ _ hs=>?_)|refine sS hs 0 (fun _ _ hs=>?_)|refine sS hs 1 (fun _ _ hs=>?_)|refine sS hs 2 (fun _ _ hs=>?_)|refine rd ?_|(refine hK0 _ _ ?_;clear hK0)|fail)
        refine yw (hs.get 1 rfl) ?_
        refine qI hs (fun H6 it e6 l6 hs=>?_)
        repeat' (first|with_reducible (first|refine ql ?_|refine qo (fun K0 hK0=>?_)|refine qw ?_|refine qx ?_|refine qf ?_|refine qi ?_|refine qg ?_|refine qc ?_|refine qy (fun K0 hK0=>?_)|refine qB ?_|refine qH ?_|refine qp ?_|refine qG ?_|refine qA ?_|refine qj ?_|refine qh ?_|refine qC ?_|refine qE rfl ?_|refine qm rfl ?_)|refine aI (by decide) ?_|refine iS hs ?_|refine rS hs ?_|refine eI _ (aI rfl ?_)|refine cF (fun _=>?_)|refine cT (fun _=>?_)|refine aI (by omega) ?_|refine oJ ?_|refine qI hs (fun _ _ _ _ hs=>?_)|refine qF hs (fun _ _ _ _ hs=>?_)|refine sS hs 0 (fun _ _ hs=>?_)|refine sS hs 1 (fun _ _ hs=>?_)|refine sS hs 2 (fun _ _ hs=>?_)|refine rd ?_|(refine hK0 _ _ ?_;clear hK0)|fail)
        exact ⟨(H6,it,mb,S),⟨hs.pick [0,2,3] (by decide) rfl,hS⟩,⟨⟨_,rfl, .rfl⟩,⟨_,rfl, .rfl⟩,⟨_,rfl, .rfl⟩,⟨_,rfl, .rfl⟩,trivial⟩, .rfl⟩)
    · clear hs
      rintro ⟨H4,it,mb,S⟩ ⟨hs,hS⟩
      dsimp only at hs hS ⊢
      have hSl : S.length = (algK t.op).length := by rw [← hS,List.length_map]
      have hal := (alg_lens hop q).2
      repeat' (first|with_reducible (first|refine ql ?_|refine qo (fun K0 hK0=>?_)|refine qw ?_|refine qx ?_|refine qf ?_|refine qi ?_|refine qg ?_|refine qc ?_|refine qy (fun K0 hK0=>?_)|refine qB ?_|refine qH ?_|refine qp ?_|refine qG ?_|refine qA ?_|refine qj ?_|refine qh ?_|refine qC ?_|refine qE rfl ?_|refine qm rfl ?_)|refine aI (by decide) ?_|refine iS hs ?_|refine rS hs ?_|refine eI _ (aI rfl ?_)|refine cF (fun _=>?_)|refine cT (fun _=>?_)|refine aI (by omega) ?_|refine oJ ?_|refine qI hs (fun _ _ _ _ hs=>?_)|refine qF hs (fun _ _ _ _ hs=>?_)|refine sS hs 0 (fun _ _ hs=>?_)|refine sS hs 1 (fun _ _ hs=>?_)|refine sS hs 2 (fun _ _ hs=>?_)|((refine aI (fun hc=>?_) (fun hc=>?_)) <;> (try simp only [decide_eq_true_eq,decide_eq_false_iff_not,Bool.not_eq_true',Bool.not_eq_false',Bool.not_false,Bool.not_true,bne_iff_ne,ne_eq,Decidable.not_not,Int.not_lt,Int.not_le] at hc) <;> (try (exfalso;omega)))|refine rd ?_|(refine hK0 _ _ ?_;clear hK0)|fail)
      refine wQ (α := List Blk × Nat × List Nat) tok (fun z=>HS H none' [(true,it, .iter (.mapIter (some mb) S.length z.2.2.toArray S.length)),(true,mb,mpG S),(true,z.2.1,rw' (selF t.op q z.2.2)),(true,x, .cells true 1 (tkC t b c))] z.1∧z.2.2.Nodup∧∀ y∈z.2.2,y < S.length)
        (fun | ⟨_,k,seen⟩=>[(1, .pointer (some ⟨x,0,none⟩)),(5, .bool q),(6,sv k (selF t.op q seen).length),(25, .pointer (some ⟨it,0,some 0⟩))]) (fun | ⟨H',_,_⟩=>H') (fun z=>S.length - z.2.2.length)
        ⟨H4 ++ [rw' []],H4.length,[]⟩ ⟨(hs.virt _).pick [1,2,0,3] (by decide) rfl,List.nodup_nil,fun y hy=>by simp at hy⟩ ⟨⟨_,rfl, .rfl⟩,⟨_,rfl, .rfl⟩,⟨_,rfl, .nil _⟩,⟨_,rfl, .rfl⟩,trivial⟩ (WkH.rfl.app _) ?_
      clear hs
      rintro ⟨H5,k,seen⟩ ⟨hs,hnd,hlt⟩
      dsimp only at hs hnd hlt ⊢
      have hsl := nodup_le hnd (m := List.range S.length) (fun y hy=>List.mem_range.2 (hlt y hy))
      rw [List.length_range] at hsl
      have hfl := selF_len t.op q seen
      repeat' (first|with_reducible (first|refine ql ?_|refine qo (fun K0 hK0=>?_)|refine qw ?_|refine qx ?_|refine qf ?_|refine qi ?_|refine qg ?_|refine qc ?_|refine qy (fun K0 hK0=>?_)|refine qB ?_|refine qH ?_|refine qp ?_|refine qG ?_|refine qA ?_|refine qj ?_|refine qh ?_|refine qC ?_|refine qE rfl ?_|refine qm rfl ?_)|refine aI (by decide) ?_|refine iS hs ?_|refine rS hs ?_|refine eI _ (aI rfl ?_)|refine cF (fun _=>?_)|refine cT (fun _=>?_)|refine aI (by omega) ?_|refine oJ ?_|refine qI hs (fun _ _ _ _ hs=>?_)|refine qF hs (fun _ _ _ _ hs=>?_)|refine sS hs 0 (fun _ _ hs=>?_)|refine sS hs 1 (fun _ _ hs=>?_)|refine sS hs 2 (fun _ _ hs=>?_)|refine rd ?_|(refine hK0 _ _ ?_;clear hK0)|fail)
      refine rdIter_of (hs.get 0 rfl) ?_
      refine yw (hs.get 1 rfl) ⟨next_some S seen,fun e he hse=>?_,fun hall=>?_⟩
      · obtain ⟨i,hi,rfl⟩ := mem_entG he
        have hns : i ∉ seen := by simpa using hse
        have ha : S[i].1 = (algK t.op)[i]! := by
          rw [← hS,getElem!_pos _ i (by simpa using hi),List.getElem_map]
        refine set_of (hs.lt 0 rfl) (fun H6 h1 h2 h3=>?_)
        have hs := hs.set (B' := .iter (.mapIter (some mb) S.length (seen ++ [i]).toArray S.length)) 0 rfl h1 (by rw [h2];simp) h3
        clear h1 h2 h3
        have hnd' : (seen ++ [i]).Nodup := by
          rw [List.nodup_append]
          exact ⟨hnd,by simp,fun a h1 b h2 e=>hns (by simp at h2;rw [← h2,← e];exact h1)⟩
        have hlt' : ∀ y∈seen ++ [i],y < S.length := fun y hy=>by
          rcases List.mem_append.1 hy with h1 | h1
          · exact hlt y h1
          · simp at h1;omega
        have hsl' := nodup_le hnd' (m := List.range S.length) (fun y hy=>List.mem_range.2 (hlt' y hy))
        rw [List.length_range,List.length_append,List.length_singleton] at hsl'
        repeat' (first|with_reducible (first|refine ql ?_|refine qo (fun K0 hK0=>?_)|refine qw ?_|refine qx ?_|refine qf ?_|refine qi ?_|refine qg ?_|refine qc ?_|refine qy (fun K0 hK0=>?_)|refine qB ?_|refine qH ?_|refine qp ?_|refine qG ?_|refine qA ?_|refine qj ?_|refine qh ?_|refine qC ?_|refine qE rfl ?_|refine qm rfl ?_)|refine aI (by decide) ?_|refine iS hs ?_|refine rS hs ?_|refine eI _ (aI rfl ?_)|refine cF (fun _=>?_)|refine cT (fun _=>?_)|refine aI (by omega) ?_|refine oJ ?_|refine qI hs (fun _ _ _ _ hs=>?_)|refine qF hs (fun _ _ _ _ hs=>?_)|refine sS hs 0 (fun _ _ hs=>?_)|refine sS hs 1 (fun _ _ hs=>?_)|refine sS hs 2 (fun _ _ hs=>?_)|((refine aI (fun hc=>?_) (fun hc=>?_)) <;> (try simp only [decide_eq_true_eq,decide_eq_false_iff_not,Bool.not_eq_true',Bool.not_eq_false',Bool.not_false,Bool.not_true,bne_iff_ne,ne_eq,Decidable.not_not,Int.not_lt,Int.not_le] at hc) <;> (try (exfalso;omega)))|refine rd ?_|(refine hK0 _ _ ?_;clear hK0)|fail)
        refine rdIter_of (hs.get 0 rfl) ?_
        refine yw (hs.get 1 rfl) ⟨rfl,i,by simp,_,find_entG hi, ?_⟩
        have eo := selF_snoc t.op q seen i
        rw [← ha] at eo
        generalize S[i].1 = a at eo ⊢
        cases q with
        | false =>
          repeat' (first|with_reducible (first|refine ql ?_|refine qo (fun K0 hK0=>?_)|refine qw ?_|refine qx ?_|refine qf ?_|refine qi ?_|refine qg ?_|refine qc ?_|refine qy (fun K0 hK0=>?_)|refine qB ?_|refine qH ?_|refine qp ?_|refine qG ?_|refine qA ?_|refine qj ?_|refine qh ?_|refine qC ?_|refine qE rfl ?_|refine qm rfl ?_)|refine aI (by decide) ?_|refine iS hs ?_|refine rS hs ?_|refine eI _ (aI rfl ?_)|refine cF (fun _=>?_)|refine cT (fun _=>?_)|refine aI (by omega) ?_|refine oJ ?_|refine qI hs (fun _ _ _ _ hs=>?_)|refine qF hs (fun _ _ _ _ hs=>?_)|refine sS hs 0 (fun _ _ hs=>?_)|refine sS hs 1 (fun _ _ hs=>?_)|refine sS hs 2 (fun _ _ hs=>?_)|((refine aI (fun hc=>?_) (fun hc=>?_)) <;> (try simp only [decide_eq_true_eq,decide_eq_false_iff_not,Bool.not_eq_true',Bool.not_eq_false',Bool.not_false,Bool.not_true,bne_iff_ne,ne_eq,Decidable.not_not,Int.not_lt,Int.not_le] at hc) <;> (try (exfalso;omega)))|refine rd ?_|(refine hK0 _ _ ?_;clear hK0)|fail)
          all_goals first
            | (rw [if_neg (by unfold okA;(repeat (first | rw [if_pos (by omega)] | rw [if_neg (by omega)]));decide),List.append_nil] at eo
               exact ⟨⟨_,k,seen ++ [i]⟩,⟨by dsimp only;rw [eo];exact hs,hnd',hlt'⟩,by dsimp only;rw [List.length_append,List.length_singleton];omega,Or.inl ⟨⟨rfl,rfl,by rw [eo];rfl,rfl,trivial⟩,rfl⟩⟩)
            | (rw [if_pos (by unfold okA;(repeat (first | rw [if_pos (by omega)] | rw [if_neg (by omega)]));(try (first | rfl | (split <;> rfl))))] at eo
               refine app_hs hs 3 (us := [.int .i64 a]) rfl (by decide) (hs.get 0 rfl) rfl rfl (by rw [qY];try exact (Nat.mul_one _).symm) (by show (_ + 1) * (8 + 1)≤_;omega) (fun H9 k9 e9 l9 hs=>?_)
               clear e9 l9
               have hs := hs.pick [1,2,3,4] (by decide) rfl (L' := [(true,it, .iter (.mapIter (some mb) S.length (seen ++ [i]).toArray S.length)),(true,mb,mpG S),(true,k9, .cells true 1 (ints (selF t.op false seen) ++ ints [a])),(true,x, .cells true 1 (tkC t b c))])
               rw [← wM,← eo] at hs
               have el : (selF t.op false (seen ++ [i])).length = (selF t.op false seen).length + 1 := by rw [eo];simp
               repeat' (first|with_reducible (first|refine ql ?_|refine qo (fun K0 hK0=>?_)|refine qw ?_|refine qx ?_|refine qf ?_|refine qi ?_|refine qg ?_|refine qc ?_|refine qy (fun K0 hK0=>?_)|refine qB ?_|refine qH ?_|refine qp ?_|refine qG ?_|refine qA ?_|refine qj ?_|refine qh ?_|refine qC ?_|refine qE rfl ?_|refine qm rfl ?_)|refine aI (by decide) ?_|refine iS hs ?_|refine rS hs ?_|refine eI _ (aI rfl ?_)|refine cF (fun _=>?_)|refine cT (fun _=>?_)|refine aI (by omega) ?_|refine oJ ?_|refine qI hs (fun _ _ _ _ hs=>?_)|refine qF hs (fun _ _ _ _ hs=>?_)|refine sS hs 0 (fun _ _ hs=>?_)|refine sS hs 1 (fun _ _ hs=>?_)|refine sS hs 2 (fun _ _ hs=>?_)|refine rd ?_|(refine hK0 _ _ ?_;clear hK0)|fail)
               exact ⟨⟨_,k9,seen ++ [i]⟩,⟨hs,hnd',hlt'⟩,by dsimp only;rw [List.length_append,List.length_singleton];omega,Or.inl ⟨⟨rfl,rfl,by rw [el];rfl,rfl,trivial⟩,rfl⟩⟩)
        | true =>
          repeat' (first|with_reducible (first|refine ql ?_|refine qo (fun K0 hK0=>?_)|refine qw ?_|refine qx ?_|refine qf ?_|refine qi ?_|refine qg ?_|refine qc ?_|refine qy (fun K0 hK0=>?_)|refine qB ?_|refine qH ?_|refine qp ?_|refine qG ?_|refine qA ?_|refine qj ?_|refine qh ?_|refine qC ?_|refine qE rfl ?_|refine qm rfl ?_)|refine aI (by decide) ?_|refine iS hs ?_|refine rS hs ?_|refine eI _ (aI rfl ?_)|refine cF (fun _=>?_)|refine cT (fun _=>?_)|refine aI (by omega) ?_|refine oJ ?_|refine qI hs (fun _ _ _ _ hs=>?_)|refine qF hs (fun _ _ _ _ hs=>?_)|refine sS hs 0 (fun _ _ hs=>?_)|refine sS hs 1 (fun _ _ hs=>?_)|refine sS hs 2 (fun _ _ hs=>?_)|((refine aI (fun hc=>?_) (fun hc=>?_)) <;> (try simp only [decide_eq_true_eq,decide_eq_false_iff_not,Bool.not_eq_true',Bool.not_eq_false',Bool.not_false,Bool.not_true,bne_iff_ne,ne_eq,Decidable.not_not,Int.not_lt,Int.not_le] at hc) <;> (try (exfalso;omega)))|refine rd ?_|(refine hK0 _ _ ?_;clear hK0)|fail)
          all_goals first
            | (rw [if_neg (by unfold okA;(repeat (first | rw [if_pos (by omega)] | rw [if_neg (by omega)]));decide),List.append_nil] at eo
               exact ⟨⟨_,k,seen ++ [i]⟩,⟨by dsimp only;rw [eo];exact hs,hnd',hlt'⟩,by dsimp only;rw [List.length_append,List.length_singleton];omega,Or.inl ⟨⟨rfl,rfl,by rw [eo];rfl,rfl,trivial⟩,rfl⟩⟩)
            | (rw [if_pos (by unfold okA;(repeat (first | rw [if_pos (by omega)] | rw [if_neg (by omega)]));(try (first | rfl | (split <;> rfl))))] at eo
               refine app_hs hs 3 (us := [.int .i64 a]) rfl (by decide) (hs.get 0 rfl) rfl rfl (by rw [qY];try exact (Nat.mul_one _).symm) (by show (_ + 1) * (8 + 1)≤_;omega) (fun H9 k9 e9 l9 hs=>?_)
               clear e9 l9
               have hs := hs.pick [1,2,3,4] (by decide) rfl (L' := [(true,it, .iter (.mapIter (some mb) S.length (seen ++ [i]).toArray S.length)),(true,mb,mpG S),(true,k9, .cells true 1 (ints (selF t.op true seen) ++ ints [a])),(true,x, .cells true 1 (tkC t b c))])
               rw [← wM,← eo] at hs
               have el : (selF t.op true (seen ++ [i])).length = (selF t.op true seen).length + 1 := by rw [eo];simp
               repeat' (first|with_reducible (first|refine ql ?_|refine qo (fun K0 hK0=>?_)|refine qw ?_|refine qx ?_|refine qf ?_|refine qi ?_|refine qg ?_|refine qc ?_|refine qy (fun K0 hK0=>?_)|refine qB ?_|refine qH ?_|refine qp ?_|refine qG ?_|refine qA ?_|refine qj ?_|refine qh ?_|refine qC ?_|refine qE rfl ?_|refine qm rfl ?_)|refine aI (by decide) ?_|refine iS hs ?_|refine rS hs ?_|refine eI _ (aI rfl ?_)|refine cF (fun _=>?_)|refine cT (fun _=>?_)|refine aI (by omega) ?_|refine oJ ?_|refine qI hs (fun _ _ _ _ hs=>?_)|refine qF hs (fun _ _ _ _ hs=>?_)|refine sS hs 0 (fun _ _ hs=>?_)|refine sS hs 1 (fun _ _ hs=>?_)|refine sS hs 2 (fun _ _ hs=>?_)|refine rd ?_|(refine hK0 _ _ ?_;clear hK0)|fail)
               exact ⟨⟨_,k9,seen ++ [i]⟩,⟨hs,hnd',hlt'⟩,by dsimp only;rw [List.length_append,List.length_singleton];omega,Or.inl ⟨⟨rfl,rfl,by rw [el];rfl,rfl,trivial⟩,rfl⟩⟩)
      · have hfull : ∀ y,y < (algK t.op).length→y∈seen := fun y hy=>by
          have hy' : y < S.length := by omega
          have := hall _ (entG_mem hy') (by dsimp only;exact hy')
          simpa using this
        have hsrt : srt (selF t.op q seen) = algF t.op q := srt_alg hop q hnd (fun y hy=>by have := hlt y hy;omega) hfull
        have hlen : (selF t.op q seen).length = (algF t.op q).length := by rw [← hsrt];exact (List.length_mergeSort _).symm
        rw [← hlen] at h
        repeat' (first|with_reducible (first|refine ql ?_|refine qo (fun K0 hK0=>?_)|refine qw ?_|refine qx ?_|refine qf ?_|refine qi ?_|refine qg ?_|refine qc ?_|refine qy (fun K0 hK0=>?_)|refine qB ?_|refine qH ?_|refine qp ?_|refine qG ?_|refine qA ?_|refine qj ?_|refine qh ?_|refine qC ?_|refine qE rfl ?_|refine qm rfl ?_)|refine aI (by decide) ?_|refine iS hs ?_|refine rS hs ?_|refine eI _ (aI rfl ?_)|refine cF (fun _=>?_)|refine cT (fun _=>?_)|refine aI (by omega) ?_|refine oJ ?_|refine qI hs (fun _ _ _ _ hs=>?_)|refine qF hs (fun _ _ _ _ hs=>?_)|refine sS hs 0 (fun _ _ hs=>?_)|refine sS hs 1 (fun _ _ hs=>?_)|refine sS hs 2 (fun _ _ hs=>?_)|((refine aI (fun hc=>?_) (fun hc=>?_)) <;> (try simp only [decide_eq_true_eq,decide_eq_false_iff_not,Bool.not_eq_true',Bool.not_eq_false',Bool.not_false,Bool.not_true,bne_iff_ne,ne_eq,Decidable.not_not,Int.not_lt,Int.not_le] at hc) <;> (try (exfalso;omega)))|refine rd ?_|(refine hK0 _ _ ?_;clear hK0)|fail)
        refine vY tok _ ?_
        repeat' (first|with_reducible (first|refine ql ?_|refine qo (fun K0 hK0=>?_)|refine qw ?_|refine qx ?_|refine qf ?_|refine qi ?_|refine qg ?_|refine qc ?_|refine qy (fun K0 hK0=>?_)|refine qB ?_|refine qH ?_|refine qp ?_|refine qG ?_|refine qA ?_|refine qj ?_|refine qh ?_|refine qC ?_|refine qE rfl ?_|refine qm rfl ?_)|refine aI (by decide) ?_|refine iS hs ?_|refine rS hs ?_|refine eI _ (aI rfl ?_)|refine cF (fun _=>?_)|refine cT (fun _=>?_)|refine aI (by omega) ?_|refine oJ ?_|refine qI hs (fun _ _ _ _ hs=>?_)|refine qF hs (fun _ _ _ _ hs=>?_)|refine sS hs 0 (fun _ _ hs=>?_)|refine sS hs 1 (fun _ _ hs=>?_)|refine sS hs 2 (fun _ _ hs=>?_)|refine rd ?_|(refine hK0 _ _ ?_;clear hK0)|fail)
        refine c96 (hs.get 2 rfl) (by omega) (fun H7 h1 h2 h3=>?_)
        rw [hsrt] at h2
        have hs := hs.set 2 rfl h1 h2 h3
        clear h1 h2 h3
        repeat' (first|with_reducible (first|refine ql ?_|refine qo (fun K0 hK0=>?_)|refine qw ?_|refine qx ?_|refine qf ?_|refine qi ?_|refine qg ?_|refine qc ?_|refine qy (fun K0 hK0=>?_)|refine qB ?_|refine qH ?_|refine qp ?_|refine qG ?_|refine qA ?_|refine qj ?_|refine qh ?_|refine qC ?_|refine qE rfl ?_|refine qm rfl ?_)|refine aI (by decide) ?_|refine iS hs ?_|refine rS hs ?_|refine eI _ (aI rfl ?_)|refine cF (fun _=>?_)|refine cT (fun _=>?_)|refine aI (by omega) ?_|refine oJ ?_|refine qI hs (fun _ _ _ _ hs=>?_)|refine qF hs (fun _ _ _ _ hs=>?_)|refine sS hs 0 (fun _ _ hs=>?_)|refine sS hs 1 (fun _ _ hs=>?_)|refine sS hs 2 (fun _ _ hs=>?_)|refine rd ?_|(refine hK0 _ _ ?_;clear hK0)|fail)
        exact ⟨_,_, .rfl, .rfl,h _ k (hs.pick [2] (by decide) rfl)⟩
  · rw [if_neg h0] at h
    generalize chkF t = z at h0 h ⊢
    repeat' (first|with_reducible (first|refine ql ?_|refine qo (fun K0 hK0=>?_)|refine qw ?_|refine qx ?_|refine qf ?_|refine qi ?_|refine qg ?_|refine qc ?_|refine qy (fun K0 hK0=>?_)|refine qB ?_|refine qH ?_|refine qp ?_|refine qG ?_|refine qA ?_|refine qj ?_|refine qh ?_|refine qC ?_|refine qE rfl ?_|refine qm rfl ?_)|refine aI (by decide) ?_|refine iS hs ?_|refine rS hs ?_|refine eI _ (aI rfl ?_)|refine cF (fun _=>?_)|refine cT (fun _=>?_)|refine aI (by omega) ?_|refine oJ ?_|refine qI hs (fun _ _ _ _ hs=>?_)|refine qF hs (fun _ _ _ _ hs=>?_)|refine sS hs 0 (fun _ _ hs=>?_)|refine sS hs 1 (fun _ _ hs=>?_)|refine sS hs 2 (fun _ _ hs=>?_)|((refine aI (fun hc=>?_) (fun hc=>?_)) <;> (try simp only [decide_eq_true_eq,decide_eq_false_iff_not,Bool.not_eq_true',Bool.not_eq_false',Bool.not_false,Bool.not_true,bne_iff_ne,ne_eq,Decidable.not_not,Int.not_lt,Int.not_le] at hc) <;> (try (exfalso;omega)))|refine rd ?_|(refine hK0 _ _ ?_;clear hK0)|fail)
    have hv := hs.virt (rw' [])
    exact ⟨.tuple ⟨[sv H2.length 0, .int .i64 z]⟩,H2 ++ [rw' []], .nil2 _ _,WkH.rfl.app _,h _ _ (hv.pick [0] (by decide) rfl)⟩
end Go.Af.Tryz
