/-
  Distance, as a call that the computing machine need not run: on rings.
-/
import Derived.Test.YtgdbclgcbbbenaaGreatMPC
import Derived.Test.YtgdbclgcbbbenaaGreatMZ
set_option linter.all false
namespace Go.Af.Tryz
open Go Go.Proofs Go.Af.Pl Co Ne
set_option maxRecDepth 100000
attribute [local irreducible] awp qo qA qN qI
theorem dst_le {nr:Nat->List Int} {N src:Nat} {D D' : List Int} (h:Dst nr N src D) (h' : Dst nr N src D') : ∀ (k z:Nat),z<N->D[z]! = k->0<=D'[z]! /\ D'[z]! <= k:=by
 intro k
 induction k with
 | zero =>
   intro z hz hk
   rcases h.back z hz (by omega) with rfl | ⟨w,hw,hzw,h0,he⟩
   ·rw[h'.s0];omega
   ·omega
 | succ k ih =>
   intro z hz hk
   rcases h.back z hz (by omega) with rfl | ⟨w,hw,hzw,h0,he⟩
   ·rw[h'.s0];omega
   ·obtain ⟨i1,i2⟩:=ih w hw (by omega)
    have:=h'.fwd w hw i1 z hzw
    rw[Int.toNat_natCast] at this
    omega
theorem dst_eq {nr:Nat->List Int} {N src z:Nat} {D D' : List Int} (h:Dst nr N src D) (h' : Dst nr N src D') (hz:z<N) (h0:0<=D'[z]!):D[z]! = D'[z]! := by
 obtain ⟨k',hk'⟩:=Int.eq_ofNat_of_zero_le h0
 obtain ⟨i1,i2⟩:=dst_le h' h k' z hz hk'
 obtain ⟨k,hk⟩:=Int.eq_ofNat_of_zero_le i1
 obtain ⟨j1,j2⟩:=dst_le h h' k z hz hk
 omega
def ringD (m y z:Nat):Int:=((min (y-z+(z-y)) (m-(y-z+(z-y))):Nat):Int)
def ringL (m y:Nat):List Int:=(List.range m).map (ringD m y)
def chkD (nr:Nat->List Int) (N y:Nat) (D:List Int):Bool :=
 Nat.beq D.length N&&Nat.blt y N&&decide (D[y]! = 0)&&(List.range N).all (fun z=>decide (0<=D[z]!)&&decide (D[z]! <= N)&&(Nat.beq z y||(List.range N).any (fun w=>decide ((z:Int)∈nr w)&&decide (D[z]! = D[w]! + 1)))&&(nr z).all (fun v=>decide (0<=D[v.toNat]!)&&decide (D[v.toNat]! <= D[z]! + 1)))
theorem chkD_ok {nr:Nat->List Int} {N y:Nat} {D:List Int} (h:chkD nr N y D=true):Dst nr N y D/\∀ z,z<N->0<=D[z]! := by
 unfold chkD at h
 simp only[Bool.and_eq_true,Bool.or_eq_true,decide_eq_true_eq,List.all_eq_true,List.any_eq_true,List.mem_range] at h
 obtain ⟨⟨⟨h1,h2⟩,h3⟩,h4⟩:=h
 have h2:y<N:=Nat.le_of_ble_eq_true h2
 refine⟨⟨Nat.eq_of_beq_eq_true h1,h2,h3,fun z hz=>(h4 z hz).1.1.2,fun z hz h0=>?_,fun z hz h0 v hv=>(h4 z hz).2 v hv,fun z hz=>by have:=(h4 z hz).1.1.1;omega⟩,fun z hz=>(h4 z hz).1.1.1⟩
 rcases (h4 z hz).1.2 with e | ⟨w,hw,h5,h6⟩
 ·exact .inl (Nat.eq_of_beq_eq_true e)
 ·exact .inr ⟨w,hw,h5,(h4 w hw).1.1.1,h6⟩
theorem l136 {kd hosts:Int} {sd:List Int} {s:Sh} {n x y:Nat} {D' : List Int} (hs0:qp kd sd hosts=some s) (hn:s.sw=n) (hx:x<n) (hy:y<n) (hD:Dst (fun z:Nat=>s.near z) n y D') (h0:0<=D'[x]!) :
 qo Tryz.prog 136 [spV kd (sv 0 sd.length) hosts, .int .i64 x, .int .i64 y] [ro sd] (fun v H=>v = .tuple ⟨[.int .i64 D'[x]!, .int .i64 0]⟩/\H = [ro sd]):=by
 refine qQ (g43 hs0 hn hx hy (b:=0) rfl (fun H' D hd hs=>?_))
 have e0:=zq hs (b:=0) (B:=ro sd) rfl
 refine⟨[(0,0)], .tuple ⟨[.int .i64 D'[x]!, .int .i64 0]⟩,[ro sd],by simp, ?_,⟨⟨_,e0,BRen.ints _ _ _⟩,trivial⟩,rfl, ?_,rfl,rfl⟩
 ·intro i hi
  match i,hi with
  | 0,_=>rfl
 ·rw[dst_eq hd hD hx h0];exact VRen.plain rfl
def orcD:List Value->(Nat->Option (Nat × List Value))->Nat->Option (Value × List (Bool × Nat × List Value))
 | [.agg xs, .int .i64 x, .int .i64 y],mem,_=>match xs.toList with
   | [.int .i64 kd, .slice (some ⟨b,0,none⟩) l1 c1, .int .i64 ho]=>match mem b with
     | some (1,v1)=>match intsV v1 with
       | some sd=>match qp kd sd ho with
         | some s=>match Nat.ble l1 c1&&Nat.beq l1 sd.length&&decide (0<=x)&&decide (0<=y)&&decide (s.sw=s.sw.toNat)&&Nat.blt x.toNat s.sw.toNat&&chkD (fun z:Nat=>s.near z) s.sw.toNat y.toNat (ringL s.sw.toNat y.toNat) with
           | true=>some (.tuple ⟨[.int .i64 (ringL s.sw.toNat y.toNat)[x.toNat]!, .int .i64 0]⟩,[])
           | false=>none
         | none=>none
       | none=>none
     | _=>none
   | _=>none
 | _,_,_=>none
theorem orcD_ok:OrcOk Tryz.prog 136 orcD:=by
 intro args mem H v bs hmem hg
 unfold orcD at hg
 split at hg
 ·rename_i xs x y
  split at hg
  ·rename_i kd b l1 c1 ho hx
   split at hg
   ·rename_i v1 m1
    split at hg
    ·rename_i sd i1
     split at hg
     ·rename_i s hs0
      split at hg
      ·rename_i hck
       cases hg
       simp only[Bool.and_eq_true,decide_eq_true_eq] at hck
       obtain ⟨⟨⟨⟨⟨⟨j1,k1⟩,x0⟩,y0⟩,sw0⟩,xn⟩,ck⟩:=hck
       have j1:=Nat.le_of_ble_eq_true j1
       have k1:=Nat.eq_of_beq_eq_true k1
       have xn:x.toNat<s.sw.toNat:=Nat.le_of_ble_eq_true xn
       obtain ⟨hD,hD0⟩:=chkD_ok ck
       have ex:xs=⟨_⟩:=Array.toList_inj.1 hx
       subst ex
       have h1:=hmem _ _ _ m1
       rw[intsV_ok i1] at h1
       obtain ⟨w1,h1⟩:=h1
       subst k1
       have ll:=l136 hs0 sw0 xn hD.hsrc hD (hD0 _ xn)
       rw[Int.toNat_of_nonneg x0,Int.toNat_of_nonneg y0] at ll
       refine (vS ll [(b,0)] rfl ?_ ⟨⟨_,h1,BRen.seg fun i x hx=>by rw[Nat.zero_add,vF,hx];rfl⟩,trivial⟩ rfl ⟨rfl,by simp⟩).call
       refine .cons (.agg (.cons (.int _ _) (.cons (VRen.slice rfl rfl ?_) (.cons (.int _ _) .nil)))) (.cons (.int _ _) (.cons (.int _ _) .nil))
       exact j1
      ·cases hg
     ·cases hg
    ·cases hg
   ·cases hg
  ·cases hg
 ·cases hg
end Go.Af.Tryz
