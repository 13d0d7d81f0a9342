/-
  What the steps of a round cost, as a call that the computing machine need not run.
-/
import Derived.Test.YtgdbclgcbbbenaaGreatMPB
import Derived.Test.YtgdbclgcbbbenaaGreatME
set_option linter.all false
namespace Go.Af.Tryz
open Go Go.Proofs Go.Af.Pl Co Ne
open Go.Af.Coll (St)
set_option maxRecDepth 100000
attribute [local irreducible] awp qi qw qH qy

def intsV:List Value->Option (List Int)
 | []=>some []
 | .int .i64 z::r=>match intsV r with
   | some l=>some (z::l)
   | none=>none
 | _=>none
def stsV:List Value->Option (List St)
 | []=>some []
 | .int .i64 a :: .int .i64 b :: .int .i64 c :: .int .i64 d :: .int .i64 e :: .int .i64 f::r=>match stsV r with
   | some l=>some (⟨a,b,c,d,e,f⟩::l)
   | none=>none
 | _=>none
theorem intsV_ok : ∀ {vs:List Value} {l:List Int},intsV vs=some l->vs=ints l:=by
 intro vs
 fun_induction intsV vs with
 | case1=>intro l h;cases h;rfl
 | case2 z r l' h ih=>intro l hl;cases hl;rw[ih h];rfl
 | case3=>intro l h;cases h
 | case4=>intro l h;cases h
theorem stsV_ok : ∀ {vs:List Value} {l:List St},stsV vs=some l->vs=stsC l:=by
 intro vs
 fun_induction stsV vs with
 | case1=>intro l h;cases h;rfl
 | case2 a b c d e f r l' h ih=>intro l hl;cases hl;rw[ih h];rfl
 | case3=>intro l h;cases h
 | case4=>intro l h;cases h
theorem stsC_plain : ∀ (l:List St), ∀ v∈stsC l,vY 6 v=true
 | [],v,hv=>by cases hv
 | x::l,v,hv=>by
   rcases List.mem_append.1 (show v∈stC x++stsC l from hv) with h | h
   ·simp only[stC,List.mem_cons,List.not_mem_nil,or_false] at h
    rcases h with rfl | rfl | rfl | rfl | rfl | rfl <;> rfl
   ·exact stsC_plain l v h
theorem l53 {m:Mc} {s:Sh} {l:List St} {k0 n cp:Nat} (mk:McOk m s) (hk0:k0+n<=l.length) (hn:n<=1000) (hr : ∀ x∈(l.drop k0).take n,(0<=x.fr/\x.fr<m.hs.length)/\(0<=x.to/\x.to<m.hs.length)) :
 qi Tryz.prog 53 [mcV m 0 1, .slice (some ⟨2,k0*6,none⟩) n cp] [ro m.sd,ro m.hs, .cells false 6 (stsC l)] (fun v H=>v = .agg ⟨ints (rdcF s m ((l.drop k0).take n))⟩/\H = [ro m.sd,ro m.hs, .cells false 6 (stsC l)]):=by
 refine qR (c53 (s:=s) (b:=0) (c:=1) (d:=2) (l:=l) ⟨⟨_,rfl⟩,⟨_,rfl⟩⟩ ⟨_,rfl⟩ mk hk0 hn hr (fun H' hs=>?_))
 have e0:=zg hs (b:=0) (B:=ro m.sd) rfl
 have e1:=zg hs (b:=1) (B:=ro m.hs) rfl
 have e2:=zg hs (b:=2) (B := .cells false 6 (stsC l)) rfl
 refine⟨[(0,0),(1,0),(2,0)], .agg ⟨ints (rdcF s m ((l.drop k0).take n))⟩,[ro m.sd,ro m.hs, .cells false 6 (stsC l)],by simp, ?_,⟨⟨_,e0,BRen.ints _ _ _⟩,⟨_,e1,BRen.ints _ _ _⟩,⟨_,e2, ?_⟩,trivial⟩,rfl,VRen.plain ?_,rfl,rfl⟩
 ·intro i hi
  match i,hi with
  | 0,_=>rfl
  | 1,_=>rfl
  | 2,_=>rfl
 ·exact BRen.cells (fun h=>by cases h) (fun i x2 hx=>⟨x2,by rw[Nat.zero_add];exact hx,VRen.plain (stsC_plain _ x2 (List.mem_of_getElem? hx))⟩)
 ·rfl
def orc53:List Value->(Nat->Option (Nat × List Value))->Nat->Option (Value × List (Bool × Nat × List Value))
 | [.agg xs, .slice (some ⟨d,o,none⟩) n _],mem,_=>match xs.toList with
   | [.int .i64 kd, .slice (some ⟨b,0,none⟩) l1 c1, .int .i64 ho, .slice (some ⟨c,0,none⟩) l2 c2, .int .i64 st, .int .i64 hp, .int .i64 wd, .int .i64 jn]=>match mem b,mem c,mem d with
     | some (1,v1),some (1,v2),some (6,v3)=>match intsV v1,intsV v2,stsV v3 with
       | some sd,some hs,some l=>match qP kd sd ho with
         | some s=>match Nat.ble l1 c1&&Nat.ble l2 c2&&Nat.beq l1 sd.length&&Nat.beq l2 hs.length&&Nat.beq o (o / 6*6)&&Nat.ble (o / 6+n) l.length&&Nat.ble n 1000&&hs.all (fun h=>decide (0<=h)&&decide (h<s.hm*ho))&&((l.drop (o / 6)).take n).all (fun x=>(decide (0<=x.fr)&&decide (x.fr<hs.length))&&(decide (0<=x.to)&&decide (x.to<hs.length))) with
           | true=>some (.agg ⟨ints (rdcF s ⟨kd,sd,ho,hs,st,hp,wd,jn⟩ ((l.drop (o / 6)).take n))⟩,[])
           | false=>none
         | none=>none
       | _,_,_=>none
     | _,_,_=>none
   | _=>none
 | _,_,_=>none
theorem orc53_ok:OrcOk Tryz.prog 53 orc53:=by
 intro args mem H v bs hmem hg
 unfold orc53 at hg
 split at hg
 ·rename_i xs d o n cp
  split at hg
  ·rename_i kd b l1 c1 ho c l2 c2 st hp wd jn hx
   split at hg
   ·rename_i v1 v2 v3 m1 m2 m3
    split at hg
    ·rename_i sd hs l i1 i2 i3
     split at hg
     ·rename_i s hs0
      split at hg
      ·rename_i hck
       cases hg
       simp only[Bool.and_eq_true,decide_eq_true_eq,List.all_eq_true] at hck
       obtain ⟨⟨⟨⟨⟨⟨⟨⟨j1,j2⟩,k1⟩,k2⟩,k3⟩,k4⟩,k5⟩,k6⟩,k7⟩:=hck
       have j1:=Nat.le_of_ble_eq_true j1
       have j2:=Nat.le_of_ble_eq_true j2
       have k1:=Nat.eq_of_beq_eq_true k1
       have k2:=Nat.eq_of_beq_eq_true k2
       have k3:=Nat.eq_of_beq_eq_true k3
       have k4:=Nat.le_of_ble_eq_true k4
       have k5:=Nat.le_of_ble_eq_true k5
       have ex:xs=⟨_⟩:=Array.toList_inj.1 hx
       subst ex
       have h1:=hmem _ _ _ m1
       have h2:=hmem _ _ _ m2
       have h3:=hmem _ _ _ m3
       rw[intsV_ok i1] at h1
       rw[intsV_ok i2] at h2
       rw[stsV_ok i3] at h3
       obtain ⟨w1,h1⟩:=h1
       obtain ⟨w2,h2⟩:=h2
       obtain ⟨w3,h3⟩:=h3
       subst k1 k2
       refine (vP (l53 (m:=⟨kd,sd,ho,hs,st,hp,wd,jn⟩) (s:=s) (k0:=o / 6) (n:=n) (cp:=cp) (McOk.of hs0 k6) k4 k5 k7) [(b,0),(c,0),(d,0)] rfl ?_ ⟨⟨_,h1,BRen.seg fun i x hx=>by rw[Nat.zero_add,ve,hx];rfl⟩,⟨_,h2,BRen.seg fun i x hx=>by rw[Nat.zero_add,ve,hx];rfl⟩,⟨_,h3, ?_⟩,trivial⟩ rfl ⟨rfl,by simp⟩).call
       ·refine .cons (.agg (.cons (.int _ _) (.cons (VRen.slice rfl rfl ?_) (.cons (.int _ _) (.cons (VRen.slice rfl rfl ?_) (.cons (.int _ _) (.cons (.int _ _) (.cons (.int _ _) (.cons (.int _ _) .nil))))))))) (.cons (VRen.slice rfl (by omega) (Nat.le_refl _)) .nil)
        ·exact j1
        ·exact j2
       ·exact BRen.cells (fun h=>by cases h) (fun i x2 hx=>⟨x2,by rw[Nat.zero_add];exact hx,VRen.plain (stsC_plain _ x2 (List.mem_of_getElem? hx))⟩)
      ·cases hg
     ·cases hg
    ·cases hg
   ·cases hg
  ·cases hg
 ·cases hg
end Go.Af.Tryz
