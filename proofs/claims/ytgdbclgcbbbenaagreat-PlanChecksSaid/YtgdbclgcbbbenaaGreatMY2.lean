/-
  The law NetRoutes, as a call.
  How many links are across the standard sides. No program is in sight.
  Whether a network is small, and the snake as the program makes it.
  The snake, as the program makes it.
  The snake, place by place: how the reference goes on from one place to the next. No program is in sight.
  The snake, as the reference makes it.
  The snake's places are homes. No program is in sight.
-/
import Derived.Test.YtgdbclgcbbbenaaGreatMX
import Derived.Test.YtgdbclgcbbbenaaGreatMT3
import Derived.Test.YtgdbclgcbbbenaaGreatMY
import Derived.Test.YtgdbclgcbbbenaaGreatMU
import Derived.Test.YtgdbclgcbbbenaaGreatMC
set_option linter.all false
namespace Go.Af.Tryz.Ne
open Go Go.Proofs
attribute [local irreducible] awp qo qA qN qI

end Go.Af.Tryz.Ne
namespace Go.Af.Tryz.Ne
open Go

theorem set_get_ne {c:List Int} {i j:Nat} {z:Int} (h:i≠j):(c.set j z)[i]! = c[i]! := by
 rw[List.getElem!_eq_getElem?_getD,List.getElem!_eq_getElem?_getD,List.getElem?_set_ne (by omega)]
section
variable {g:List Int} {n:Nat}
end

/-! ### Fat trees and dragonflies,checked -/
end Go.Af.Tryz.Ne
namespace Go.Af.Tryz.Ne
open Go Go.Proofs
attribute [local irreducible] awp qo qA qN qI

end Go.Af.Tryz.Ne
namespace Go.Af.Tryz.Ne
open Go Go.Proofs
attribute [local irreducible] awp qo qA qN qI qG isCells qC qw qY

def snS (g e:List Int):Nat->List Int × Bool
 | 0=>(e,false)
 | k+1=>((if (snS g e k).2 then (snS g e k).1.set k (g[k]! - 1-(snS g e k).1[k]!) else (snS g e k).1),
    decide ((if (snS g e k).2 then (snS g e k).1.set k (g[k]! - 1-(snS g e k).1[k]!) else (snS g e k).1)[k]!.tmod 2=1) != (snS g e k).2)
theorem snS_in {g e:List Int} (he:InR g e) : ∀ k:Nat,k<=g.length->InR g (snS g e k).1
 | 0,_=>he
 | k+1,hk=>by
   have h:=snS_in he k (by omega)
   have hb:=h.2 k (by omega)
   simp only[snS]
   split
   ·exact h.set (by omega) (by omega) (by omega)
   ·exact h
def snF (g:List Int) (x:Nat):Int:=numF g (snS g (ql g x) g.length).1
def yx (n:Nat):List Int:=(List.range n).map fun x:Nat=>(x:Int)
def Sh.snk (s:Sh):List Int :=
 match s with
 | .grid g=>(List.range (vV g).toNat).map (snF g)
 | .fat k n=>yx (Sh.fat k n).hm.toNat
 | .fly a h=>yx (Sh.fly a h).hm.toNat
theorem snk_len (s:Sh):s.snk.length=s.hm.toNat:=by cases s <;> simp[Sh.snk,yx,Sh.hm]
theorem xs_map {xs:List Int} {f:Nat->Int} {n:Nat} (hl:xs.length=n) (h : ∀ y:Nat,y<n->xs[y]! = f y):xs=(List.range n).map f:=by
 refine List.ext_getElem (by simp[hl]) (fun y h1 h2=>?_)
 have:=h y (by omega)
 rw[getElem!_pos xs y h1] at this
 rw[this];simp
theorem xs_set {xs:List Int} {f:Nat->Int} {n i:Nat} (hl:xs.length=n) (hi:i<n) (h : ∀ y:Nat,y<i->xs[y]! = f y) : ∀ y:Nat,y<i+1->(xs.set i (f i))[y]! = f y:=fun y hy=>by
 by_cases e:y=i
 ·subst e;rw[getElem!_pos _ y (by simp;omega)];simp
 ·rw[getElem!_pos _ y (by simp;omega),List.getElem_set_ne (by omega),<- getElem!_pos xs y (by omega)]
  exact h y (by omega)

structure XS66 where
 H:List Blk
 xs:List Int
 i:Nat

set_option maxHeartbeats 1000000 in
theorem g34 {H:List Blk} {R:Value->List Blk->Prop} {b:Nat} {wr:Bool} {kind hosts:Int} {sides:List Int} {s:Sh} (hs:qp kind sides hosts=some s) (hb:bget H b=some (.cells wr 1 (ints sides)))
 (h : ∀ H' k,HS H none' [(true,k,rw' s.snk)] H' -> R (.tuple ⟨[sv k s.snk.length, .int .i64 0]⟩) H'):qo Tryz.prog 88 [spV kind (sv b sides.length) hosts] H R:=by
 have hok:=wP hs
 have hof:=xI hs
 have hbd:=sw_bd hok
 have hsl:=snk_len s
 obtain ⟨m,hm⟩ : ∃ m:Nat,s.hm=m:=⟨s.hm.toNat,by omega⟩
 rw[hm,Int.toNat_natCast] at hsl
 refine qj tok Tryz.call88 Tryz.func88 rfl Tryz.ntmps88 rfl (by simp) ?_
 refine vO (((HS.start H none').add (c:=false) hb (fun i p hi=>by simp at hi) (fun h=>by cases h))) (fun H1 b1 e1 l1 hs1=>?_)
 refine qc (hs1.get 0 rfl) ?_
 refine⟨_,rfl,_,rfl,_,rfl, ?_⟩
 (first | refine c57 kind hosts (hs1.get 1 rfl) (Nat.le_refl _) ?_ | refine (c57 kind hosts (hs1.get 1 rfl) (Nat.le_refl _) ?_).call)
 rw[hs]
 refine⟨_,rfl,_,rfl, ?_⟩
 refine And.intro (fun h=>absurd h (by decide)) (fun _=>?_)
 (first | refine x_ho hok (at_of hof (hs1.get 1 rfl)) ?_ | refine (x_ho hok (at_of hof (hs1.get 1 rfl)) ?_).call)
 rw[hm]
 refine⟨by decide,m,m,⟨rfl,rfl⟩,⟨Nat.le_refl _,by simp only;omega⟩,ints (List.replicate m 0),by simp[vG,ints,qF], ?_⟩
 refine vO hs1 (fun H2 j e2 l2 hs2=>?_)
 refine qJ (α := XS66) tok (fun z=>HS H none' [(true,j,rw' z.xs),(true,b1, .cells true 1 [.int .i64 kind,sv b sides.length, .int .i64 hosts]),(false,b, .cells wr 1 (ints sides))] z.H/\z.xs.length=m/\(∀ y:Nat,y<z.i->z.xs[y]! = (y:Int))/\z.i<=m)
  (fun | ⟨_,_,i⟩=>[(1,pV b1),(4,shV (sv b sides.length) s),(6,sv j m),(27, .int .i64 (m:Int)),(28, .int .i64 (i:Int))]) (fun | ⟨H',_,_⟩=>H') (fun z=>m-z.i)
  ⟨H2,List.replicate m 0,0⟩ ⟨hs2,by simp,fun y hy=>absurd hy (Nat.not_lt_zero y),Nat.zero_le _⟩ (Or.inl ⟨⟨rfl,rfl,rfl,rfl,rfl,trivial⟩,rfl⟩) ?_
 clear hs1 hs2
 rintro ⟨H2,xs,i⟩ ⟨hs2,hx,hxs,hi⟩
 simp only at hs2 hx hxs hi
 refine And.intro (fun hc=>?_) (fun hc=>?_)
 ·have hlt:i<m:=by simpa using hc
  refine qg (hs2.get 0 rfl) ⟨i,rfl,hlt, ?_⟩
  simp only[putK,vops,vM,wS,Nat.blt]
  refine ww hs2 0 rfl (ints (xs.set i (i:Int))) rfl rfl (by simp;omega) (zx _ _ _) (fun H3 l3 hs3=>?_)
  refine Or.inl ⟨((i+1:Nat):Int),by simp,by unfold I64;omega, ?_⟩
  exact⟨⟨H3,xs.set i (i:Int),i+1⟩,⟨hs3,by simp[hx],xs_set (f:=fun y=>(y:Int)) hx hlt hxs,hlt⟩,by simp only;omega,Or.inl ⟨⟨rfl,rfl,rfl,rfl,rfl,trivial⟩,rfl⟩⟩
 have:i=m:=by simp at hc;omega
 subst this
 have hxe:=xs_map (f:=fun y=>(y:Int)) hx hxs
 cases s with
 | fat k n =>
   have e:xs=(Sh.fat k n).snk:=by rw[hxe];simp[Sh.snk,yx,hm]
   subst e
   refine⟨_,rfl,_,rfl, ?_⟩
   refine And.intro (fun _=>?_) (fun h=>absurd h (by decide))
   have:=h _ _ (hs2.pick [0] (by decide) rfl)
   rw[hx] at this
   exact this
 | fly k n =>
   have e:xs=(Sh.fly k n).snk:=by rw[hxe];simp[Sh.snk,yx,hm]
   subst e
   refine⟨_,rfl,_,rfl, ?_⟩
   refine And.intro (fun _=>?_) (fun h=>absurd h (by decide))
   have:=h _ _ (hs2.pick [0] (by decide) rfl)
   rw[hx] at this
   exact this
 | grid g =>
   obtain ⟨rfl,rfl⟩:=hof
   have hok' := hok
   obtain ⟨hl1,hl2,hmm,hp⟩:=hok'
   have hg2 : ∀ m∈g,2<=m:=fun m h=>(hmm m h).1
   have hgi : ∀ i,i<g.length->2<=g[i]! /\ g[i]! <= 16:=fun i hi=>by rw[getElem!_pos g i hi];exact hmm _ (List.getElem_mem hi)
   refine⟨_,rfl,_,rfl, ?_⟩
   refine And.intro (fun h=>absurd h (by decide)) (fun _=>?_)
   refine qJ (α := XS66) tok (fun z=>HS H none' [(true,j,rw' z.xs),(true,b1, .cells true 1 [.int .i64 1,sv b g.length, .int .i64 hosts]),(false,b, .cells wr 1 (ints g))] z.H/\z.xs.length=i/\(∀ y:Nat,y<z.i->z.xs[y]! = snF g y)/\z.i<=i)
    (fun | ⟨_,_,y⟩=>[(1,pV b1),(6,sv j i),(8,sv b g.length),(45, .int .i64 (i:Int)),(46, .int .i64 (y:Int))]) (fun | ⟨H',_,_⟩=>H') (fun z=>i-z.i)
    ⟨H2,xs,0⟩ ⟨hs2,hx,fun y hy=>absurd hy (Nat.not_lt_zero y),Nat.zero_le _⟩ (Or.inl ⟨⟨rfl,rfl,rfl,rfl,rfl,trivial⟩,rfl⟩) ?_
   clear hs2 hxe hxs hx xs
   rintro ⟨H2,xs,x⟩ ⟨hs2,hx,hxs,hxi⟩
   simp only at hs2 hx hxs hxi
   refine And.intro (fun hc=>?_) (fun hc=>?_)
   ·have hlt:x<i:=by simpa using hc
    have hci:=wL (x:=(x:Int)) (by omega) g hg2
    (first | refine c66 hg2 (by omega) (zT (x:=(x:Int)) (by omega)) (hs2.get 2 rfl) ?_ | refine (c66 hg2 (by omega) (zT (x:=(x:Int)) (by omega)) (hs2.get 2 rfl) ?_).call)
    refine vO hs2 (fun H3 q e3 l3 hs3=>?_)
    refine qJ (α := List Blk × Nat) tok (fun z=>HS H none' [(true,q,rw' (snS g (ql g x) z.2).1),(true,j,rw' xs),(true,b1, .cells true 1 [.int .i64 1,sv b g.length, .int .i64 hosts]),(false,b, .cells wr 1 (ints g))] z.1/\z.2<=g.length)
     (fun | (_,k)=>[(1,pV b1),(6,sv j i),(8,sv b g.length),(10, .int .i64 (x:Int)),(11,sv q g.length),(12, .bool (snS g (ql g x) k).2),(45, .int .i64 (i:Int)),(46, .int .i64 (x:Int)),(52,sv q g.length),(53, .int .i64 (g.length:Int)),(54, .int .i64 (k:Int))]) (fun | (H',_)=>H') (fun z=>g.length-z.2)
     (H3,0) ⟨hs3,Nat.zero_le _⟩ (Or.inl ⟨⟨rfl,rfl,rfl,rfl,rfl,rfl,rfl,rfl,rfl,rfl,rfl,trivial⟩,rfl⟩) ?_
    clear hs2 hs3
    rintro ⟨H4,k⟩ ⟨hs4,hk⟩
    simp only at hs4 hk
    have hsi:=snS_in hci k hk
    refine And.intro (fun hc=>?_) (fun hc=>?_)
    ·have hkl:k<g.length:=by simpa using hc
     have hgk:=hgi k hkl
     have hak:=hsi.2 k hkl
     have e1:(snS g (ql g x) (k+1)).1=if (snS g (ql g x) k).2 then (snS g (ql g x) k).1.set k (g[k]! - 1-(snS g (ql g x) k).1[k]!) else (snS g (ql g x) k).1:=rfl
     have e2:(snS g (ql g x) (k+1)).2=(decide ((snS g (ql g x) (k+1)).1[k]!.tmod 2=1) != (snS g (ql g x) k).2):=rfl
     have hsi2:=snS_in hci (k+1) hkl
     refine qg (hs4.get 0 rfl) ⟨k,rfl,hkl, ?_⟩
     refine qc (hs4.get 0 rfl) (qH k (snS g (ql g x) k).1[k]! (by simp) (by simp[hsi.1,hkl]) ?_)
     refine And.intro (fun ho=>?_) (fun ho=>?_)
     ·have ho:(snS g (ql g x) k).2=true:=ho
      have e1t:(snS g (ql g x) (k+1)).1=(snS g (ql g x) k).1.set k (g[k]! - 1-(snS g (ql g x) k).1[k]!):=by rw[e1,if_pos ho]
      refine qg (hs4.get 3 rfl) ⟨k,rfl,hkl, ?_⟩
      refine qc (hs4.get 3 rfl) (qH k g[k]! (by simp) (by simp[hkl]) ?_)
      refine Or.inl ⟨g[k]! - 1,rfl,by unfold I64;omega, ?_⟩
      refine Or.inl ⟨g[k]! - 1-(snS g (ql g x) k).1[k]!,rfl,by unfold I64;omega, ?_⟩
      refine qg (hs4.get 0 rfl) ⟨k,rfl,hkl, ?_⟩
      simp only[putK,vops,vM,wS,Nat.blt]
      refine ww hs4 0 rfl (ints ((snS g (ql g x) k).1.set k (g[k]! - 1-(snS g (ql g x) k).1[k]!))) rfl rfl (by simp[hsi.1];omega) (zx _ _ _) (fun H5 l5 hs5=>?_)
      rw[<- e1t] at hs5
      refine qg (hs5.get 0 rfl) ⟨k,rfl,hkl, ?_⟩
      refine qc (hs5.get 0 rfl) (qH k (snS g (ql g x) (k+1)).1[k]! (by simp) (by simp[hsi2.1,hkl]) ?_)
      refine⟨by decide,_,rfl, ?_⟩
      refine Or.inl ⟨((k+1:Nat):Int),by simp,by unfold I64;omega, ?_⟩
      exact⟨(_,k+1),⟨hs5,hkl⟩,by simp only;omega,Or.inl ⟨⟨rfl,rfl,rfl,rfl,rfl,congrArg (fun z=>some (Value.bool z)) e2.symm,rfl,rfl,rfl,rfl,rfl,trivial⟩,rfl⟩⟩
     ·have ho:(snS g (ql g x) k).2=false:=ho
      have e1f:(snS g (ql g x) (k+1)).1=(snS g (ql g x) k).1:=by rw[e1,if_neg (by rw[ho];decide)]
      have hs5:=hs4
      rw[<- e1f] at hs5
      have H5:=H4
      refine qg (hs5.get 0 rfl) ⟨k,rfl,hkl, ?_⟩
      refine qc (hs5.get 0 rfl) (qH k (snS g (ql g x) (k+1)).1[k]! (by simp) (by simp[hsi2.1,hkl]) ?_)
      refine⟨by decide,_,rfl, ?_⟩
      refine Or.inl ⟨((k+1:Nat):Int),by simp,by unfold I64;omega, ?_⟩
      exact⟨(_,k+1),⟨hs5,hkl⟩,by simp only;omega,Or.inl ⟨⟨rfl,rfl,rfl,rfl,rfl,congrArg (fun z=>some (Value.bool z)) e2.symm,rfl,rfl,rfl,rfl,rfl,trivial⟩,rfl⟩⟩
    ·have:k=g.length:=by simp at hc;omega
     subst this
     (first | refine c67 hsi.1 (by omega) (zn hsi hp) (hs4.get 3 rfl) (hs4.get 0 rfl) ?_ | refine (c67 hsi.1 (by omega) (zn hsi hp) (hs4.get 3 rfl) (hs4.get 0 rfl) ?_).call)
     refine qg (hs4.get 1 rfl) ⟨x,rfl,hlt, ?_⟩
     simp only[putK,vops,vM,wS,Nat.blt]
     refine ww hs4 1 rfl (ints (xs.set x (snF g x))) rfl rfl (by simp;omega) (zx _ _ _) (fun H5 l5 hs5=>?_)
     refine Or.inl ⟨((x+1:Nat):Int),by simp,by unfold I64;omega, ?_⟩
     exact⟨⟨H5,xs.set x (snF g x),x+1⟩,⟨hs5.tail,by simp[hx],xs_set hx hlt hxs,hlt⟩,by simp only;omega,Or.inl ⟨⟨rfl,rfl,rfl,rfl,rfl,trivial⟩,rfl⟩⟩
   ·have:x=i:=by simp at hc;omega
    subst this
    have e:xs=(Sh.grid g).snk:=by
     rw[xs_map hx hxs]
     have:(vV g).toNat=x:=by simp only[Sh.hm] at hm;omega
     simp only[Sh.snk,this]
    subst e
    have:=h _ _ (hs2.pick [0] (by decide) rfl)
    rw[hx] at this
    exact this
end Go.Af.Tryz.Ne
namespace Go.Af.Tryz.Ne
open Go

theorem ext! {xs ys:List Int} (hl:xs.length=ys.length) (h : ∀ k:Nat,k<xs.length->xs[k]! = ys[k]!):xs=ys :=
 List.ext_getElem hl fun k h1 h2=>by
  have:=h k h1
  rwa [getElem!_pos xs k h1,getElem!_pos ys k h2] at this
def incL:List Int->Nat->List Int
 | [],_=>[]
 | c::e,0=>(c+1)::List.replicate e.length 0
 | c::e,i+1=>c::incL e i
theorem incL_len : ∀ (e:List Int) (i:Nat),(incL e i).length=e.length
 | [],_=>rfl
 | c::e,0=>by simp[incL]
 | c::e,i+1=>by simp[incL,incL_len e i]
theorem incL_get : ∀ (e:List Int) (i k:Nat),i<e.length->k<e.length->(incL e i)[k]! = if k<i then e[k]! else if k=i then e[i]! + 1 else 0
 | [],_,_,h,_=>by simp at h
 | c::e,0,0,_,_=>by simp[incL]
 | c::e,0,k+1,_,hk=>by
   have hk:k<e.length:=by simpa using hk
   rw[getElem!_pos _ (k+1) (by simp[incL,hk])]
   simp[incL]
 | c::e,i+1,0,_,_=>by simp[incL]
 | c::e,i+1,k+1,hi,hk=>by
   have h:=incL_get e i k (by simpa using hi) (by simpa using hk)
   have e1 : ∀ (z:Int) (l:List Int) (q:Nat),(z::l)[q+1]! = l[q]! := fun z l q=>by simp
   rw[incL,e1,e1,e1,h]
   by_cases h1:k<i
   ·rw[if_pos h1,if_pos (show k+1<i+1 by omega)]
   ·rw[if_neg h1,if_neg (show ¬ k+1<i+1 by omega)]
    by_cases h2:k=i
    ·rw[if_pos h2,if_pos (show k+1=i+1 by omega)]
    ·rw[if_neg h2,if_neg (show ¬ k+1=i+1 by omega)]
theorem xP (a m c:Int) (g e:List Int):numA a (m::g) (c::e)=numA (a*m+c) g e:=rfl
theorem numA_zero : ∀ (g:List Int) (a:Int),numA a g (List.replicate g.length 0)=a*vV g
 | [],a=>by simp[numA,vV]
 | m::g,a=>by
   show numA a (m::g) (0::List.replicate g.length 0)=_
   rw[xP,numA_zero g,Int.add_zero,prodF_cons,Int.mul_assoc]
theorem num_max : ∀ (g e:List Int) (a:Int),e.length=g.length->(∀ k,k<g.length->e[k]! = g[k]! - 1)->numA a g e+1=numA (a+1) g (List.replicate g.length 0)
 | [],[],a,_,_=>by simp[numA]
 | m::g,c::e,a,hl,h=>by
   have h0:c=m-1:=by simpa using h 0 (by simp)
   have ih:=num_max g e (a*m+c) (by simpa using hl) (fun k hk=>by simpa using h (k+1) (by simpa using hk))
   show _=numA (a+1) (m::g) (0::List.replicate g.length 0)
   rw[xP,xP,ih,h0]
   congr 1
   rw[Int.add_mul];omega
 | [],_::_,_,h,_=>by simp at h
 | _::_,[],_,h,_=>by simp at h
theorem num_inc : ∀ (g e:List Int) (a:Int) (i:Nat),e.length=g.length->i<g.length->(∀ k,i<k->k<g.length->e[k]! = g[k]! - 1)->numA a g e+1=numA a g (incL e i)
 | [],_,_,_,_,h,_=>by simp at h
 | _::_,[],_,_,h,_,_=>by simp at h
 | m::g,c::e,a,0,hl,_,h=>by
   have hl:e.length=g.length:=by simpa using hl
   have ih:=num_max g e (a*m+c) hl (fun k hk=>by simpa using h (k+1) (by omega) (by simpa using hk))
   rw[incL,xP,xP,ih,hl,Int.add_assoc]
 | m::g,c::e,a,i+1,hl,hi,h=>by
   have ih:=num_inc g e (a*m+c) i (by simpa using hl) (by simpa using hi) (fun k h1 h2=>by simpa using h (k+1) (by omega) (by simpa using h2))
   rw[incL,xP,xP,ih]

/-! ### The place and the directions -/
def sgn (b:Bool):Int:=if b then -1 else 1
theorem snS_len (g e:List Int) : ∀ k:Nat,(snS g e k).1.length=e.length
 | 0=>rfl
 | k+1=>by
   have h:=snS_len g e k
   simp only[snS]
   split
   ·simp[h]
   ·exact h
theorem snS_get {g e:List Int} (hl:e.length=g.length) : ∀ (k j:Nat),k<=g.length->j<g.length->(snS g e k).1[j]! = if j<k then (if (snS g e j).2 then g[j]! - 1-e[j]! else e[j]!) else e[j]!
 | 0,j,_,_=>by simp[snS]
 | k+1,j,hk,hj=>by
   have ih:=snS_get hl k j (by omega) hj
   have ik:=snS_get hl k k (by omega) (by omega)
   rw[if_neg (Nat.lt_irrefl k)] at ik
   simp only[snS]
   have hsl:=snS_len g e k
   by_cases hod:(snS g e k).2=true
   ·rw[if_pos hod]
    by_cases hjk:j=k
    ·subst hjk
     rw[set_get_self (by omega),ik,if_pos (show j<j+1 by omega),if_pos hod]
    ·rw[set_get_ne hjk,ih]
     by_cases h:j<k
     ·rw[if_pos h,if_pos (show j<k+1 by omega)]
     ·rw[if_neg h,if_neg (show ¬ j<k+1 by omega)]
   ·rw[if_neg hod,ih]
    by_cases hjk:j=k
    ·subst hjk
     rw[if_neg (Nat.lt_irrefl j),if_pos (show j<j+1 by omega),if_neg hod]
    ·by_cases h:j<k
     ·rw[if_pos h,if_pos (show j<k+1 by omega)]
     ·rw[if_neg h,if_neg (show ¬ j<k+1 by omega)]
theorem snS_odd {g e:List Int} (hl:e.length=g.length) {k:Nat} (hk:k<g.length):(snS g e (k+1)).2=(decide ((snS g e g.length).1[k]!.tmod 2=1) != (snS g e k).2):=by
 have h1:=snS_get hl (k+1) k hk hk
 have h2:=snS_get hl g.length k (Nat.le_refl _) hk
 rw[if_pos (by omega)] at h1
 rw[if_pos hk] at h2
 rw[h2,<- h1];rfl

def atL (g:List Int) (x:Nat):List Int:=(snS g (ql g x) g.length).1
def byL (g:List Int) (x:Nat):List Int:=(List.range g.length).map fun k=>sgn (snS g (ql g x) k).2
theorem byL_get {g:List Int} {x k:Nat} (h:k<g.length):(byL g x)[k]! = sgn (snS g (ql g x) k).2:=by
 rw[getElem!_pos _ k (by simp[byL,h])];simp[byL]
def okI (g a b:List Int) (i:Nat):Bool:=decide (0<=a[i]! + b[i]!)&&decide (a[i]! + b[i]! < g[i]!)
def fndS (g a b:List Int):Nat->Nat
 | 0=>0
 | i+1=>if okI g a b i then i+1 else fndS g a b i
theorem fnd_spec (g a b:List Int) : ∀ n:Nat,(fndS g a b n=0/\∀ k,k<n->okI g a b k=false)\/∃ i,fndS g a b n=i+1/\i<n/\okI g a b i=true/\∀ k,i<k->k<n->okI g a b k=false
 | 0=>.inl ⟨rfl,fun k hk=>absurd hk (Nat.not_lt_zero k)⟩
 | n+1=>by
   simp only[fndS]
   by_cases h:okI g a b n=true
   ·rw[if_pos h];exact .inr ⟨n,rfl,by omega,h,fun k h1 h2=>by omega⟩
   ·rw[if_neg h]
    have h:okI g a b n=false:=by simpa using h
    rcases fnd_spec g a b n with ⟨h1,h2⟩ | ⟨i,h1,h2,h3,h4⟩
    ·exact .inl ⟨h1,fun k hk=>by
      by_cases e:k=n
      ·subst e;exact h
      ·exact h2 k (by omega)⟩
    ·exact .inr ⟨i,h1,by omega,h3,fun k k1 k2=>by
      by_cases e:k=n
      ·subst e;exact h
      ·exact h4 k k1 (by omega)⟩
section
variable {g:List Int} {x:Nat}
theorem ok_iff (hg : ∀ m∈g,2<=m) {i:Nat} (hi:i<g.length):okI g (atL g x) (byL g x) i=decide ((ql g x)[i]! < g[i]! - 1):=by
 have hc:=wL (x:=(x:Int)) (by omega) g hg
 have hb:=hc.2 i hi
 have ha:=snS_get hc.1 g.length i (Nat.le_refl _) hi
 rw[if_pos hi] at ha
 unfold okI
 rw[byL_get hi,show (atL g x)[i]! = _ from ha]
 cases (snS g (ql g x) i).2 with
 | true =>
   simp only[sgn,if_true]
   rw[<- Bool.decide_and]
   exact decide_eq_decide.2 (by omega)
 | false =>
   simp only[sgn,Bool.false_eq_true,if_false]
   rw[<- Bool.decide_and]
   exact decide_eq_decide.2 (by omega)
theorem snake_end (hg : ∀ m∈g,2<=m) (hx:(x:Int)<vV g) (h:fndS g (atL g x) (byL g x) g.length=0):(x:Int)+1=vV g:=by
 rcases fnd_spec g (atL g x) (byL g x) g.length with ⟨_,h2⟩ | ⟨i,h1,_⟩
 ·have hc:=wL (x:=(x:Int)) (by omega) g hg
  have hm:=num_max g (ql g x) 0 hc.1 (fun k hk=>by
   have h3:=h2 k hk
   rw[ok_iff hg hk] at h3
   have:=of_decide_eq_false h3
   have:=hc.2 k hk
   omega)
  have hn:=num_coords (x:=(x:Int)) ⟨by omega,hx⟩ hg
  rw[show numA 0 g (ql g x)=numF g (ql g x) from rfl,hn,numA_zero,Int.zero_add,Int.one_mul] at hm
  exact hm
 ·omega
theorem snake_next (hg : ∀ m∈g,2<=m) (hx:(x:Int)<vV g) {i:Nat} (h:fndS g (atL g x) (byL g x) g.length=i+1) :
 i<g.length/\(x:Int)+1<vV g/\atL g (x+1)=(atL g x).set i ((atL g x)[i]! + (byL g x)[i]!)/\∀ k,k<g.length->(byL g (x+1))[k]! = if i<k then -(byL g x)[k]! else (byL g x)[k]! := by
 have hc:=wL (x:=(x:Int)) (by omega) g hg
 rcases fnd_spec g (atL g x) (byL g x) g.length with ⟨h1,_⟩ | ⟨j,h1,hj,hok,hmx⟩
 ·omega
 have:j=i:=by omega
 subst this
 rw[ok_iff hg hj] at hok
 have hok:=of_decide_eq_true hok
 have hmax : ∀ k,j<k->k<g.length->(ql g x)[k]! = g[k]! - 1:=fun k k1 k2=>by
  have h3:=hmx k k1 k2
  rw[ok_iff hg k2] at h3
  have:=of_decide_eq_false h3
  have:=hc.2 k k2
  omega
 have hinc:=num_inc g (ql g x) 0 j hc.1 hj hmax
 have hn:=num_coords (x:=(x:Int)) ⟨by omega,hx⟩ hg
 rw[show numA 0 g (ql g x)=numF g (ql g x) from rfl,hn] at hinc
 have hic:=incL_get (ql g x) j
 have hcl:=hc.1
 have hin:InR g (incL (ql g x) j):=by
  refine⟨by rw[incL_len,hc.1],fun k hk=>?_⟩
  rw[hic k (by omega) (by omega)]
  have:=hc.2 k hk
  have hgk:2<=g[k]! := by rw[getElem!_pos g k hk];exact hg _ (List.getElem_mem _)
  split
  ·exact this
  ·split
   ·rename_i e;subst e;omega
   ·omega
 have hlt:=num_lt hin g.length (Nat.le_refl _)
 rw[List.take_length,List.take_of_length_le (by rw[hin.1];exact Nat.le_refl _)] at hlt
 have hnum:numF g (incL (ql g x) j)=(x:Int)+1:=hinc.symm
 have hco:ql g ((x+1:Nat):Int)=incL (ql g x) j:=by
  have:=coords_num hin
  rw[hnum] at this
  simpa using this
 have hl' : (incL (ql g x) j).length=g.length:=hin.1
 -- the places and the parities
 have key : ∀ k:Nat,k<=g.length->((snS g (incL (ql g x) j) k).2=if j<k then !(snS g (ql g x) k).2 else (snS g (ql g x) k).2):=by
  intro k
  induction k with
  | zero=>intro _;simp[snS]
  | succ k ih =>
    intro hk
    have ih:=ih (by omega)
    rw[snS_odd hl' (by omega),snS_odd hc.1 (by omega),ih]
    have a1:=snS_get hl' g.length k (Nat.le_refl _) (by omega)
    have a2:=snS_get hc.1 g.length k (Nat.le_refl _) (by omega)
    rw[if_pos (by omega)] at a1 a2
    rw[a1,a2,ih,hic k (by omega) (by omega)]
    have hbk:=hc.2 k (by omega)
    have hgk:2<=g[k]! := by rw[getElem!_pos g k (by omega)];exact hg _ (List.getElem_mem _)
    rcases Nat.lt_trichotomy k j with h | h | h
    ·simp only[if_neg (show ¬ j<k by omega),if_neg (show ¬ j<k+1 by omega),if_pos h]
    ·subst h
     simp only[if_neg (Nat.lt_irrefl k),if_pos (show k<k+1 by omega),if_true]
     generalize (ql g x)[k]! = c at *
     generalize g[k]! = m at *
     cases (snS g (ql g x) k).2 with
     | true =>
       simp only[if_true]
       rw[Int.tmod_eq_emod_of_nonneg (by omega),Int.tmod_eq_emod_of_nonneg (by omega)]
       have:decide ((m-1-(c+1)) % 2=1) = !decide ((m-1-c) % 2=1):=by
        by_cases e:(m-1-c) % 2=1
        ·rw[decide_eq_true e,decide_eq_false (by omega)];rfl
        ·rw[decide_eq_false e,decide_eq_true (by omega)];rfl
       rw[this];cases decide ((m-1-c) % 2=1) <;> rfl
     | false =>
       simp only[Bool.false_eq_true,if_false]
       rw[Int.tmod_eq_emod_of_nonneg (by omega),Int.tmod_eq_emod_of_nonneg (by omega)]
       have:decide ((c+1) % 2=1) = !decide (c % 2=1):=by
        by_cases e:c % 2=1
        ·rw[decide_eq_true e,decide_eq_false (by omega)];rfl
        ·rw[decide_eq_false e,decide_eq_true (by omega)];rfl
       rw[this];cases decide (c % 2=1) <;> rfl
    ·simp only[if_pos h,if_pos (show j<k+1 by omega),if_neg (show ¬ k<j by omega),if_neg (show ¬ k=j by omega),hmax k h (by omega)]
     cases (snS g (ql g x) k).2 with
     | true =>
       simp only[Bool.not_true,Bool.false_eq_true,if_false,if_true]
       rw[show g[k]! - 1-(g[k]! - 1)=0 by omega]
       cases decide ((0:Int).tmod 2=1) <;> rfl
     | false =>
       simp only[Bool.not_false,Bool.false_eq_true,if_false,if_true]
       rw[show g[k]! - 1-0=g[k]! - 1 by omega]
       cases decide ((g[k]! - 1).tmod 2=1) <;> rfl
 refine⟨hj,by rw[<- hnum];exact hlt.2, ?_,fun k hk=>?_⟩
 ·refine ext! (by simp only[atL,hco];rw[List.length_set,snS_len,snS_len,incL_len]) (fun k hk=>?_)
  have hal' : (atL g (x+1)).length=g.length:=by unfold atL;rw[snS_len,hco,hl']
  rw[hal'] at hk
  have a1:=snS_get hl' g.length k (Nat.le_refl _) hk
  have a2:=snS_get hc.1 g.length k (Nat.le_refl _) hk
  rw[if_pos hk] at a1 a2
  have b1:atL g (x+1)=(snS g (incL (ql g x) j) g.length).1:=by unfold atL;rw[hco]
  rw[b1,a1,key k (by omega),hic k (by omega) (by omega)]
  have b2:=show (atL g x)[k]! = _ from a2
  have hal:(atL g x).length=g.length:=by simp only[atL,snS_len,hc.1]
  rcases Nat.lt_trichotomy k j with h | h | h
  ·rw[set_get_ne (by omega),b2]
   simp only[if_neg (show ¬ j<k by omega),if_pos h]
  ·subst h
   rw[set_get_self (by omega),b2,byL_get hk]
   simp only[if_neg (Nat.lt_irrefl k),if_true]
   cases (snS g (ql g x) k).2 with
   | true=>simp only[sgn,if_true];omega
   | false=>simp only[sgn,Bool.false_eq_true,if_false]
  ·rw[set_get_ne (by omega),b2]
   simp only[if_pos h,if_neg (show ¬ k<j by omega),if_neg (show ¬ k=j by omega),hmax k h hk]
   cases (snS g (ql g x) k).2 with
   | true=>simp only[Bool.not_true,Bool.false_eq_true,if_false,if_true];omega
   | false=>simp only[Bool.not_false,Bool.false_eq_true,if_false,if_true];omega
 ·rw[byL_get hk,byL_get hk,hco,key k (by omega)]
  by_cases h:j<k
  ·rw[if_pos h,if_pos h];cases (snS g (ql g x) k).2 <;> rfl
  ·rw[if_neg h,if_neg h]
end
end Go.Af.Tryz.Ne
namespace Go.Af.Tryz.Ne
open Go Go.Proofs
attribute [local irreducible] awp qo qA qN qI qG isCells qC qw qY

theorem iotaL_succ (n:Nat):yx (n+1)=yx n ++ [(n:Int)]:=by simp[yx,List.range_succ]
theorem iotaL_len (n:Nat):(yx n).length=n:=by simp[yx]
theorem quo_zero : ∀ g:List Int,quoF g 0=0
 | []=>rfl
 | m::g=>by show (quoF g 0).tdiv m=0;rw[quo_zero g,Int.zero_tdiv]
theorem coords_zero : ∀ g:List Int,ql g 0=List.replicate g.length 0
 | []=>rfl
 | m::g=>by rw[ql,quo_zero,Int.zero_tmod,coords_zero g];rfl
theorem snS_zero (g:List Int) : ∀ k:Nat,k<=g.length->snS g (List.replicate g.length 0) k=(List.replicate g.length 0,false)
 | 0,_=>rfl
 | k+1,h=>by
   simp only[snS,snS_zero g k (by omega)]
   have:(List.replicate g.length (0:Int))[k]! = 0:=by rw[getElem!_pos _ k (by simp;omega)];simp
   simp[this]
theorem atL_zero (g:List Int):atL g 0=List.replicate g.length 0:=by
 show (snS g (ql g 0) g.length).1=_
 rw[coords_zero,snS_zero g _ (Nat.le_refl _)]
theorem byL_zero (g:List Int):byL g 0=List.replicate g.length 1:=by
 refine ext! (by simp[byL]) (fun k hk=>?_)
 have hk:k<g.length:=by simpa [byL] using hk
 rw[byL_get hk]
 show sgn (snS g (ql g 0) k).2=_
 rw[coords_zero,snS_zero g _ (by omega),getElem!_pos _ k (by simpa using hk)]
 simp[sgn]
theorem sgn_b (b:Bool):sgn b = -1\/sgn b=1:=by cases b <;> simp[sgn]
theorem gq {xs:List Int} {i:Nat} (h:i<xs.length):xs[i]? = some xs[i]! := by simp[h]
def snL (g:List Int) (x:Nat):List Int:=(List.range x).map (snF g)
theorem snL_succ (g:List Int) (x:Nat):snL g (x+1)=snL g x ++ [snF g x]:=by simp[snL,List.range_succ]
theorem snL_len (g:List Int) (x:Nat):(snL g x).length=x:=by simp[snL]


abbrev snH (g:List Int) (hosts:Int) (b b1 k p q:Nat) (wr:Bool) (out a bs:List Int):List (Bool × Nat × Blk) :=
 [(true,k,rw' out),(true,p,rw' a),(true,q,rw' bs),(true,b1, .cells true 1 [.int .i64 1,sv b g.length, .int .i64 hosts]),(false,b, .cells wr 1 (ints g))]

set_option maxHeartbeats 2000000 in
theorem g35 {H:List Blk} {R:Value->List Blk->Prop} {b:Nat} {wr:Bool} {kind hosts:Int} {sides:List Int} {s:Sh} (hs:qp kind sides hosts=some s) (hb:bget H b=some (.cells wr 1 (ints sides)))
 (h : ∀ H' k,HS H none' [(true,k,rw' s.snk)] H' -> R (.tuple ⟨[sv k s.snk.length, .int .i64 0]⟩) H'):qo Tryz.prog 89 [spV kind (sv b sides.length) hosts] H R:=by
 have hok:=wP hs
 have hof:=xI hs
 have hbd:=sw_bd hok
 have hsl:=snk_len s
 obtain ⟨m,hm⟩ : ∃ m:Nat,s.hm=m:=⟨s.hm.toNat,by omega⟩
 rw[hm,Int.toNat_natCast] at hsl
 refine qj tok Tryz.call89 Tryz.func89 rfl Tryz.ntmps89 rfl (by simp) ?_
 refine vO (((HS.start H none').add (c:=false) hb (fun i p hi=>by simp at hi) (fun h=>by cases h))) (fun H1 b1 e1 l1 hs1=>?_)
 refine qc (hs1.get 0 rfl) ?_
 refine⟨_,rfl,_,rfl,_,rfl, ?_⟩
 (first | refine c25 (hs1.get 1 rfl) (Nat.le_refl _) ?_ | refine (c25 (hs1.get 1 rfl) (Nat.le_refl _) ?_).call)
 rw[hs]
 simp only[eF]
 refine And.intro (fun h=>absurd h (by decide)) (fun _=>?_)
 refine And.intro (by decide) (qg (hs1.get 0 rfl) ?_)
 refine qc (hs1.get 0 rfl) ?_
 refine⟨_,rfl, ?_⟩
 refine vcg_seqG (fun Q0 q1 q2 q3=>?_)
 cases s with
 | fat k n =>
   obtain ⟨rfl,rfl⟩:=hof
   have hof:(Sh.fat k n).of 2 [k,n]:=⟨rfl,rfl⟩
   have hsk:(Sh.fat k n).snk=yx m:=by simp only[Sh.snk,hm,Int.toNat_natCast]
   refine And.intro (fun _=>?_) (fun h=>absurd h (by decide))
   refine xG (α := List Blk × Nat × Nat) tok (fun z=>HS H none' [(true,z.2.1,rw' (yx z.2.2)),(true,b1, .cells true 1 [.int .i64 2,sv b ([k,n]).length, .int .i64 hosts]),(false,b, .cells wr 1 (ints [k,n]))] z.1/\z.2.2<=m)
    (fun | (_,k,y)=>[(1,pV b1),(5,sv k (yx y).length),(6, .int .i64 (y:Int))]) (fun | (H',_,_)=>H') (fun z=>m-z.2.2)
    (H1 ++ [rw' []],H1.length,0) ⟨hs1.virt _,Nat.zero_le _⟩ ⟨⟨_,rfl, .rfl⟩,⟨_,rfl,WkV.nil _⟩,⟨_,rfl, .rfl⟩,trivial⟩ (WkH.rfl.app _) ?_
   clear hs1
   rintro ⟨H2,k,y⟩ ⟨hs2,hy⟩
   simp only at hs2 hy
   have hil:=iotaL_len y
   refine qc (hs2.get 1 rfl) ?_
   refine⟨_,rfl,_,rfl,_,rfl, ?_⟩
   (first | refine c59 hok hof (hs2.get 2 rfl) (Nat.le_refl _) ?_ | refine (c59 hok hof (hs2.get 2 rfl) (Nat.le_refl _) ?_).call)
   rw[hm]
   refine And.intro (fun hc=>?_) (fun hc=>?_)
   ·have hlt:y<m:=by simpa using hc
    refine And.intro (by decide) ?_
    refine xx hs2 (fun H3 j e3 l3 hs3=>?_)
    refine And.intro rfl ?_
    refine app_hs hs3 1 rfl (by decide) (hs3.get 0 rfl) rfl rfl (by simp) (by simp only;omega) (fun H4 k' e4 l4 hs4=>?_)
    refine Or.inl ⟨((y+1:Nat):Int),by simp,by unfold I64;omega, ?_⟩
    refine⟨(H4,k',y+1),⟨?_,hlt⟩,by simp only;omega,Or.inl ⟨⟨rfl,congrArg (fun z=>some (sv k' z)) (by rw[iotaL_succ];simp),rfl,trivial⟩,rfl⟩⟩
    simp only[iotaL_succ,rw',wo]
    exact hs4.tail
   ·have:y=m:=by simp at hc;omega
    subst this
    have:=h _ k (by rw[hsk];exact hs2.pick [0] (by decide) rfl)
    rw[hsk] at this
    refine q3 _ _ ?_
    exact this
 | fly k n =>
   obtain ⟨rfl,rfl⟩:=hof
   have hof:(Sh.fly k n).of 3 [k,n]:=⟨rfl,rfl⟩
   have hsk:(Sh.fly k n).snk=yx m:=by simp only[Sh.snk,hm,Int.toNat_natCast]
   refine And.intro (fun _=>?_) (fun h=>absurd h (by decide))
   refine xG (α := List Blk × Nat × Nat) tok (fun z=>HS H none' [(true,z.2.1,rw' (yx z.2.2)),(true,b1, .cells true 1 [.int .i64 3,sv b ([k,n]).length, .int .i64 hosts]),(false,b, .cells wr 1 (ints [k,n]))] z.1/\z.2.2<=m)
    (fun | (_,k,y)=>[(1,pV b1),(5,sv k (yx y).length),(6, .int .i64 (y:Int))]) (fun | (H',_,_)=>H') (fun z=>m-z.2.2)
    (H1 ++ [rw' []],H1.length,0) ⟨hs1.virt _,Nat.zero_le _⟩ ⟨⟨_,rfl, .rfl⟩,⟨_,rfl,WkV.nil _⟩,⟨_,rfl, .rfl⟩,trivial⟩ (WkH.rfl.app _) ?_
   clear hs1
   rintro ⟨H2,k,y⟩ ⟨hs2,hy⟩
   simp only at hs2 hy
   have hil:=iotaL_len y
   refine qc (hs2.get 1 rfl) ?_
   refine⟨_,rfl,_,rfl,_,rfl, ?_⟩
   (first | refine c59 hok hof (hs2.get 2 rfl) (Nat.le_refl _) ?_ | refine (c59 hok hof (hs2.get 2 rfl) (Nat.le_refl _) ?_).call)
   rw[hm]
   refine And.intro (fun hc=>?_) (fun hc=>?_)
   ·have hlt:y<m:=by simpa using hc
    refine And.intro (by decide) ?_
    refine xx hs2 (fun H3 j e3 l3 hs3=>?_)
    refine And.intro rfl ?_
    refine app_hs hs3 1 rfl (by decide) (hs3.get 0 rfl) rfl rfl (by simp) (by simp only;omega) (fun H4 k' e4 l4 hs4=>?_)
    refine Or.inl ⟨((y+1:Nat):Int),by simp,by unfold I64;omega, ?_⟩
    refine⟨(H4,k',y+1),⟨?_,hlt⟩,by simp only;omega,Or.inl ⟨⟨rfl,congrArg (fun z=>some (sv k' z)) (by rw[iotaL_succ];simp),rfl,trivial⟩,rfl⟩⟩
    simp only[iotaL_succ,rw',wo]
    exact hs4.tail
   ·have:y=m:=by simp at hc;omega
    subst this
    have:=h _ k (by rw[hsk];exact hs2.pick [0] (by decide) rfl)
    rw[hsk] at this
    refine q3 _ _ ?_
    exact this
 | grid g =>
   obtain ⟨rfl,rfl⟩:=hof
   refine And.intro (fun h=>absurd h (by decide)) (fun _=>?_)
   refine q1 _ _ ?_
   clear q1 q2 q3 Q0
   have hok' := hok
   obtain ⟨hl1,hl2,hmm,hp⟩:=hok'
   have hg2 : ∀ m∈g,2<=m:=fun m h=>(hmm m h).1
   have hgi : ∀ i,i<g.length->2<=g[i]! /\ g[i]! <= 16:=fun i hi=>by rw[getElem!_pos g i hi];exact hmm _ (List.getElem_mem hi)
   refine And.intro (by decide) (qg (hs1.get 0 rfl) ?_)
   refine qc (hs1.get 0 rfl) ?_
   refine⟨_,rfl, ?_⟩
   refine⟨by decide,g.length,g.length,⟨rfl,rfl⟩,⟨Nat.le_refl _,by simp only;omega⟩,ints (List.replicate g.length 0),by simp[vG,ints,qF], ?_⟩
   refine vO hs1 (fun H2 p e2 l2 hs2=>?_)
   refine And.intro (by decide) (qg (hs2.get 1 rfl) ?_)
   refine qc (hs2.get 1 rfl) ?_
   refine⟨_,rfl, ?_⟩
   refine⟨by decide,g.length,g.length,⟨rfl,rfl⟩,⟨Nat.le_refl _,by simp only;omega⟩,ints (List.replicate g.length 0),by simp[vG,ints,qF], ?_⟩
   refine vO hs2 (fun H3 q e3 l3 hs3=>?_)
   refine qJ (α := XS66) tok (fun z=>HS H none' [(true,q,rw' z.xs),(true,p,rw' (List.replicate g.length 0)),(true,b1, .cells true 1 [.int .i64 1,sv b g.length, .int .i64 hosts]),(false,b, .cells wr 1 (ints g))] z.H/\z.xs.length=g.length/\(∀ y:Nat,y<z.i->z.xs[y]! = 1)/\z.i<=g.length)
    (fun | ⟨_,_,i⟩=>[(1,pV b1),(5, .slice none 0 0),(7,sv p g.length),(8,sv q g.length),(9, .int .i64 (i:Int))]) (fun | ⟨H',_,_⟩=>H') (fun z=>g.length-z.i)
    ⟨H3,List.replicate g.length 0,0⟩ ⟨hs3,by simp,fun y hy=>absurd hy (Nat.not_lt_zero y),Nat.zero_le _⟩ (Or.inl ⟨⟨rfl,rfl,rfl,rfl,rfl,trivial⟩,rfl⟩) ?_
   clear hs1 hs2 hs3
   rintro ⟨H3,bs,i⟩ ⟨hs3,hbl,hbs,hi⟩
   simp only at hs3 hbl hbs hi
   refine And.intro (fun hc=>?_) (fun hc=>?_)
   ·have hlt:i<g.length:=by simpa using hc
    refine qZ (fun K0 hK0=>?_)
    refine qg (hs3.get 0 rfl) ⟨i,rfl,hlt, ?_⟩
    simp only[putK,vops,vM,wS,Nat.blt]
    refine ww hs3 0 rfl (ints (bs.set i 1)) rfl rfl (by simp;omega) (zx _ _ _) (fun H4 l4 hs4=>?_)
    refine hK0 _ _ ?_
    clear hK0 K0
    refine Or.inl ⟨((i+1:Nat):Int),by simp,by unfold I64;omega, ?_⟩
    exact⟨⟨H4,bs.set i 1,i+1⟩,⟨hs4,by simp[hbl],xs_set (f:=fun _=>1) hbl hlt hbs,hlt⟩,by simp only;omega,Or.inl ⟨⟨rfl,rfl,rfl,rfl,rfl,trivial⟩,rfl⟩⟩
   have hie:i=g.length:=by simp at hc;omega
   subst hie
   have hb1:bs=byL g 0:=by
    refine ext! (by simp[byL,hbl]) (fun k hk=>?_)
    rw[hbs k (by omega),byL_zero,getElem!_pos _ k (by simp;omega)];simp
   subst hb1
   rw[<- atL_zero] at hs3
   have hmp:vV g=m:=hm
   clear hbl hbs
   refine xG (α := List Blk × Nat × Nat) tok (fun z=>HS H none' (snH g hosts b b1 z.2.1 p q wr (snL g z.2.2) (atL g z.2.2) (byL g z.2.2)) z.1/\z.2.2<m)
    (fun | (_,k,x)=>[(1,pV b1),(5,sv k (snL g x).length),(7,sv p g.length),(8,sv q g.length)]) (fun | (H',_,_)=>H') (fun z=>m-z.2.2)
    (H3 ++ [rw' []],H3.length,0) ⟨(hs3.virt _).pick [0,2,1,3,4] (by decide) rfl,by simp only;omega⟩ ⟨⟨_,rfl, .rfl⟩,⟨_,rfl,WkV.nil _⟩,⟨_,rfl, .rfl⟩,⟨_,rfl, .rfl⟩,trivial⟩ (WkH.rfl.app _) ?_
   clear hs3
   rintro ⟨H4,k,x⟩ ⟨hs4,hx⟩
   simp only at hs4 hx
   have hxp:(x:Int)<vV g:=by omega
   have hci:=wL (x:=(x:Int)) (by omega) g hg2
   have hat:InR g (atL g x):=snS_in hci g.length (Nat.le_refl _)
   have hbyl:(byL g x).length=g.length:=by simp[byL]
   have hby : ∀ i,i<g.length->(byL g x)[i]! = -1\/(byL g x)[i]! = 1:=fun i hi=>by rw[byL_get hi];exact sgn_b _
   have hsn:=snL_len g x
   refine qc (hs4.get 3 rfl) ?_
   refine⟨_,rfl,_,rfl,_,rfl, ?_⟩
   (first | refine c68 hat.1 (by omega) (zn hat hp) (hs4.get 4 rfl) (hs4.get 1 rfl) ?_ | refine (c68 hat.1 (by omega) (zn hat hp) (hs4.get 4 rfl) (hs4.get 1 rfl) ?_).call)
   refine And.intro (by decide) ?_
   refine xx hs4 (fun H5 j e5 l5 hs5=>?_)
   refine And.intro rfl ?_
   refine app_hs hs5 1 rfl (by decide) (hs5.get 0 rfl) rfl rfl (by simp) (by simp only;omega) (fun H6 k' e6 l6 hs6=>?_)
   have eo:snL g (x+1)=snL g x ++ [numF g (atL g x)]:=by rw[snL_succ];rfl
   have hs7:HS H none' (snH g hosts b b1 k' p q wr (snL g (x+1)) (atL g x) (byL g x)) H6:=by
    rw[eo];simp only[snH,rw',wo];exact hs6.tail
   clear hs4 hs5 hs6
   refine Or.inl ⟨(g.length:Int)-1,rfl,by unfold I64;omega, ?_⟩
   refine qJ (α := Nat) tok (fun i=>i<=g.length/\fndS g (atL g x) (byL g x) g.length=fndS g (atL g x) (byL g x) i)
    (fun i=>[(1,pV b1),(5,sv k' (snL g (x+1)).length),(7,sv p g.length),(8,sv q g.length),(10, .int .i64 ((i:Int)-1))]) (fun _=>H6) (fun i=>i)
    g.length ⟨Nat.le_refl _,rfl⟩ (Or.inl ⟨⟨rfl,congrArg (fun z=>some (sv k' z)) (by rw[eo];simp),rfl,rfl,rfl,trivial⟩,rfl⟩) ?_
   rintro i ⟨hi,hfi⟩
   refine qO tok mx [0,1,3,7,7,31,63,7,7,391,903,2047,4095,8191,16383,16383,65535,131071,16383,16383,802815,1851391,4194303,16383,8404991,16383,58736639,125845503,268435455,536870911,1073741823] [false,false,false,false,false,false,false,true,true,true,true,false,false,false,false,false,false,false,true,true,true,true,false,true,true,true,true,true,false,false,false] [0,1,2,3,4,5,6,7,8,9,10,11,12,13,14,15,16,17,18,19,20,21,22,23,24,25,26,27,28,29,30] (by kernel_rfl) ?_
   refine vT (fun K0 hK0=>?_)
   refine And.intro (fun hge=>?_) (fun hge=>?_)
   ·have hge:(0:Int)<=(i:Int)-1:=of_decide_eq_true hge
    obtain ⟨i,rfl⟩ : ∃ j,i=j+1:=⟨i-1,by omega⟩
    have hil:i<g.length:=by omega
    have ha:=hat.2 i hil
    have hb' := hby i hil
    have hgb:=hgi i hil
    refine And.intro (fun _=>?_) (fun h=>absurd h (by decide))
    refine And.intro (fun _=>?_) (fun h=>absurd h (by decide))
    refine qg (hs7.get 1 rfl) ⟨i,by omega,by omega, ?_⟩
    refine And.intro (fun _=>?_) (fun h=>absurd h (by decide))
    refine qc (hs7.get 1 rfl) (qH (i) ((atL g x)[i]!) (by simp) (gq (by have:=hat.1;omega)) ?_)
    refine And.intro (fun _=>?_) (fun h=>absurd h (by decide))
    refine And.intro (fun _=>?_) (fun h=>absurd h (by decide))
    refine And.intro (fun _=>?_) (fun h=>absurd h (by decide))
    refine qg (hs7.get 2 rfl) ⟨i,by omega,by omega, ?_⟩
    refine And.intro (fun _=>?_) (fun h=>absurd h (by decide))
    refine qc (hs7.get 2 rfl) (qH (i) ((byL g x)[i]!) (by simp) (gq (by have:=hbyl;omega)) ?_)
    refine And.intro (fun _=>?_) (fun h=>absurd h (by decide))
    refine Or.inl ⟨(atL g x)[i]! + (byL g x)[i]!,rfl,by unfold I64;omega, ?_⟩
    refine And.intro (fun _=>?_) (fun h=>absurd h (by decide))
    refine And.intro (fun _=>?_) (fun h=>absurd h (by decide))
    have hfs:fndS g (atL g x) (byL g x) (i+1)=if okI g (atL g x) (byL g x) i then i+1 else fndS g (atL g x) (byL g x) i:=rfl
    refine And.intro (fun hlo=>?_) (fun hlo=>?_)
    ·-- not below 0
     have hlo : ¬ (atL g x)[i]! + (byL g x)[i]! < 0:=of_decide_eq_false hlo
     refine And.intro (fun _=>?_) (fun h=>absurd h (by decide))
     refine And.intro (fun _=>?_) (fun h=>absurd h (by decide))
     refine qg (hs7.get 1 rfl) ⟨i,by omega,by omega, ?_⟩
     refine And.intro (fun _=>?_) (fun h=>absurd h (by decide))
     refine qc (hs7.get 1 rfl) (qH (i) ((atL g x)[i]!) (by simp) (gq (by have:=hat.1;omega)) ?_)
     refine And.intro (fun _=>?_) (fun h=>absurd h (by decide))
     refine And.intro (fun _=>?_) (fun h=>absurd h (by decide))
     refine And.intro (fun _=>?_) (fun h=>absurd h (by decide))
     refine qg (hs7.get 2 rfl) ⟨i,by omega,by omega, ?_⟩
     refine And.intro (fun _=>?_) (fun h=>absurd h (by decide))
     refine qc (hs7.get 2 rfl) (qH (i) ((byL g x)[i]!) (by simp) (gq (by have:=hbyl;omega)) ?_)
     refine And.intro (fun _=>?_) (fun h=>absurd h (by decide))
     refine Or.inl ⟨(atL g x)[i]! + (byL g x)[i]!,rfl,by unfold I64;omega, ?_⟩
     refine And.intro (fun _=>?_) (fun h=>absurd h (by decide))
     refine And.intro (by decide) (qg (hs7.get 3 rfl) ?_)
     refine And.intro (fun _=>?_) (fun h=>absurd h (by decide))
     refine qc (hs7.get 3 rfl) ?_
     refine⟨_,rfl, ?_⟩
     refine And.intro (fun _=>?_) (fun h=>absurd h (by decide))
     refine And.intro (fun _=>?_) (fun h=>absurd h (by decide))
     refine qg (hs7.get 4 rfl) ⟨i,by omega,by omega, ?_⟩
     refine And.intro (fun _=>?_) (fun h=>absurd h (by decide))
     refine qc (hs7.get 4 rfl) (qH (i) ((g)[i]!) (by simp) (gq (by have:=hil;omega)) ?_)
     refine And.intro (fun _=>?_) (fun h=>absurd h (by decide))
     refine And.intro (fun _=>?_) (fun h=>absurd h (by decide))
     refine hK0 _ _ ?_
     clear hK0 K0
     refine And.intro (fun hup=>?_) (fun hup=>?_)
     ·have hup:g[i]! <= (atL g x)[i]! + (byL g x)[i]! := of_decide_eq_true hup
      have hno:okI g (atL g x) (byL g x) i=false:=by unfold okI;rw[decide_eq_false (show ¬ (atL g x)[i]! + (byL g x)[i]! < g[i]! by omega),Bool.and_false]
      rw[hfs,hno,if_neg (by decide)] at hfi
      refine Or.inl ⟨(i:Int)-1,by omega,by unfold I64;omega, ?_⟩
      exact⟨i,⟨by omega,hfi⟩,by omega,Or.inl ⟨⟨rfl,rfl,rfl,rfl,rfl,trivial⟩,rfl⟩⟩
     ·have hup : ¬ g[i]! <= (atL g x)[i]! + (byL g x)[i]! := of_decide_eq_false hup
      have hyes:okI g (atL g x) (byL g x) i=true:=by unfold okI;rw[decide_eq_true (show 0<=(atL g x)[i]! + (byL g x)[i]! by omega),decide_eq_true (show (atL g x)[i]! + (byL g x)[i]! < g[i]! by omega)];rfl
      rw[hfs,if_pos hyes] at hfi
      obtain ⟨_,hx1,hat1,hby1⟩:=snake_next hg2 hxp hfi
      refine And.intro (fun h=>absurd (of_decide_eq_true h) (by omega)) (fun _=>?_)
      refine qO tok mx [0,0,0,0,12,28,0,0,192,448,1020,2047,4095] [false,false,false,false,false,false,true,true,true,true,false,false,false] [0,1,2,3,4,5,6,7,8,9,10,11,12] (by kernel_rfl) ?_
      refine vT (fun K0 hK0=>?_)
      refine qg (hs7.get 1 rfl) ⟨i,by omega,by omega, ?_⟩
      refine qc (hs7.get 1 rfl) (qH (i) ((atL g x)[i]!) (by simp) (gq (by have:=hat.1;omega)) ?_)
      refine qg (hs7.get 2 rfl) ⟨i,by omega,by omega, ?_⟩
      refine qc (hs7.get 2 rfl) (qH (i) ((byL g x)[i]!) (by simp) (gq (by have:=hbyl;omega)) ?_)
      refine Or.inl ⟨(atL g x)[i]! + (byL g x)[i]!,rfl,by unfold I64;omega, ?_⟩
      refine qg (hs7.get 1 rfl) ⟨i,by omega,by omega, ?_⟩
      have hal:=hat.1
      simp only[putK,vopsO,wX,stepQ,bAt,vM,wS,Nat.blt]
      refine ww hs7 1 rfl (ints ((atL g x).set i ((atL g x)[i]! + (byL g x)[i]!))) rfl rfl (by simp;omega) (zx _ _ _) (fun H8 l8 hs8=>?_)
      rw[<- hat1] at hs8
      refine hK0 _ _ ?_
      clear hK0 K0
      refine Or.inl ⟨((i+1:Nat):Int),by omega,by unfold I64;omega, ?_⟩
      refine qJ (α := XS66) tok (fun z=>HS H none' (snH g hosts b b1 k' p q wr (snL g (x+1)) (atL g (x+1)) z.xs) z.H/\z.xs.length=g.length/\(∀ y:Nat,y<g.length->z.xs[y]! = if i<y/\y<z.i then -(byL g x)[y]! else (byL g x)[y]!)/\i<z.i/\z.i<=g.length)
       (fun | ⟨_,_,y⟩=>[(1,pV b1),(5,sv k' (snL g (x+1)).length),(7,sv p g.length),(8,sv q g.length),(11, .int .i64 (y:Int))]) (fun | ⟨H',_,_⟩=>H') (fun z=>g.length-z.i)
       ⟨H8,byL g x,i+1⟩ ⟨hs8,hbyl,fun y hy=>by rw[if_neg (by simp only;omega)],by simp only;omega,by simp only;omega⟩ (Or.inl ⟨⟨rfl,rfl,rfl,rfl,rfl,trivial⟩,rfl⟩) ?_
      clear hs8 hs7
      rintro ⟨H9,ys,y⟩ ⟨hs9,hyl,hys,hiy,hyg⟩
      simp only at hs9 hyl hys hiy hyg
      refine And.intro (fun hc=>?_) (fun hc=>?_)
      ·have hlt:y<g.length:=by simpa using hc
       have hyy:=hys y hlt
       rw[if_neg (by omega)] at hyy
       have hyb:=hby y hlt
       refine qZ (fun K0 hK0=>?_)
       refine qg (hs9.get 2 rfl) ⟨y,by omega,by omega, ?_⟩
       refine qc (hs9.get 2 rfl) (qH (y) ((ys)[y]!) (by simp) (gq (by have:=hyl;omega)) ?_)
       refine Or.inl ⟨-ys[y]!,by omega,by unfold I64;omega, ?_⟩
       refine qg (hs9.get 2 rfl) ⟨y,by omega,by omega, ?_⟩
       simp only[putK,vops,vM,wS,Nat.blt]
       refine ww hs9 2 rfl (ints (ys.set y (-ys[y]!))) rfl rfl (by simp;omega) (zx _ _ _) (fun HA lA hsA=>?_)
       refine hK0 _ _ ?_
       clear hK0 K0
       refine Or.inl ⟨((y+1:Nat):Int),by simp,by unfold I64;omega, ?_⟩
       refine⟨⟨HA,ys.set y (-ys[y]!),y+1⟩,⟨hsA,by simp[hyl],fun w hw=>?_,by simp only;omega,hlt⟩,by simp only;omega,Or.inl ⟨⟨rfl,rfl,rfl,rfl,rfl,trivial⟩,rfl⟩⟩
       simp only
       by_cases hwy:w=y
       ·subst hwy
        rw[set_get_self (by omega),if_pos (by omega),hyy]
       ·rw[set_get_ne hwy,hys w hw]
        by_cases h1:i<w/\w<y
        ·rw[if_pos h1,if_pos (by omega)]
        ·rw[if_neg h1,if_neg (by omega)]
      ·have:y=g.length:=by simp at hc;omega
       subst this
       have hye:ys=byL g (x+1):=ext! (by simp[byL,hyl]) (fun w hw=>by
        rw[hby1 w (by omega),hys w (by omega)]
        by_cases h1:i<w
        ·rw[if_pos h1,if_pos ⟨h1,by omega⟩]
        ·rw[if_neg h1,if_neg (by omega)])
       subst hye
       exact⟨(H9,k',x+1),⟨hs9,by simp only;omega⟩,by simp only;omega,Or.inl ⟨⟨rfl,rfl,rfl,rfl,trivial⟩,rfl⟩⟩
    ·-- below 0
     have hlo:(atL g x)[i]! + (byL g x)[i]! < 0:=of_decide_eq_true hlo
     have hno:okI g (atL g x) (byL g x) i=false:=by unfold okI;rw[decide_eq_false (show ¬ 0<=(atL g x)[i]! + (byL g x)[i]! by omega),Bool.false_and]
     rw[hfs,hno,if_neg (by decide)] at hfi
     repeat refine And.intro (fun h=>absurd h (by decide)) (fun _=>?_)
     refine And.intro (fun _=>?_) (fun h=>absurd h (by decide))
     refine hK0 _ _ ?_
     clear hK0 K0
     refine And.intro (fun _=>?_) (fun h=>absurd h (by decide))
     refine Or.inl ⟨(i:Int)-1,by omega,by unfold I64;omega, ?_⟩
     exact⟨i,⟨by omega,hfi⟩,by omega,Or.inl ⟨⟨rfl,rfl,rfl,rfl,rfl,trivial⟩,rfl⟩⟩
   ·-- all dimensions are at their ends
    have hge : ¬ (0:Int)<=(i:Int)-1:=of_decide_eq_false hge
    have:i=0:=by omega
    subst this
    have hend:=snake_end hg2 hxp hfi
    repeat refine And.intro (fun h=>absurd h (by decide)) (fun _=>?_)
    refine hK0 _ _ ?_
    clear hK0 K0
    refine And.intro (fun h=>absurd h (by decide)) (fun _=>?_)
    refine And.intro (fun _=>?_) (fun h=>absurd h (by decide))
    have ef:snL g (x+1)=(Sh.grid g).snk:=by
     have:(vV g).toNat=x+1:=by omega
     simp only[snL,Sh.snk,this]
    rw[ef] at hs7
    have:=h _ _ (hs7.pick [0] (by decide) rfl)
    rw[<- ef] at this
    exact this
end Go.Af.Tryz.Ne
namespace Go.Af.Tryz.Ne
open Go

section
variable {g:List Int}
theorem atL_in (hg : ∀ m∈g,2<=m) (x:Nat):InR g (atL g x):=snS_in (wL (x:=(x:Int)) (by omega) g hg) g.length (Nat.le_refl _)
theorem snF_in (hg : ∀ m∈g,2<=m) (x:Nat):0<=snF g x/\snF g x<vV g:=by
 have h:=num_lt (atL_in hg x) g.length (Nat.le_refl _)
 rw[List.take_length,List.take_of_length_le (by rw[(atL_in hg x).1];exact Nat.le_refl _)] at h
 exact h
end
theorem snk_len' {s:Sh} (hok:s.ok) {m:Nat} (hm:s.hm=m):s.snk.length=m:=by rw[snk_len,hm];rfl
theorem snk_grid {g:List Int} {i:Nat} (hi:i<(Sh.grid g).snk.length):(Sh.grid g).snk[i]! = snF g i:=by
 rw[getElem!_pos _ i hi];simp[Sh.snk]
theorem iota_get {m i:Nat} (hi:i<m):(yx m)[i]! = i:=by
 rw[getElem!_pos _ i (by simp[yx,hi])];simp[yx]
theorem snk_in {s:Sh} (hok:s.ok) {m:Nat} (hm:s.hm=m) {i:Nat} (hi:i<m):0<=s.snk[i]! /\ s.snk[i]! < m:=by
 have hl:=snk_len' hok hm
 cases s with
 | grid g =>
   have hg : ∀ m∈g,2<=m:=fun m h=>(hok.2.2.1 m h).1
   rw[snk_grid (by omega)]
   have:=snF_in hg i
   have hm:vV g=m:=hm
   omega
 | fat k n =>
   have e:(Sh.fat k n).snk=yx m:=by simp only[Sh.snk,hm,Int.toNat_natCast]
   rw[e,iota_get hi];omega
 | fly k n =>
   have e:(Sh.fly k n).snk=yx m:=by simp only[Sh.snk,hm,Int.toNat_natCast]
   rw[e,iota_get hi];omega
end Go.Af.Tryz.Ne
