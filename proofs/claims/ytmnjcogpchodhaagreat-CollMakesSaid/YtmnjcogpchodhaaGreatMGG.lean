/- A part of the proof. -/
import Derived.Test.YtmnjcogpchodhaaGreatMGF
import Derived.Test.YtmnjcogpchodhaaGreatMCA
set_option linter.all false
set_option maxHeartbeats 4000000
set_option maxRecDepth 100000
namespace Go.Af.Tryz
open Go Go.Proofs
attribute [local irreducible] awp qj qI qK qE qm isCells ql qi qB qx qh roundEnd

instance:Inhabited Fi:=⟨⟨0,0,0,0⟩⟩
end Go.Af.Tryz
namespace Go.Af.Tryz
open Go Go.Proofs
attribute [local irreducible] awp qj qI qK qE qm isCells ql qi qB qx qh roundEnd

section
variable {H0 H H' : List Blk} {o:Nat->Prop} {L:List (Bool × Nat × Blk)}
theorem XN (h:HS H0 o L H) (i:Nat) {size bytes b n m j c2 z:Nat} {wr:Bool} {xs us:List Value} {K:Value->List Blk->Prop} (hi:L[i]? = some (true,b, .cells true size xs)) (hsz:0<size) (hj:bget H j=some (.cells wr z us)) (hm:0<m) (hul:us.length=m*size) (hone:us.all vK=true)
 (hxl:xs.length=n*size) (hby:(n+m)*(bytes+1)<=70368744177664)
 (k : ∀ (H' : List Blk) (b' : Nat),b' = H.length->H'.length=b' + 1->HS H0 o (L.set i (true,b', .cells true size (xs++us))) H' -> K (.slice (some ⟨b',0,none⟩) (n+m) (n+m)) H') :
 qB H size bytes (.slice (some ⟨b,0,none⟩) n n) (.slice (some ⟨j,0,none⟩) m c2) K:=by
 unfold qB;refine⟨hsz, ?_⟩;simp only[Vq,hj];refine⟨.inr (by omega),us,by rw[List.drop_zero,List.take_of_length_le (by omega)],hone, ?_⟩;refine .inr ⟨hm, ?_⟩;have hb:=h.get i hi;have hbl:=qJ hb;simp only[hb];refine⟨trivial, .inr ⟨by omega,hby, .inr (by omega),_,rfl, ?_⟩⟩;have e:List.take (n*size) (List.drop 0 xs)++us=xs++us:=by rw[List.drop_zero,List.take_of_length_le (by omega)]
 rw[e];refine VO hbl fun H1 h1 h2 h3=>Um fun H' k1 k2 k3=>?_
 rw[h1] at k1 k2 k3 ⊢;refine k H' H.length rfl k1 ?_;have hd:=h.set (B' := .dead) i hi h1 h2 h3;have hn:=hd.new (B := .cells true size (xs++us)) (by rw[k1,h1]) (by rw[h1];exact k2) (by rw[h1];exact k3);rw[h1] at hn;have hlt:i<L.length:=(List.getElem?_eq_some_iff.1 hi).1;refine⟨fun {p c d D} hp=>?_,fun {p q x y} hp hq he=>?_,hn.u⟩
 ·by_cases hip:i=p
  ·subst hip
   rw[List.getElem?_set_self hlt] at hp;simp at hp;obtain ⟨rfl,rfl,rfl⟩:=hp;exact⟨k2,fun _=>.inr h.le⟩
  ·rw[List.getElem?_set_ne hip] at hp
   exact hn.g (i:=p+1) (by simp[List.getElem?_set_ne hip,hp])
 ·have old : ∀ {p:Nat} {x:Bool × Nat × Blk},p≠i->(L.set i (true,H.length, .cells true size (xs++us)))[p]? = some x->L[p]? = some x:=fun {p x} hpi hp=>by
   rw[List.getElem?_set_ne (fun e=>hpi e.symm)] at hp;exact hp
  have self : ∀ {x:Bool × Nat × Blk},(L.set i (true,H.length, .cells true size (xs++us)))[i]? = some x->x.2.1=H.length:=fun {x} hp=>by
   rw[List.getElem?_set_self hlt] at hp;cases hp;rfl
  have low : ∀ {p:Nat} {x:Bool × Nat × Blk},L[p]? = some x->x.2.1<H.length:=fun {p x} hp=>by
   obtain ⟨c,b',B'⟩:=x;exact qJ (h.g hp).1
  by_cases hpi:p=i
  ·by_cases hqi:q=i
   ·rw[hpi,hqi]
   ·subst hpi
    have:=low (old hqi hq);rw[<- he,self hp] at this;omega
  ·by_cases hqi:q=i
   ·subst hqi
    have:=low (old hpi hp);rw[he,self hq] at this;omega
   ·exact h.nd (old hpi hp) (old hqi hq) he
end
theorem qk0 (xs:List Int):(ints xs).all vK=true:=by
 rw[List.all_eq_true];intro v hv;obtain ⟨x,_,rfl⟩:=List.mem_map.1 hv;rfl
end Go.Af.Tryz
