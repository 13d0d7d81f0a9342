/- A part of the proof. -/
import Derived.Test.YtmnjcogpchodhaaGreatMGF
import Derived.Test.YtmnjcogpchodhaaGreatMCA
set_option linter.all false
set_option maxHeartbeats 4000000
set_option maxRecDepth 100000
namespace Go.Af.Tryz
open Go Go.Proofs
attribute [local irreducible] awp qj qJ qL qC qo isCells qx qp qA qw qh roundEnd

instance:Inhabited Fi:=⟨⟨0,0,0,0⟩⟩
theorem UB : ∀ (l:List Fi) (i k:Nat),i<l.length->k<4->(fisC l)[4*i+k]? = (fiC l[i]!)[k]?
 | [],i,k,hi,hk=>by simp at hi
 | s::r,0,k,hi,hk=>by
   show (fiC s++fisC r)[4*0+k]? = _;rw[List.getElem?_append_left (by simp;omega)];simp
 | s::r,i+1,k,hi,hk=>by
   show (fiC s++fisC r)[4*(i+1)+k]? = _;rw[List.getElem?_append_right (by simp;omega)];have e:4*(i+1)+k-(fiC s).length=4*i+k:=by simp;omega
   rw[e,UB r i k (by simpa using hi) hk];simp
theorem Ld_fi {l:List Fi} {i k:Nat} {v:Value} {K:Value->Prop} (hi:i<l.length) (hk:k<4) (hv:(fiC l[i]!)[k]? = some v) (h:K v):Ld (fisC l) (0+i*4+k) K :=
 ⟨v,by rw[show 0+i*4+k=4*i+k by omega,UB l i k hi hk,hv],h⟩
theorem seg_fi {l:List Fi} {i:Nat} {K:List Value->Prop} (hi:i<l.length) (h:K (fiC l[i]!)):segK (fisC l) (0+i*4) 4 K :=
 Ld_fi (k:=0) hi (by decide) rfl (Ld_fi (k:=1) hi (by decide) rfl (Ld_fi (k:=2) hi (by decide) rfl (Ld_fi (k:=3) hi (by decide) rfl h)))
theorem hal_len {t:Tk} (kt:TkOk t) (r:Int):(finF t r).length<=10000:=by
 have ha:(spnF t 0 (blkF t)).length<=10000:=by
  have:=ww kt;rw[vU];omega
 have ho:(spnF t r (r+1)).length<=10000:=by
  have:=kt.pa;rw[vU,Int.add_mul];omega
 have h8:(spnF t t.pr (2*t.pr)).length<=10000:=by
  have:=kt.pr;have:=kt.pa;have:=yJ kt (g:=2*t.pr) (by omega) (by omega);have:=yJ kt (g:=t.pr) (by omega) (by omega);have q:2*t.pr*t.pa<=128*16:=Int.mul_le_mul (by omega) kt.pa.2 (by omega) (by omega);rw[vU];omega
 have h11:=fun e11:t.op=11=>hal_le kt r (d:=t.sz.length) (e:=0) (kt.dims e11) (by omega) 0
 simp only[List.length_append] at h11;unfold finF
 repeat' split
 all_goals first
  | (rw[yl];assumption)
  | (rw[uT];assumption)
  | omega
  | simp
end Go.Af.Tryz
namespace Go.Af.Tryz
open Go Go.Proofs
attribute [local irreducible] awp qj qJ qL qC qo isCells qx qp qA qw qh roundEnd

section
variable {H0 H H' : List Blk} {o:Nat->Prop} {L:List (Bool × Nat × Blk)}
theorem WM (h:HS H0 o L H) (i:Nat) {size bytes b n m j c2 z:Nat} {wr:Bool} {xs us:List Value} {K:Value->List Blk->Prop} (hi:L[i]? = some (true,b, .cells true size xs)) (hsz:0<size) (hj:bget H j=some (.cells wr z us)) (hm:0<m) (hul:us.length=m*size) (hone:us.all qU=true)
 (hxl:xs.length=n*size) (hby:(n+m)*(bytes+1)<=70368744177664)
 (k : ∀ (H' : List Blk) (b' : Nat),b' = H.length->H'.length=b' + 1->HS H0 o (L.set i (true,b', .cells true size (xs++us))) H' -> K (.slice (some ⟨b',0,none⟩) (n+m) (n+m)) H') :
 qA H size bytes (.slice (some ⟨b,0,none⟩) n n) (.slice (some ⟨j,0,none⟩) m c2) K:=by
 unfold qA;refine⟨hsz, ?_⟩;simp only[Qr,hj];refine⟨.inr (by omega),us,by rw[List.drop_zero,List.take_of_length_le (by omega)],hone, ?_⟩;refine .inr ⟨hm, ?_⟩;have hb:=h.get i hi;have hbl:=qI hb;simp only[hb];refine⟨trivial, .inr ⟨by omega,hby, .inr (by omega),_,rfl, ?_⟩⟩;have e:List.take (n*size) (List.drop 0 xs)++us=xs++us:=by rw[List.drop_zero,List.take_of_length_le (by omega)]
 rw[e];refine wY hbl fun H1 h1 h2 h3=>ZJ fun H' k1 k2 k3=>?_
 rw[h1] at k1 k2 k3 ⊢;refine k H' H.length rfl k1 ?_;have hd:=h.set (B' := .dead) i hi h1 h2 h3;have hn:=hd.new (B := .cells true size (xs++us)) (by rw[k1,h1]) (by rw[h1];exact k2) (by rw[h1];exact k3);rw[h1] at hn;have hlt:i<L.length:=(List.getElem?_eq_some_iff.1 hi).1;refine⟨fun {p c d D} hp=>?_,fun {p q x y} hp hq he=>?_,hn.u⟩
 ·by_cases hip:i=p
  ·subst hip
   rw[List.getElem?_set_self hlt] at hp;simp at hp;obtain ⟨rfl,rfl,rfl⟩:=hp;exact⟨k2,fun _=>.inr h.le⟩
  ·rw[List.getElem?_set_ne hip] at hp
   exact hn.g (i:=p+1) (by simp[List.getElem?_set_ne hip,hp])
 ·have old : ∀ {p:Nat} {x:Bool × Nat × Blk},p≠i->(L.set i (true,H.length, .cells true size (xs++us)))[p]? = some x->L[p]? = some x:=fun {p x} hpi hp=>by
   rw[List.getElem?_set_ne (fun e=>hpi e.symm)] at hp;exact hp
  have self : ∀ {x:Bool × Nat × Blk},(L.set i (true,H.length, .cells true size (xs++us)))[i]? = some x->x.2.1=H.length:=fun {x} hp=>by
   rw[List.getElem?_set_self hlt] at hp;cases hp;rfl
  have low : ∀ {p:Nat} {x:Bool × Nat × Blk},L[p]? = some x->x.2.1<H.length:=fun {p x} hp=>by
   obtain ⟨c,b',B'⟩:=x;exact qI (h.g hp).1
  by_cases hpi:p=i
  ·by_cases hqi:q=i
   ·rw[hpi,hqi]
   ·subst hpi
    have:=low (old hqi hq);rw[<- he,self hp] at this;omega
  ·by_cases hqi:q=i
   ·subst hqi
    have:=low (old hpi hp);rw[he,self hq] at this;omega
   ·exact h.nd (old hpi hp) (old hqi hq) he
end
theorem Uo (xs:List Int):(ints xs).all qU=true:=by
 rw[List.all_eq_true];intro v hv;obtain ⟨x,_,rfl⟩:=List.mem_map.1 hv;rfl
theorem cpL_s (f g:Nat->Int) (xs:List Int):(cpL f g xs).map Fi.s=xs:=by
 apply List.ext_getElem
 ·simp[cpL]
 ·intro i h1 h2
  simp[cpL];rw[getElem?_pos xs i h2];rfl
theorem jnL_s (u:Int) (xs:List Int):(jnL u xs).map Fi.s=xs:=by
 apply List.ext_getElem
 ·simp[jnL]
 ·intro i h1 h2
  simp[jnL];rw[getElem?_pos xs i h2];rfl
def hvS (t:Tk) (r:Int) (d:Nat):List Int :=
 (if neF t r d true = -2 then [] else spnF t (1+2*d) (2+2*d))++(if neF t r d false = -2 then [] else spnF t (2+2*d) (3+2*d))
def finR (t:Tk) (r:Int):List Int :=
 if t.op=2\/t.op=5 then if r=t.ro then spnF t 0 (blkF t) else []
 else if t.op=6\/t.op=9 then spnF t r (r+1)
 else if t.op=8 then spnF t t.pr (2*t.pr)
 else if t.op=11 then (List.range t.sz.length).flatMap (hvS t r)
 else spnF t 0 (blkF t)
theorem hal_s (t:Tk) (r:Int) (d:Nat):(halF t r d).map Fi.s=hvS t r d:=by
 have e : ∀ e:Nat,(hvL t r d e).map Fi.s=if neF t r d (decide (e=0)) = -2 then [] else spnF t (1+2*d+e) (2+2*d+e):=fun e=>by
  unfold hvL;split
  ·rfl
  ·rw[cpL_s]
 have:halF t r d=hvL t r d 0++hvL t r d 1:=by
  unfold halF;rw[show List.range 2 = [0,1] from rfl];simp
 rw[this,List.map_append,e 0,e 1];unfold hvS
 rw[show (1+2*(d:Int)+((0:Nat):Int))=1+2*d by omega,show (2+2*(d:Int)+((0:Nat):Int))=2+2*d by omega,
  show (1+2*(d:Int)+((1:Nat):Int))=2+2*d by omega,show (2+2*(d:Int)+((1:Nat):Int))=3+2*d by omega]
 rfl
theorem fin_s {t:Tk} (kt:TkOk t) (r:Int):(finF t r).map Fi.s=finR t r:=by
 have hop:=kt.op;have:t.op=1\/t.op=2\/t.op=3\/t.op=4\/t.op=5\/t.op=6\/t.op=7\/t.op=8\/t.op=9\/t.op=10\/t.op=11:=by omega
 unfold finF finR;by_cases hr:r=t.ro
 all_goals rcases this with e | e | e | e | e | e | e | e | e | e | e
 all_goals (repeat (first | rw[if_pos (by omega)] | rw[if_neg (by omega)]))
 all_goals first
  | rw[cpL_s]
  | rw[jnL_s]
  | rfl
  | (rw[List.map_flatMap]
     congr 1
     funext d
     exact hal_s t r d)
end Go.Af.Tryz
