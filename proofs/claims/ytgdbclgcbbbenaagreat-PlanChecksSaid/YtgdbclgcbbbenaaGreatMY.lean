/-
  Routes never go back to a channel of a lower rank. No program is in sight.
  The neighbours in a grid, handed out one by one.
  The neighbours in a fat tree, handed out one by one.
  The neighbours in a dragonfly, handed out one by one.
  The neighbours of a switch, whatever the network's kind.
  Neighbours: how many, and that they are switches. No program is in sight.
  How many channels cross from one side of a network to the other.
  How many channels a side is expected to have.
  The sides of a network, handed out one by one: grids.
  The sides of a dragonfly and of a fat tree, handed out one by one.
  The sides of a fat tree, handed out one by one.
  The sides of a network, whatever its kind.
  The sides as rows.
  How many sides there are. No program is in sight.
  Across a side there are as many channels as across its complement, if neighbours are symmetric. No program is in sight.
  Neighbours are symmetric if a table says so. No program is in sight.
  Neighbours in a grid are symmetric. No program is in sight.
  Neighbours are symmetric in fat trees and dragonflies with at most 64 switches: checked one by one. No program is in sight.
  When the reference calls two switches linked.
  The neighbours, and the links, as the reference lists them.
  Three more types.
-/
import Derived.Test.YtgdbclgcbbbenaaGreatMX
import Derived.Test.YtgdbclgcbbbenaaGreatMC
import Derived.Test.YtgdbclgcbbbenaaGreatMT3
set_option linter.all false
namespace Go.Af.Tryz.Ne
open Go

/-! ### A torus -/

def numA (a:Int) (g e:List Int):Int:=(g.zip e).foldl (fun x p=>x*p.1+p.2) a
theorem inr_cons {m a:Int} {g e:List Int} (h:InR (m::g) (a::e)):(0<=a/\a<m)/\InR g e:=by
 have h0:=h.2 0 (by simp)
 refine⟨by simpa using h0,by have:=h.1;simpa using this,fun i hi=>?_⟩
 have:=h.2 (i+1) (by simp;omega)
 simpa using this
theorem numA_back : ∀ (g e:List Int) (a:Int),0<=a->InR g e->quoF g (numA a g e)=a/\ql g (numA a g e)=e
 | [],[],a,_,_=>⟨rfl,rfl⟩
 | [],_::_,_,_,h=>by have:=h.1;simp at this
 | _::_,[],_,_,h=>by have:=h.1;simp at this
 | m::g,b::e,a,ha,h=>by
   obtain ⟨hb,h⟩:=inr_cons h
   have hm:=Int.mul_nonneg ha (show 0<=m by omega)
   obtain ⟨i1,i2⟩:=numA_back g e (a*m+b) (by omega) h
   have e1:numA a (m::g) (b::e)=numA (a*m+b) g e:=rfl
   have e2:quoF (m::g) (numA (a*m+b) g e)=(quoF g (numA (a*m+b) g e)).tdiv m:=rfl
   have e3:ql (m::g) (numA (a*m+b) g e)=(quoF g (numA (a*m+b) g e)).tmod m::ql g (numA (a*m+b) g e):=rfl
   rw[e1,e2,e3,i1,i2]
   have k1:(a*m+b).tdiv m=a:=by
    rw[Int.tdiv_eq_ediv_of_nonneg (by omega),Int.add_comm,Int.add_mul_ediv_right _ _ (by omega),Int.ediv_eq_zero_of_lt hb.1 hb.2,Int.zero_add]
   have k2:(a*m+b).tmod m=b:=by
    rw[Int.tmod_eq_emod_of_nonneg (by omega),Int.add_comm,Int.add_mul_emod_self_right,Int.emod_eq_of_lt hb.1 hb.2]
   rw[k1,k2];exact⟨rfl,rfl⟩
theorem coords_num {g e:List Int} (h:InR g e):ql g (numF g e)=e:=(numA_back g e 0 (by omega) h).2
theorem numA_coords : ∀ (g:List Int) (x:Int),0<=x->(∀ m∈g,2<=m)->numA (quoF g x) g (ql g x)=x
 | [],x,_,_=>rfl
 | m::g,x,hx,hg=>by
   have hq:=quo_nn hx g (fun m hm=>hg m (by simp[hm]))
   have e1:numA (quoF (m::g) x) (m::g) (ql (m::g) x)=numA ((quoF g x).tdiv m*m+(quoF g x).tmod m) g (ql g x):=rfl
   rw[e1,Int.mul_comm,Int.mul_tdiv_add_tmod]
   exact numA_coords g x hx (fun m hm=>hg m (by simp[hm]))
theorem foldl_mul (g:List Int) : ∀ a:Int,g.foldl (fun n m=>n*m) a=a*vV g:=by
 unfold vV
 induction g with
 | nil=>intro a;simp
 | cons m g ih=>intro a;simp only[List.foldl_cons];rw[ih (a*m),ih (1*m),Int.one_mul,Int.mul_assoc]
theorem prodF_cons (m:Int) (g:List Int):vV (m::g)=m*vV g:=by
 show g.foldl (fun n m=>n*m) (1*m)=_
 rw[foldl_mul,Int.one_mul]
theorem quo_mul : ∀ (g:List Int) (x:Int),0<=x->(∀ m∈g,2<=m)->1<=vV g/\quoF g x*vV g<=x
 | [],x,_,_=>by simp[quoF,vV]
 | m::g,x,hx,hg=>by
   have hm:=hg m (by simp)
   have hg' : ∀ m∈g,2<=m:=fun m hm=>hg m (by simp[hm])
   have hq:=quo_nn hx g hg'
   obtain ⟨i1,i2⟩:=quo_mul g x hx hg'
   rw[prodF_cons]
   have h1:=Int.mul_le_mul_of_nonneg_right hm (show 0<=vV g by omega)
   refine⟨by omega, ?_⟩
   have e1:quoF (m::g) x=(quoF g x).tdiv m:=rfl
   rw[e1,<- Int.mul_assoc]
   have h2:(quoF g x).tdiv m*m<=quoF g x:=by
    rw[Int.tdiv_eq_ediv_of_nonneg hq];exact Int.ediv_mul_le _ (by omega)
   exact Int.le_trans (Int.mul_le_mul_of_nonneg_right h2 (by omega)) i2
theorem num_coords {g:List Int} {x:Int} (hx:0<=x/\x<vV g) (hg : ∀ m∈g,2<=m):numF g (ql g x)=x:=by
 have h1:=numA_coords g x hx.1 hg
 have h2:=quo_mul g x hx.1 hg
 have h3:=quo_nn hx.1 g hg
 have:quoF g x=0:=by
  by_cases h:quoF g x=0
  ·exact h
  ·have:=Int.mul_le_mul_of_nonneg_right (show 1<=quoF g x by omega) (show 0<=vV g by omega)
   omega
 rw[this] at h1
 exact h1

end Go.Af.Tryz.Ne
namespace Go.Af.Tryz.Ne
open Go Go.Proofs
attribute [local irreducible] awp qo qA qN qI qG isCells qC qw qY

abbrev yV (l:Nat):Value := .func (.yield l) #[] #[]
abbrev pV (b:Nat):Value := .pointer (some ⟨b,0,none⟩)
def nbK (g e:List Int) (i:Nat):Nat->List Int
 | 0=>[]
 | 1=>[numF g (e.set i (vg g[i]! 1 e[i]!))]
 | _=>numF g (e.set i (vg g[i]! 1 e[i]!))::(if g[i]! = 2 then [] else [numF g (e.set i (vg g[i]! (-1) e[i]!))])
def preG (g e:List Int):Nat->List Int
 | 0=>[]
 | i+1=>preG g e i++nbK g e i 2
def nearG (g:List Int) (x:Int):List Int:=preG g (ql g x) g.length
theorem preG_pre {g e:List Int} {i:Nat} : ∀ {n:Nat},i<=n->preG g e i <+: preG g e n
 | 0,h=>by have:i=0:=by omega
           subst this;exact List.prefix_refl _
 | n+1,h=>by
   rcases Nat.lt_or_ge i (n+1) with h1 | h1
   ·exact (preG_pre (by omega)).trans (List.prefix_append _ _)
   ·have:i=n+1:=by omega
    subst this;exact List.prefix_refl _
theorem ints_pre {p q:List Int} (h:p <+: q):ints p <+: ints q:=by
 obtain ⟨r,rfl⟩:=h
 exact⟨ints r,by simp[ints]⟩
theorem set_set' {e c:List Int} {i:Nat} (h : ∀ z,e.set i z=c.set i z) (v:Int) : ∀ z,(e.set i v).set i z=c.set i z:=fun z=>by rw[List.set_set];exact h z

theorem nb_pre {g e:List Int} {i k:Nat} (hi:i<g.length) (hk:k<=2):preG g e i++nbK g e i k <+: preG g e g.length:=by
 have h:preG g e i++nbK g e i k <+: preG g e (i+1):=by
  rw[preG,List.prefix_append_right_inj]
  have:k=0\/k=1\/k=2:=by omega
  rcases this with rfl | rfl | rfl
  ·exact List.nil_prefix
  ·exact⟨_,rfl⟩
  ·exact List.prefix_refl _
 exact h.trans (preG_pre hi)
theorem yG (p:List Int) (y:Int):ints p ++ [.int .i64 y]=ints (p ++ [y]):=by simp[ints]

structure NS where
 H:List Blk
 o:Nat->Prop
 e:List Int
 i:Nat




set_option maxHeartbeats 4000000 in
theorem n136 {H:List Blk} {l b1 b2 bg:Nat} {g:List Int} {w1 w2 w3:Bool} {x:Int} (hok:(Sh.grid g).ok) (hx:0<=x/\x<=65536) {o:Nat->Prop} (h1:Own o H b1 (.cells w1 1 [sv bg g.length])) (h2:Own o H b2 (.cells w2 1 [.int .i64 x])) (h3:Own o H bg (.cells w3 1 (ints g)))
 {I:List Value->(Nat->Prop)->List Blk->Prop} {Z:List Blk->Prop} (hR:Rounds Tryz.prog l H.length (ints (nearG g x)) I Z) (h0:I [] o H) {R:List Blk->Prop} (hr : ∀ o' H',I (ints (nearG g x)) o' H' -> R H') (hz : ∀ H',Z H' -> R H') :
 qo Tryz.prog 387 [yV l,pV b1,pV b2] H (fun _ H' => R H'):=by
 obtain ⟨hl1,hl2,hm,hp⟩:=hok
 have hg2 : ∀ m∈g,2<=m:=fun m h=>(hm m h).1
 have hgi : ∀ i,i<g.length->2<=g[i]! /\ g[i]! <= 16:=fun i hi=>by rw[getElem!_pos g i hi];exact hm _ (List.getElem_mem hi)
 have hci:=wL hx.1 g hg2
 refine qj tok Tryz.call387 Tryz.func387 rfl Tryz.ntmps387 rfl (by simp) ?_
 refine qc h1.1 ?_
 refine⟨_,rfl, ?_⟩
 refine qc h2.1 ?_
 refine⟨_,rfl, ?_⟩
 (first | refine c66 hg2 (by omega) (zT hx) h3.1 ?_ | refine (c66 hg2 (by omega) (zT hx) h3.1 ?_).call)
 refine new_of fun H1 a1 a2 a3=>?_
 obtain ⟨hI1,no1⟩:=hR.new h0 (Nat.le_refl _) a1 a3
 have k1:=h1.ext a3
 have k3:=h3.ext a3
 have ka:Own o H1 H.length (rw' (ql g x)):=⟨a2,no1⟩
 have hb1:=wH h1.1
 have hb3:=wH h3.1
 clear h1 h2 h3 h0 a2 a3
 generalize hna:H.length=a at *
 have hn1:a<=H1.length:=by omega
 clear a1
 refine qJ (α := NS) tok (fun s=>a<=s.H.length/\I (ints (preG g (ql g x) s.i)) s.o s.H/\Own s.o s.H b1 (.cells w1 1 [sv bg g.length])/\Own s.o s.H bg (.cells w3 1 (ints g))/\Own s.o s.H a (rw' (ql g x))/\s.i<=g.length)
  (fun | ⟨_,_,_,i⟩=>[(0,yV l),(1,pV b1),(4,sv a g.length),(12,sv a g.length),(13, .int .i64 (g.length:Int)),(14, .int .i64 (i:Int))]) (fun | ⟨H',_,_,_⟩=>H') (fun s=>g.length-s.i)
  ⟨H1,o,[],0⟩ ⟨hn1,hI1,k1,k3,ka,Nat.zero_le _⟩ (Or.inl ⟨⟨rfl,rfl,rfl,rfl,rfl,rfl,trivial⟩,rfl⟩) ?_
 clear k1 k3 ka hI1 hn1 no1
 rintro ⟨H2,o2,_,i⟩ ⟨hn2,hI2,k1,k3,ka,hi⟩
 simp only at hn2 hI2 k1 k3 ka hi
 refine And.intro (fun hc=>?_) (fun hc=>?_)
 ·have hlt:i<g.length:=by simpa using hc
  obtain ⟨hm2,hm16⟩:=hgi i hlt
  obtain ⟨ha0,ha1⟩:=hci.2 i hlt
  refine qg ka.1 ⟨i,rfl,hlt, ?_⟩
  refine qc ka.1 (qH i (ql g x)[i]! (by simp) (by simp[hci.1,hlt]) ?_)
  refine And.intro (by decide) ?_
  refine newS_of fun H3 c1 c2 c3=>?_
  have c1:H3.length=H2.length+1:=c1
  have c2:bget H3 H2.length=some (.cells true 1 (ints [1, -1])):=c2
  have c3 : ∀ i,i<H2.length->bget H3 i=bget H2 i:=c3
  obtain ⟨hI3,nb3⟩:=hR.new hI2 hn2 c1 c3
  have kb:Own o2 H3 H2.length (.cells true 1 (ints [1, -1])):=⟨c2,nb3⟩
  have k13:=k1.ext c3
  have k33:=k3.ext c3
  have ka3:=ka.ext c3
  have hn3:a<=H3.length:=by omega
  have hab:a<H2.length:=wH ka.1
  clear k1 k3 ka hI2 nb3 c2 c3
  generalize H2.length=b at c1 kb hab
  clear c1
  refine qJ (α := NS) tok (fun s=>a<=s.H.length/\I (ints (preG g (ql g x) i++nbK g (ql g x) i s.i)) s.o s.H/\Own s.o s.H b1 (.cells w1 1 [sv bg g.length])/\Own s.o s.H bg (.cells w3 1 (ints g))/\Own s.o s.H b (.cells true 1 (ints [1, -1]))/\Own s.o s.H a (rw' s.e)/\(∀ z,s.e.set i z=(ql g x).set i z)/\s.e.length=g.length/\s.i<=2)
   (fun | ⟨_,_,_,k⟩=>[(0,yV l),(1,pV b1),(4,sv a g.length),(12,sv a g.length),(13, .int .i64 (g.length:Int)),(14, .int .i64 (i:Int)),(5, .int .i64 (i:Int)),(6, .int .i64 (ql g x)[i]!),(19,sv b 2),(20, .int .i64 2),(21, .int .i64 (k:Int))]) (fun | ⟨H',_,_,_⟩=>H') (fun s=>2-s.i)
   ⟨H3,o2,ql g x,0⟩ ⟨hn3,by simpa [nbK] using hI3,k13,k33,kb,ka3,fun _=>rfl,hci.1,Nat.zero_le _⟩ (Or.inl ⟨⟨rfl,rfl,rfl,rfl,rfl,rfl,rfl,rfl,rfl,rfl,rfl,trivial⟩,rfl⟩) ?_
  clear k13 k33 kb ka3 hI3 hn3
  rintro ⟨H3,o3,e2,k⟩ ⟨hn3,hI3,k1,k3,kb,ka,hes,he2,hk⟩
  simp only at hn3 hI3 k1 k3 kb ka hes he2 hk
  refine And.intro (fun hc=>?_) (fun hc=>?_)
  ·have hk2:k<2:=by simp at hc;omega
   refine qg kb.1 ⟨k,rfl,hk2, ?_⟩
   have h01:k=0\/k=1:=by omega
   have nxt : ∀ (H6:List Blk) (o6:Nat->Prop) (e6:List Int) (k6:Nat),k6=k+1->a<=H6.length->I (ints (preG g (ql g x) i++nbK g (ql g x) i k6)) o6 H6->Own o6 H6 b1 (.cells w1 1 [sv bg g.length])->Own o6 H6 bg (.cells w3 1 (ints g))->Own o6 H6 b (.cells true 1 (ints [1, -1]))->Own o6 H6 a (rw' e6)->(∀ z,e6.set i z=(ql g x).set i z)->e6.length=g.length ->
    ∃ y:NS,(a<=y.H.length/\I (ints (preG g (ql g x) i++nbK g (ql g x) i y.i)) y.o y.H/\Own y.o y.H b1 (.cells w1 1 [sv bg g.length])/\Own y.o y.H bg (.cells w3 1 (ints g))/\Own y.o y.H b (.cells true 1 (ints [1, -1]))/\Own y.o y.H a (rw' y.e)/\(∀ z,y.e.set i z=(ql g x).set i z)/\y.e.length=g.length/\y.i<=2)/\2-y.i<2-k/\y=⟨H6,o6,e6,k6⟩ :=
    fun H6 o6 e6 k6 hk6 p1 p2 p3 p4 p5 p6 p7 p8=>⟨⟨H6,o6,e6,k6⟩,⟨p1,p2,p3,p4,p5,p6,p7,p8,by simp only;omega⟩,by simp only;omega,rfl⟩
   rcases h01 with rfl | rfl
   ·refine qc kb.1 (qH 0 1 (by simp) rfl ?_)
    refine qZ (fun K0 hK0=>hK0 _ _ ?_)
    refine qZ (fun K0 hK0=>?_)
    repeat refine And.intro (fun h=>absurd h (by decide)) (fun _=>?_)
    refine hK0 _ _ ?_
    clear hK0 K0
    refine And.intro (fun h=>absurd h (by decide)) (fun _=>?_)
    have hst:=step_in (d:=1) hm2 (by omega) (by omega)
    have hpr:ints (preG g (ql g x) i++nbK g (ql g x) i 0) ++ [.int .i64 (numF g ((ql g x).set i (vg g[i]! 1 (ql g x)[i]!)))]=ints (preG g (ql g x) i++nbK g (ql g x) i 1):=by rw[yG];simp[nbK]
    refine qc k1.1 ?_
    refine⟨_,rfl, ?_⟩
    (first | refine c137 i hlt ((ql g x)[i]!) (1) (by unfold I64;omega) (by unfold I64;omega) (by omega) k3.1 ?_ | refine (c137 i hlt ((ql g x)[i]!) (1) (by unfold I64;omega) (by unfold I64;omega) (by omega) k3.1 ?_).call)
    refine qg ka.1 ⟨i,rfl,hlt, ?_⟩
    simp only[putK,vops,vM,wS,Nat.blt]
    refine store_of ka.1 (ints (e2.set i (vg g[i]! (1) (ql g x)[i]!))) rfl rfl (by simp[he2];omega) (zx _ _ _) ?_
    intro H4 d1 d2 d3
    have hI4:=hR.set hI3 (by omega) ka.2 d1 d3
    have k14:=k1.ne d3 (by omega)
    have k34:=k3.ne d3 (by omega)
    have kb4:=kb.ne d3 (by omega)
    have ka4:Own o3 H4 a (rw' (e2.set i (vg g[i]! (1) (ql g x)[i]!))):=⟨d2,ka.2⟩
    have hin2:InR g (e2.set i (vg g[i]! (1) (ql g x)[i]!)):=by rw[hes];exact hci.set hlt hst.1 hst.2
    refine qc k14.1 ?_
    refine⟨_,rfl, ?_⟩
    (first | refine c67 hin2.1 (by omega) (zn hin2 hp) k34.1 ka4.1 ?_ | refine (c67 hin2.1 (by omega) (zn hin2 hp) k34.1 ka4.1 ?_).call)
    rw[hes]
    refine (hR.step (p:=ints (preG g (ql g x) i++nbK g (ql g x) i 0)) (y := .int .i64 (numF g ((ql g x).set i (vg g[i]! (1) (ql g x)[i]!)))) (hpr ▸ ints_pre (nb_pre hlt (by decide))) (by omega) hI4).mono ?_
    rintro v5 H5 (⟨rfl,u,o5,hI5,ho5⟩ | ⟨rfl,hz5⟩)
    ·refine And.intro (fun h=>absurd h (by decide)) (fun _=>?_)
     rw[hpr] at hI5
     have hl5:=u.1
     refine Or.inl ⟨((0+1:Nat):Int),by simp,by unfold I64;omega, ?_⟩
     obtain ⟨y,hy,hyk,rfl⟩:=nxt H5 o5 _ (0+1) rfl (by omega) hI5 (k14.upd u ho5) (k34.upd u ho5) (kb4.upd u ho5) (ka4.upd u ho5) (set_set' hes _) (by simp[he2])
     exact⟨_,hy,hyk,Or.inl ⟨⟨rfl,rfl,rfl,rfl,rfl,rfl,rfl,rfl,rfl,rfl,rfl,trivial⟩,rfl⟩⟩
    ·refine And.intro (fun _=>?_) (fun h=>absurd h (by decide))
     exact hz _ hz5
   ·refine qc kb.1 (qH 1 (-1) (by simp) rfl ?_)
    refine qZ (fun K0 hK0=>hK0 _ _ ?_)
    refine qZ (fun K0 hK0=>?_)
    refine And.intro (fun _=>?_) (fun h=>absurd h (by decide))
    refine qc k1.1 ?_
    refine⟨_,rfl, ?_⟩
    refine And.intro (fun _=>?_) (fun h=>absurd h (by decide))
    refine And.intro (fun _=>?_) (fun h=>absurd h (by decide))
    refine qg k3.1 ⟨i,rfl,hlt, ?_⟩
    refine And.intro (fun _=>?_) (fun h=>absurd h (by decide))
    refine qc k3.1 (qH i g[i]! (by simp) (by simp[hlt]) ?_)
    refine And.intro (fun _=>?_) (fun h=>absurd h (by decide))
    refine hK0 _ _ ?_
    clear hK0 K0
    refine And.intro (fun h2=>?_) (fun h2=>?_)
    ·have h2:g[i]! = 2:=by simpa using h2
     have hnk:nbK g (ql g x) i (1+1)=nbK g (ql g x) i 1:=by simp[nbK,h2]
     refine Or.inl ⟨((1+1:Nat):Int),by simp,by unfold I64;omega, ?_⟩
     obtain ⟨y,hy,hyk,rfl⟩:=nxt H3 o3 _ (1+1) rfl (by omega) (by rw[hnk];exact hI3) k1 k3 kb ka hes he2
     exact⟨_,hy,hyk,Or.inl ⟨⟨rfl,rfl,rfl,rfl,rfl,rfl,rfl,rfl,rfl,rfl,rfl,trivial⟩,rfl⟩⟩
    ·have h2 : ¬ g[i]! = 2:=by simpa using h2
     have hst:=step_in (d := -1) hm2 (by omega) (by omega)
     have hpr:ints (preG g (ql g x) i++nbK g (ql g x) i 1) ++ [.int .i64 (numF g ((ql g x).set i (vg g[i]! (-1) (ql g x)[i]!)))]=ints (preG g (ql g x) i++nbK g (ql g x) i (1+1)):=by
      have hnk:nbK g (ql g x) i (1+1)=nbK g (ql g x) i 1 ++ [numF g ((ql g x).set i (vg g[i]! (-1) (ql g x)[i]!))]:=by
       show numF _ _::(if g[i]! = 2 then [] else _)=_
       rw[if_neg h2];rfl
      rw[yG,hnk,List.append_assoc]
     refine qc k1.1 ?_
     refine⟨_,rfl, ?_⟩
     (first | refine c137 i hlt ((ql g x)[i]!) (-1) (by unfold I64;omega) (by unfold I64;omega) (by omega) k3.1 ?_ | refine (c137 i hlt ((ql g x)[i]!) (-1) (by unfold I64;omega) (by unfold I64;omega) (by omega) k3.1 ?_).call)
     refine qg ka.1 ⟨i,rfl,hlt, ?_⟩
     simp only[putK,vops,vM,wS,Nat.blt]
     refine store_of ka.1 (ints (e2.set i (vg g[i]! (-1) (ql g x)[i]!))) rfl rfl (by simp[he2];omega) (zx _ _ _) ?_
     intro H4 d1 d2 d3
     have hI4:=hR.set hI3 (by omega) ka.2 d1 d3
     have k14:=k1.ne d3 (by omega)
     have k34:=k3.ne d3 (by omega)
     have kb4:=kb.ne d3 (by omega)
     have ka4:Own o3 H4 a (rw' (e2.set i (vg g[i]! (-1) (ql g x)[i]!))):=⟨d2,ka.2⟩
     have hin2:InR g (e2.set i (vg g[i]! (-1) (ql g x)[i]!)):=by rw[hes];exact hci.set hlt hst.1 hst.2
     refine qc k14.1 ?_
     refine⟨_,rfl, ?_⟩
     (first | refine c67 hin2.1 (by omega) (zn hin2 hp) k34.1 ka4.1 ?_ | refine (c67 hin2.1 (by omega) (zn hin2 hp) k34.1 ka4.1 ?_).call)
     rw[hes]
     refine (hR.step (p:=ints (preG g (ql g x) i++nbK g (ql g x) i 1)) (y := .int .i64 (numF g ((ql g x).set i (vg g[i]! (-1) (ql g x)[i]!)))) (hpr ▸ ints_pre (nb_pre hlt (by decide))) (by omega) hI4).mono ?_
     rintro v5 H5 (⟨rfl,u,o5,hI5,ho5⟩ | ⟨rfl,hz5⟩)
     ·refine And.intro (fun h=>absurd h (by decide)) (fun _=>?_)
      rw[hpr] at hI5
      have hl5:=u.1
      refine Or.inl ⟨((1+1:Nat):Int),by simp,by unfold I64;omega, ?_⟩
      obtain ⟨y,hy,hyk,rfl⟩:=nxt H5 o5 _ (1+1) rfl (by omega) hI5 (k14.upd u ho5) (k34.upd u ho5) (kb4.upd u ho5) (ka4.upd u ho5) (set_set' hes _) (by simp[he2])
      exact⟨_,hy,hyk,Or.inl ⟨⟨rfl,rfl,rfl,rfl,rfl,rfl,rfl,rfl,rfl,rfl,rfl,trivial⟩,rfl⟩⟩
     ·refine And.intro (fun _=>?_) (fun h=>absurd h (by decide))
      exact hz _ hz5
  ·have hk2:k=2:=by simp at hc;omega
   subst hk2
   refine qg ka.1 ⟨i,rfl,hlt, ?_⟩
   simp only[putK,vops,vM,wS,Nat.blt]
   refine store_of ka.1 (ints (e2.set i (ql g x)[i]!)) rfl rfl (by simp[he2];omega) (zx _ _ _) ?_
   intro H4 d1 d2 d3
   have hI4:=hR.set hI3 (by omega) ka.2 d1 d3
   have hsame:e2.set i (ql g x)[i]! = ql g x:=by
    rw[hes,getElem!_pos (ql g x) i (by rw[hci.1];exact hlt)];exact List.set_getElem_self _
   rw[hsame] at d2
   refine Or.inl ⟨((i+1:Nat):Int),by simp,by unfold I64;omega, ?_⟩
   exact⟨⟨H4,o3,[],i+1⟩,⟨by simp only;omega,hI4,k1.ne d3 (by omega),k3.ne d3 (by omega),⟨d2,ka.2⟩,hlt⟩,by simp only;omega,Or.inl ⟨⟨rfl,rfl,rfl,rfl,rfl,rfl,trivial⟩,rfl⟩⟩
 ·have:i=g.length:=by simp at hc;omega
  subst this
  exact hr _ _ hI2
end Go.Af.Tryz.Ne
namespace Go.Af.Tryz.Ne
open Go Go.Proofs
attribute [local irreducible] awp qo qA qN qI qG isCells qC qw qY

def ndF (k:Int) (N:Nat) (w:Int) (dg lv m:Nat):List Int:=(List.range m).map fun d:Nat=>(lv:Int)*k ^ N+likF k w dg ((d:Int)*k ^ dg)
theorem ndF_succ (k:Int) (N:Nat) (w:Int) (dg lv m:Nat):ndF k N w dg lv (m+1)=ndF k N w dg lv m ++ [(lv:Int)*k ^ N+likF k w dg ((m:Int)*k ^ dg)]:=by simp[ndF,List.range_succ]
theorem ndF_pre {k:Int} {N:Nat} {w:Int} {dg lv m:Nat} : ∀ {n:Nat},m<=n->ndF k N w dg lv m <+: ndF k N w dg lv n
 | 0,h=>by have:m=0:=by omega
           subst this;exact List.prefix_refl _
 | n+1,h=>by
   rcases Nat.lt_or_ge m (n+1) with h1 | h1
   ·rw[ndF_succ];exact (ndF_pre (by omega)).trans (List.prefix_append _ _)
   ·have:m=n+1:=by omega
    subst this;exact List.prefix_refl _
def nuF (k n:Int) (N:Nat) (w:Int) (ln:Nat):Nat->List Int
 | 0=>match ln with
   | 0=>[]
   | dn+1=>ndF k N w dn dn k.toNat
 | _=>if (ln:Int)+1<n then ndF k N w ln (ln+1) k.toNat else []
def upN (k n:Int) (N:Nat) (w:Int) (ln:Nat):Nat->List Int
 | 0=>[]
 | u+1=>upN k n N w ln u++nuF k n N w ln u
def nearFa (k n x:Int):List Int:=upN k n (n-1).toNat (x.tmod (k ^ (n-1).toNat)) (x.tdiv (k ^ (n-1).toNat)).toNat 2
theorem upN_pre {k n:Int} {N:Nat} {w:Int} {ln u:Nat} (hu:u<2) {p:List Int} (hp:p <+: nuF k n N w ln u):upN k n N w ln u++p <+: upN k n N w ln 2:=by
 have h:u=0\/u=1:=by omega
 rcases h with rfl | rfl
 ·obtain ⟨r,hr⟩:=hp
  exact⟨r++nuF k n N w ln 1,by simp only[upN];rw[<- hr];simp⟩
 ·obtain ⟨r,hr⟩:=hp
  exact⟨r,by simp only[upN];rw[<- hr];simp⟩

structure FS where
 H:List Blk
 o:Nat->Prop
 i:Nat









set_option maxHeartbeats 4000000 in
theorem n147 {H:List Blk} {l b1 b2:Nat} {k n:Int} {w1 w2:Bool} {x:Int} (hok:(Sh.fat k n).ok) (hx:0<=x/\x<(Sh.fat k n).sw) {o:Nat->Prop} (h1:Own o H b1 (.cells w1 1 [.int .i64 k, .int .i64 n])) (h2:Own o H b2 (.cells w2 1 [.int .i64 x]))
 {I:List Value->(Nat->Prop)->List Blk->Prop} {Z:List Blk->Prop} (hR:Rounds Tryz.prog l H.length (ints (nearFa k n x)) I Z) (h0:I [] o H) {R:List Blk->Prop} (hr : ∀ o' H',I (ints (nearFa k n x)) o' H' -> R H') (hz : ∀ H',Z H' -> R H') :
 qo Tryz.prog 398 [yV l,pV b1,pV b2] H (fun _ H' => R H'):=by
 obtain ⟨hk,hn,hkn⟩:=hok
 simp only[Sh.sw] at hx
 unfold nearFa at hR hr
 obtain ⟨N,hN⟩ : ∃ N,(n-1).toNat=N:=⟨_,rfl⟩
 have hn' : n=N+1:=by omega
 have hN4:N<=3:=by omega
 rw[hN] at hx hR hr
 have hW:=pow_ok hk (l:=N) (by omega)
 have hm:=mulb (a:=n) (b:=k ^ N) (A:=4) (B:=65536) (by omega) (by omega) (by omega) (by omega)
 refine qj tok Tryz.call398 Tryz.func398 rfl Tryz.ntmps398 rfl (by simp) ?_
 refine qc h1.1 ?_
 refine⟨_,rfl,_,rfl, ?_⟩
 refine qc h2.1 ?_
 refine⟨_,rfl, ?_⟩
 (first | refine c142 hk hn (by unfold I64;omega) ?_ | refine (c142 hk hn (by unfold I64;omega) ?_).call)
 rw[hN]
 obtain ⟨ln,hln⟩ : ∃ ln:Nat,x.tdiv (k ^ N)=ln:=⟨(x.tdiv (k ^ N)).toNat,by have:=Int.tdiv_nonneg (a:=x) (b:=k ^ N) (by omega) (by omega);omega⟩
 have hlnN:ln<=N:=by
  have h:x.tdiv (k ^ N)<n:=by
   rw[Int.tdiv_eq_ediv_of_nonneg hx.1]
   exact Int.ediv_lt_of_lt_mul (by omega) (by omega)
  omega
 have hw0:0<=x.tmod (k ^ N):=Int.tmod_nonneg _ hx.1
 have hw1:x.tmod (k ^ N)<k ^ N:=Int.tmod_lt_of_pos _ (by omega)
 rw[hln,Int.toNat_natCast] at hR hr
 rw[hln]
 generalize x.tmod (k ^ N)=w at *
 refine new_of fun H1 a1 a2 a3=>?_
 obtain ⟨hI1,no1⟩:=hR.new h0 (Nat.le_refl _) a1 a3
 have k1:=h1.ext a3
 have ka:Own o H1 H.length (rw' [(ln:Int),w]):=⟨a2,no1⟩
 have hb1:=wH h1.1
 clear h1 h2 h0 a2 a3 no1
 generalize hna:H.length=a at *
 have hn1:a<=H1.length:=by omega
 clear a1
 refine And.intro (by decide) ?_
 refine newS_of fun H3 c1 c2 c3=>?_
 obtain ⟨hI3,nb3⟩:=hR.new hI1 hn1 c1 c3
 have kb:Own o H3 H1.length (.cells true 1 [.bool false, .bool true]):=⟨c2,nb3⟩
 have k1:=k1.ext c3
 have ka:=ka.ext c3
 have hn3:a<=H3.length:=by omega
 have hab:a<H1.length:=by rename_i k;exact wH k.1
 clear hI1 nb3 c2 c3
 generalize H1.length=b at c1 kb hab
 clear c1
 refine qJ (α := FS) tok (fun s=>a<=s.H.length/\I (ints (upN k n N w ln s.i)) s.o s.H/\Own s.o s.H b1 (.cells w1 1 [.int .i64 k, .int .i64 n])/\Own s.o s.H b (.cells true 1 [.bool false, .bool true])/\Own s.o s.H a (rw' [(ln:Int),w])/\s.i<=2)
  (fun | ⟨_,_,i⟩=>[(0,yV l),(1,pV b1),(4,sv a 2),(13,sv b 2),(14, .int .i64 2),(15, .int .i64 (i:Int))]) (fun | ⟨H',_,_⟩=>H') (fun s=>2-s.i)
  ⟨H3,o,0⟩ ⟨hn3,hI3,k1,kb,ka,Nat.zero_le _⟩ (Or.inl ⟨⟨rfl,rfl,rfl,rfl,rfl,rfl,trivial⟩,rfl⟩) ?_
 clear k1 kb ka hI3 hn3
 rintro ⟨H2,o2,u⟩ ⟨hn2,hI2,k1,kb,ka,hu⟩
 simp only at hn2 hI2 k1 kb ka hu
 refine And.intro (fun hc=>?_) (fun hc=>?_)
 ·have hu2:u<2:=by simp at hc;omega
  have h01:u=0\/u=1:=by omega
  refine qg kb.1 ⟨u,rfl,hu2, ?_⟩
  rcases h01 with rfl | rfl
  ·skip
   refine qc kb.1 ?_
   refine⟨_,rfl, ?_⟩
   refine qZ (fun K0 hK0=>hK0 _ _ ?_)
   refine qO tok mx [0,1,3,7,0,16,48,112,15,511] [false,false,false,false,true,true,true,true,true,false] [0,1,2,3,4,5,6,7,8,9] (by kernel_rfl) ?_
   refine qg ka.1 ⟨0,rfl,by decide, ?_⟩
   refine qc ka.1 (qH 0 (ln:Int) (by simp) rfl ?_)
   cases ln with
   | zero =>
     have hnu:nuF k n N w 0 0 = []:=rfl
     refine Or.inl ⟨-1,by simp,by unfold I64;omega, ?_⟩
     refine qg ka.1 ⟨0,rfl,by decide, ?_⟩
     refine qc ka.1 (qH 0 0 (by simp) rfl ?_)
     refine Or.inl ⟨-1,by simp,by unfold I64;omega, ?_⟩
     refine And.intro (fun h=>absurd h (by decide)) (fun _=>?_)
     refine qZ (fun K0 hK0=>?_)
     repeat refine And.intro (fun h=>absurd h (by decide)) (fun _=>?_)
     refine hK0 _ _ ?_
     clear hK0 K0
     refine And.intro (fun _=>?_) (fun h=>absurd h (by decide))
     refine Or.inl ⟨((0+1:Nat):Int),by simp,by unfold I64;omega, ?_⟩
     exact⟨⟨H2,o2,0+1⟩,⟨hn2,by simp only[upN];simp only[upN] at hI2;rw[hnu];simpa using hI2,k1,kb,ka,Nat.le_of_ble_eq_true rfl⟩,by simp only;omega,Or.inl ⟨⟨rfl,rfl,rfl,rfl,rfl,rfl,trivial⟩,rfl⟩⟩
   | succ dn =>
     have hnu:nuF k n N w (dn+1) 0=ndF k N w dn dn k.toNat:=rfl
     refine Or.inl ⟨(dn:Int),by simp,by unfold I64;omega, ?_⟩
     refine qg ka.1 ⟨0,rfl,by decide, ?_⟩
     refine qc ka.1 (qH 0 (((dn+1:Nat):Int)) (by simp) rfl ?_)
     refine Or.inl ⟨(dn:Int),by simp,by unfold I64;omega, ?_⟩
     refine And.intro (fun h=>absurd h (by decide)) (fun _=>?_)
     refine qZ (fun K0 hK0=>?_)
     refine And.intro (fun _=>?_) (fun h=>by simp at h <;> omega)
     refine And.intro (fun _=>?_) (fun h=>by simp at h <;> omega)
     refine And.intro (by decide) (qg k1.1 ?_)
     refine And.intro (fun _=>?_) (fun h=>by simp at h <;> omega)
     refine qc k1.1 ?_
     refine⟨_,rfl, ?_⟩
     refine And.intro (fun _=>?_) (fun h=>by simp at h <;> omega)
     refine hK0 _ _ ?_
     clear hK0 K0
     refine And.intro (fun h=>by simp at h;omega) (fun _=>?_)
     refine And.intro (by decide) (qg k1.1 ?_)
     refine qc k1.1 ?_
     refine⟨_,rfl, ?_⟩
     obtain ⟨kn,hkn⟩ : ∃ kn:Nat,k=kn:=⟨k.toNat,by omega⟩
     refine qJ (α := FS) tok (fun s=>a<=s.H.length/\I (ints (upN k n N w (dn+1) 0++ndF k N w (dn) (dn) s.i)) s.o s.H/\Own s.o s.H b1 (.cells w1 1 [.int .i64 k, .int .i64 n])/\Own s.o s.H b (.cells true 1 [.bool false, .bool true])/\Own s.o s.H a (rw' [(((dn+1):Nat):Int),w])/\s.i<=kn)
      (fun | ⟨_,_,d⟩=>[(0,yV l),(1,pV b1),(4,sv a 2),(13,sv b 2),(14, .int .i64 2),(15, .int .i64 ((0:Nat):Int)),(7, .int .i64 ((dn:Nat):Int)),(8, .int .i64 ((dn:Nat):Int)),(44, .int .i64 k),(45, .int .i64 (d:Int))]) (fun | ⟨H',_,_⟩=>H') (fun s=>kn-s.i)
      ⟨H2,o2,0⟩ ⟨hn2,by simpa [ndF] using hI2,k1,kb,ka,Nat.zero_le _⟩ (Or.inl ⟨⟨rfl,rfl,rfl,rfl,rfl,rfl,rfl,rfl,rfl,rfl,trivial⟩,rfl⟩) ?_
     clear k1 kb ka hI2 hn2
     rintro ⟨H3,o3,d⟩ ⟨hn3,hI3,k1,kb,ka,hd⟩
     simp only at hn3 hI3 k1 kb ka hd
     refine And.intro (fun hc=>?_) (fun hc=>?_)
     ·have hlt:d<kn:=by simp at hc;omega
      have hpw:=pow_ok hk (l:=dn) (by omega)
      have hpk:=pow_ok hk (l:=dn+1) (by omega)
      rw[Int.pow_succ,Int.mul_comm] at hpk
      have hdm:0<=(d:Int)*k ^ (dn)/\(d:Int)*k ^ (dn)<=k*k ^ (dn):=⟨Int.mul_nonneg (by omega) (by omega),Int.mul_le_mul_of_nonneg_right (by omega) (by omega)⟩
      have hlk:LikOk k w (dn) ((d:Int)*k ^ (dn)):=likok hk (N:=N) (by omega) (by omega) hw0 hw1 (by omega) (by omega)
      have hlr:=hlk.hr
      have hlm:=mulb (a:=((dn:Nat):Int)) (b:=k ^ N) (A:=4) (B:=65536) (by omega) (by omega) (by omega) (by omega)
      refine qO tok mx [0,0,0,4,14,0,0,64,192,0,0,0,2048,0,14348,31756,65516,131070,262143,524287] [false,false,false,true,true,true,true,true,true,true,true,true,true,true,true,true,false,false,false,false] [0,1,2,5,6,7,8,9,10,11,12,13,3,4,14,15,16,17,18,19] (by kernel_rfl) ?_
      refine vT (fun K0 hK0=>?_)
      refine qc k1.1 ?_
      refine⟨_,rfl,_,rfl, ?_⟩
      refine qc k1.1 ?_
      refine⟨_,rfl,_,rfl, ?_⟩
      refine qg ka.1 ⟨1,rfl,by decide, ?_⟩
      refine qc ka.1 (qH 1 w (by simp) rfl ?_)
      refine And.intro (by decide) (qg k1.1 ?_)
      refine qc k1.1 ?_
      refine⟨_,rfl, ?_⟩
      (first | refine c146 k n hk hn ?_ | refine (c146 k n hk hn ?_).call)
      rw[hN]
      refine Or.inl ⟨((dn:Nat):Int)*k ^ N,rfl,by unfold I64;omega, ?_⟩
      (first | refine x82 hk (l:=dn) (by omega) ?_ | refine (x82 hk (l:=dn) (by omega) ?_).call)
      refine Or.inl ⟨(d:Int)*k ^ (dn),rfl,by unfold I64;omega, ?_⟩
      (first | refine c148 hlk ?_ | refine (c148 hlk ?_).call)
      refine Or.inl ⟨((dn:Nat):Int)*k ^ N+likF k w (dn) ((d:Int)*k ^ (dn)),rfl,by unfold I64;omega, ?_⟩
      have hpr:ints (upN k n N w (dn+1) 0++ndF k N w (dn) (dn) d) ++ [.int .i64 (((dn:Nat):Int)*k ^ N+likF k w (dn) ((d:Int)*k ^ (dn)))]=ints (upN k n N w (dn+1) 0++ndF k N w (dn) (dn) (d+1)):=by rw[yG,ndF_succ,List.append_assoc]
      refine (hR.step (p:=ints (upN k n N w (dn+1) 0++ndF k N w (dn) (dn) d)) (y := .int .i64 (((dn:Nat):Int)*k ^ N+likF k w (dn) ((d:Int)*k ^ (dn)))) (hpr ▸ ints_pre (upN_pre (by decide) (by rw[hnu];exact ndF_pre (by omega)))) (by omega) hI3).mono ?_
      rintro v5 H5 (⟨rfl,u,o5,hI5,ho5⟩ | ⟨rfl,hz5⟩)
      ·refine hK0 _ _ ?_
       clear hK0 K0
       refine And.intro (fun h=>absurd h (by decide)) (fun _=>?_)
       rw[hpr] at hI5
       have hl5:=u.1
       refine Or.inl ⟨((d+1:Nat):Int),by simp,by unfold I64;omega, ?_⟩
       exact⟨⟨H5,o5,d+1⟩,⟨by simp only;omega,hI5,k1.upd u ho5,kb.upd u ho5,ka.upd u ho5,hlt⟩,by simp only;omega,Or.inl ⟨⟨rfl,rfl,rfl,rfl,rfl,rfl,rfl,rfl,rfl,rfl,trivial⟩,rfl⟩⟩
      ·refine hK0 _ _ ?_
       clear hK0 K0
       refine And.intro (fun _=>?_) (fun h=>absurd h (by decide))
       exact hz _ hz5
     ·have hd:d=kn:=by simp at hc;omega
      subst hd
      refine Or.inl ⟨((0+1:Nat):Int),by simp,by unfold I64;omega, ?_⟩
      exact⟨⟨H3,o3,0+1⟩,⟨hn3,by simp only[upN];simp only[upN] at hI3;rw[hnu];simpa [hkn] using hI3,k1,kb,ka,Nat.le_of_ble_eq_true rfl⟩,by simp only;omega,Or.inl ⟨⟨rfl,rfl,rfl,rfl,rfl,rfl,trivial⟩,rfl⟩⟩
  ·skip
   refine qc kb.1 ?_
   refine⟨_,rfl, ?_⟩
   refine qZ (fun K0 hK0=>hK0 _ _ ?_)
   refine qO tok mx [0,1,3,7,0,16,48,112,15,511] [false,false,false,false,true,true,true,true,true,false] [0,1,2,3,4,5,6,7,8,9] (by kernel_rfl) ?_
   refine qg ka.1 ⟨0,rfl,by decide, ?_⟩
   refine qc ka.1 (qH 0 ((ln:Int)) (by simp) rfl ?_)
   refine Or.inl ⟨(ln:Int)-1,rfl,by unfold I64;omega, ?_⟩
   refine qg ka.1 ⟨0,rfl,by decide, ?_⟩
   refine qc ka.1 (qH 0 ((ln:Int)) (by simp) rfl ?_)
   refine Or.inl ⟨(ln:Int)-1,rfl,by unfold I64;omega, ?_⟩
   refine And.intro (fun _=>?_) (fun h=>absurd h (by decide))
   refine qO tok mx [0,1,3,0,8,24,56,7,255] [false,false,false,true,true,true,true,true,false] [0,1,2,3,4,5,6,7,8] (by kernel_rfl) ?_
   refine qg ka.1 ⟨0,rfl,by decide, ?_⟩
   refine qc ka.1 (qH 0 ((ln:Int)) (by simp) rfl ?_)
   refine qg ka.1 ⟨0,rfl,by decide, ?_⟩
   refine qc ka.1 (qH 0 ((ln:Int)) (by simp) rfl ?_)
   refine Or.inl ⟨((ln+1:Nat):Int),by simp,by unfold I64;omega, ?_⟩
   refine qZ (fun K0 hK0=>?_)
   refine And.intro (fun _=>?_) (fun h=>by simp at h <;> omega)
   refine And.intro (fun _=>?_) (fun h=>by simp at h <;> omega)
   refine And.intro (by decide) (qg k1.1 ?_)
   refine And.intro (fun _=>?_) (fun h=>by simp at h <;> omega)
   refine qc k1.1 ?_
   refine⟨_,rfl, ?_⟩
   refine And.intro (fun _=>?_) (fun h=>by simp at h <;> omega)
   refine hK0 _ _ ?_
   clear hK0 K0
   refine And.intro (fun h=>?_) (fun h=>?_)
   ·have hge : ¬ (ln:Int)+1<n:=by simp at h;omega
    have hnu:nuF k n N w ln 1 = []:=if_neg hge
    refine Or.inl ⟨((1+1:Nat):Int),by simp,by unfold I64;omega, ?_⟩
    exact⟨⟨H2,o2,1+1⟩,⟨hn2,by simp only[upN];simp only[upN] at hI2;rw[hnu];simpa using hI2,k1,kb,ka,Nat.le_of_ble_eq_true rfl⟩,by simp only;omega,Or.inl ⟨⟨rfl,rfl,rfl,rfl,rfl,rfl,trivial⟩,rfl⟩⟩
   ·have hlt:(ln:Int)+1<n:=by simp at h;omega
    have hnu:nuF k n N w ln 1=ndF k N w ln (ln+1) k.toNat:=if_pos hlt
    refine And.intro (by decide) (qg k1.1 ?_)
    refine qc k1.1 ?_
    refine⟨_,rfl, ?_⟩
    obtain ⟨kn,hkn⟩ : ∃ kn:Nat,k=kn:=⟨k.toNat,by omega⟩
    refine qJ (α := FS) tok (fun s=>a<=s.H.length/\I (ints (upN k n N w (ln) 1++ndF k N w (ln) (ln+1) s.i)) s.o s.H/\Own s.o s.H b1 (.cells w1 1 [.int .i64 k, .int .i64 n])/\Own s.o s.H b (.cells true 1 [.bool false, .bool true])/\Own s.o s.H a (rw' [(((ln):Nat):Int),w])/\s.i<=kn)
     (fun | ⟨_,_,d⟩=>[(0,yV l),(1,pV b1),(4,sv a 2),(13,sv b 2),(14, .int .i64 2),(15, .int .i64 ((1:Nat):Int)),(7, .int .i64 ((ln:Nat):Int)),(8, .int .i64 ((ln+1:Nat):Int)),(44, .int .i64 k),(45, .int .i64 (d:Int))]) (fun | ⟨H',_,_⟩=>H') (fun s=>kn-s.i)
     ⟨H2,o2,0⟩ ⟨hn2,by simpa [ndF] using hI2,k1,kb,ka,Nat.zero_le _⟩ (Or.inl ⟨⟨rfl,rfl,rfl,rfl,rfl,rfl,rfl,rfl,rfl,rfl,trivial⟩,rfl⟩) ?_
    clear k1 kb ka hI2 hn2
    rintro ⟨H3,o3,d⟩ ⟨hn3,hI3,k1,kb,ka,hd⟩
    simp only at hn3 hI3 k1 kb ka hd
    refine And.intro (fun hc=>?_) (fun hc=>?_)
    ·have hlt:d<kn:=by simp at hc;omega
     have hpw:=pow_ok hk (l:=ln) (by omega)
     have hpk:=pow_ok hk (l:=ln+1) (by omega)
     rw[Int.pow_succ,Int.mul_comm] at hpk
     have hdm:0<=(d:Int)*k ^ (ln)/\(d:Int)*k ^ (ln)<=k*k ^ (ln):=⟨Int.mul_nonneg (by omega) (by omega),Int.mul_le_mul_of_nonneg_right (by omega) (by omega)⟩
     have hlk:LikOk k w (ln) ((d:Int)*k ^ (ln)):=likok hk (N:=N) (by omega) (by omega) hw0 hw1 (by omega) (by omega)
     have hlr:=hlk.hr
     have hlm:=mulb (a:=((ln+1:Nat):Int)) (b:=k ^ N) (A:=4) (B:=65536) (by omega) (by omega) (by omega) (by omega)
     refine qO tok mx [0,0,0,4,14,0,0,64,192,0,0,0,2048,0,14348,31756,65516,131070,262143,524287] [false,false,false,true,true,true,true,true,true,true,true,true,true,true,true,true,false,false,false,false] [0,1,2,5,6,7,8,9,10,11,12,13,3,4,14,15,16,17,18,19] (by kernel_rfl) ?_
     refine vT (fun K0 hK0=>?_)
     refine qc k1.1 ?_
     refine⟨_,rfl,_,rfl, ?_⟩
     refine qc k1.1 ?_
     refine⟨_,rfl,_,rfl, ?_⟩
     refine qg ka.1 ⟨1,rfl,by decide, ?_⟩
     refine qc ka.1 (qH 1 w (by simp) rfl ?_)
     refine And.intro (by decide) (qg k1.1 ?_)
     refine qc k1.1 ?_
     refine⟨_,rfl, ?_⟩
     (first | refine c146 k n hk hn ?_ | refine (c146 k n hk hn ?_).call)
     rw[hN]
     refine Or.inl ⟨((ln+1:Nat):Int)*k ^ N,rfl,by unfold I64;omega, ?_⟩
     (first | refine x82 hk (l:=ln) (by omega) ?_ | refine (x82 hk (l:=ln) (by omega) ?_).call)
     refine Or.inl ⟨(d:Int)*k ^ (ln),rfl,by unfold I64;omega, ?_⟩
     (first | refine c148 hlk ?_ | refine (c148 hlk ?_).call)
     refine Or.inl ⟨((ln+1:Nat):Int)*k ^ N+likF k w (ln) ((d:Int)*k ^ (ln)),rfl,by unfold I64;omega, ?_⟩
     have hpr:ints (upN k n N w (ln) 1++ndF k N w (ln) (ln+1) d) ++ [.int .i64 (((ln+1:Nat):Int)*k ^ N+likF k w (ln) ((d:Int)*k ^ (ln)))]=ints (upN k n N w (ln) 1++ndF k N w (ln) (ln+1) (d+1)):=by rw[yG,ndF_succ,List.append_assoc]
     refine (hR.step (p:=ints (upN k n N w (ln) 1++ndF k N w (ln) (ln+1) d)) (y := .int .i64 (((ln+1:Nat):Int)*k ^ N+likF k w (ln) ((d:Int)*k ^ (ln)))) (hpr ▸ ints_pre (upN_pre (by decide) (by rw[hnu];exact ndF_pre (by omega)))) (by omega) hI3).mono ?_
     rintro v5 H5 (⟨rfl,u,o5,hI5,ho5⟩ | ⟨rfl,hz5⟩)
     ·refine hK0 _ _ ?_
      clear hK0 K0
      refine And.intro (fun h=>absurd h (by decide)) (fun _=>?_)
      rw[hpr] at hI5
      have hl5:=u.1
      refine Or.inl ⟨((d+1:Nat):Int),by simp,by unfold I64;omega, ?_⟩
      exact⟨⟨H5,o5,d+1⟩,⟨by simp only;omega,hI5,k1.upd u ho5,kb.upd u ho5,ka.upd u ho5,hlt⟩,by simp only;omega,Or.inl ⟨⟨rfl,rfl,rfl,rfl,rfl,rfl,rfl,rfl,rfl,rfl,trivial⟩,rfl⟩⟩
     ·refine hK0 _ _ ?_
      clear hK0 K0
      refine And.intro (fun _=>?_) (fun h=>absurd h (by decide))
      exact hz _ hz5
    ·have hd:d=kn:=by simp at hc;omega
     subst hd
     refine Or.inl ⟨((1+1:Nat):Int),by simp,by unfold I64;omega, ?_⟩
     exact⟨⟨H3,o3,1+1⟩,⟨hn3,by simp only[upN];simp only[upN] at hI3;rw[hnu];simpa [hkn] using hI3,k1,kb,ka,Nat.le_of_ble_eq_true rfl⟩,by simp only;omega,Or.inl ⟨⟨rfl,rfl,rfl,rfl,rfl,rfl,trivial⟩,rfl⟩⟩
 ·have:u=2:=by simp at hc;omega
  subst this
  exact hr _ _ hI2
end Go.Af.Tryz.Ne
namespace Go.Af.Tryz.Ne
open Go Go.Proofs
attribute [local irreducible] awp qo qA qN qI qG isCells qC qw qY

def faF (a g p:Int):Nat->List Int
 | 0=>[]
 | m+1=>faF a g p m++(if (m:Int)=p then [] else [g*a+m])
def flyY (a h g m:Int):Int:=porF a h ((g+m+1).tmod (a*h+1)) (a*h+1-2-m)
def fbF (a h g p:Int):Nat->List Int
 | 0=>[]
 | j+1=>fbF a h g p j ++ [flyY a h g (p*h+j)]
def nearFl (a h x:Int):List Int:=faF a (x.tdiv a) (x.tmod a) a.toNat++fbF a h (x.tdiv a) (x.tmod a) h.toNat
theorem faF_pre {a g p:Int} {m:Nat} : ∀ {n:Nat},m<=n->faF a g p m <+: faF a g p n
 | 0,h=>by have:m=0:=by omega
           subst this;exact List.prefix_refl _
 | n+1,h=>by
   rcases Nat.lt_or_ge m (n+1) with h1 | h1
   ·exact (faF_pre (by omega)).trans (List.prefix_append _ _)
   ·have:m=n+1:=by omega
    subst this;exact List.prefix_refl _
theorem fbF_pre {a h g p:Int} {m:Nat} : ∀ {n:Nat},m<=n->fbF a h g p m <+: fbF a h g p n
 | 0,h=>by have:m=0:=by omega
           subst this;exact List.prefix_refl _
 | n+1,h=>by
   rcases Nat.lt_or_ge m (n+1) with h1 | h1
   ·exact (fbF_pre (by omega)).trans (List.prefix_append _ _)
   ·have:m=n+1:=by omega
    subst this;exact List.prefix_refl _
theorem gap_m {a h g m:Int} (h0:0<=g) (h1:g<a*h+1) (m0:0<=m) (m1:m<a*h):gapF a h g ((g+m+1).tmod (a*h+1))=m:=by
 unfold gapF
 have m1:m<a*h+1-1:=by omega
 generalize a*h+1=M at *
 have e:(g+m+1).tmod M=if g+m+1<M then g+m+1 else g+m+1-M:=by
  rw[Int.tmod_eq_emod_of_nonneg (by omega)]
  split
  ·rw[Int.emod_eq_of_lt (by omega) (by omega)]
  ·rw[<- Int.sub_emod_right,Int.emod_eq_of_lt (by omega) (by omega)]
 rw[e]
 split
 ·rw[show g+m+1-g-1+M=m+M by omega,Int.tmod_eq_emod_of_nonneg (by omega),Int.add_emod_right,Int.emod_eq_of_lt (by omega) (by omega)]
 ·rw[show g+m+1-M-g-1+M=m by omega,Int.tmod_eq_emod_of_nonneg (by omega),Int.emod_eq_of_lt (by omega) (by omega)]

theorem c154 {H:List Blk} {R:Value->List Blk->Prop} {a b x:Int} (ha:1<=a/\a<=16) (hx:I64 x) (h:zl H 0 (rw' [x.tdiv a,x.tmod a]) (fun i H' => R (.slice (some ⟨i,0,none⟩) 2 2) H')) :
 qA Tryz.prog 405 [twoV a b, .int .i64 x] H R:=acallx_r (H2 := []) (l154 a b x ha hx) [] rfl (.cons zt (.cons (.int _ _) .nil)) trivial h







set_option maxHeartbeats 4000000 in
theorem n158 {H:List Blk} {l b1 b2:Nat} {a h:Int} {w1 w2:Bool} {x:Int} (hok:(Sh.fly a h).ok) (hx:0<=x/\x<(Sh.fly a h).sw) {o:Nat->Prop} (h1:Own o H b1 (.cells w1 1 [.int .i64 a, .int .i64 h])) (h2:Own o H b2 (.cells w2 1 [.int .i64 x]))
 {I:List Value->(Nat->Prop)->List Blk->Prop} {Z:List Blk->Prop} (hR:Rounds Tryz.prog l H.length (ints (nearFl a h x)) I Z) (h0:I [] o H) {R:List Blk->Prop} (hr : ∀ o' H',I (ints (nearFl a h x)) o' H' -> R H') (hz : ∀ H',Z H' -> R H') :
 qo Tryz.prog 409 [yV l,pV b1,pV b2] H (fun _ H' => R H'):=by
 obtain ⟨ha,hh,hsw⟩:=hok
 simp only[Sh.sw] at hx
 unfold nearFl at hR hr
 have hah:=mulb (a:=a) (b:=h) (A:=16) (B:=4) (by omega) (by omega) (by omega) (by omega)
 refine qj tok Tryz.call409 Tryz.func409 rfl Tryz.ntmps409 rfl (by simp) ?_
 refine qc h1.1 ?_
 refine⟨_,rfl,_,rfl, ?_⟩
 refine qc h2.1 ?_
 refine⟨_,rfl, ?_⟩
 (first | refine c154 ha (by unfold I64;omega) ?_ | refine (c154 ha (by unfold I64;omega) ?_).call)
 obtain ⟨g,hg⟩ : ∃ g:Int,x.tdiv a=g:=⟨_,rfl⟩
 obtain ⟨p,hp⟩ : ∃ p:Int,x.tmod a=p:=⟨_,rfl⟩
 have hg0:0<=g:=by rw[<- hg];exact Int.tdiv_nonneg hx.1 (by omega)
 have hg1:g<a*h+1:=by
  rw[<- hg,Int.tdiv_eq_ediv_of_nonneg hx.1]
  exact Int.ediv_lt_of_lt_mul (by omega) (by rw[Int.mul_comm];exact hx.2)
 have hp0:0<=p:=by rw[<- hp];exact Int.tmod_nonneg _ hx.1
 have hp1:p<a:=by rw[<- hp];exact Int.tmod_lt_of_pos _ (by omega)
 rw[hg,hp] at hR hr ⊢
 refine new_of fun H1 a1 a2 a3=>?_
 obtain ⟨hI1,no1⟩:=hR.new h0 (Nat.le_refl _) a1 a3
 have k1:=h1.ext a3
 have ka:Own o H1 H.length (rw' [g,p]):=⟨a2,no1⟩
 have hb1:=wH h1.1
 clear h1 h2 h0 a2 a3 no1
 generalize hna:H.length=b at *
 have hn1:b<=H1.length:=by omega
 clear a1
 refine And.intro (by decide) (qg k1.1 ?_)
 refine qc k1.1 ?_
 refine⟨_,rfl, ?_⟩
 obtain ⟨an,han⟩ : ∃ an:Nat,a=an:=⟨a.toNat,by omega⟩
 refine qJ (α := FS) tok (fun s=>b<=s.H.length/\I (ints (faF a g p s.i)) s.o s.H/\Own s.o s.H b1 (.cells w1 1 [.int .i64 a, .int .i64 h])/\Own s.o s.H b (rw' [g,p])/\s.i<=an)
  (fun | ⟨_,_,i⟩=>[(0,yV l),(1,pV b1),(4,sv b 2),(13, .int .i64 a),(14, .int .i64 (i:Int))]) (fun | ⟨H',_,_⟩=>H') (fun s=>an-s.i)
  ⟨H1,o,0⟩ ⟨hn1,hI1,k1,ka,Nat.zero_le _⟩ (Or.inl ⟨⟨rfl,rfl,rfl,rfl,rfl,trivial⟩,rfl⟩) ?_
 clear k1 ka hI1 hn1
 rintro ⟨H2,o2,m⟩ ⟨hn2,hI2,k1,ka,hm⟩
 simp only at hn2 hI2 k1 ka hm
 refine And.intro (fun hc=>?_) (fun hc=>?_)
 ·have hlt:m<an:=by simp at hc;omega
  refine qO tok mx [0,0,2,6,15,31,63,63,191,447,63,1087,4031,63,16319,32767,65535,131071] [false,false,false,false,false,false,false,false,false,false,true,true,false,true,false,false,false,false] [0,1,2,3,4,5,6,7,8,9,10,11,12,13,14,15,16,17] (by kernel_rfl) ?_
  refine vT (fun K0 hK0=>?_)
  refine qg ka.1 ⟨1,rfl,by decide, ?_⟩
  refine qc ka.1 (qH 1 p (by simp) rfl ?_)
  refine And.intro (fun hne=>?_) (fun hne=>?_)
  ·have hne : ¬ (m:Int)=p:=by simpa using hne
   have hga:=mulb (a:=g) (b:=a) (A:=64) (B:=16) (by omega) (by omega) (by omega) (by omega)
   refine And.intro (fun _=>?_) (fun h=>absurd h (by decide))
   refine And.intro (fun _=>?_) (fun h=>absurd h (by decide))
   refine qg ka.1 ⟨0,rfl,by decide, ?_⟩
   refine And.intro (fun _=>?_) (fun h=>absurd h (by decide))
   refine qc ka.1 (qH 0 g (by simp) rfl ?_)
   refine And.intro (fun _=>?_) (fun h=>absurd h (by decide))
   refine And.intro (by decide) (qg k1.1 ?_)
   refine And.intro (fun _=>?_) (fun h=>absurd h (by decide))
   refine qc k1.1 ?_
   refine⟨_,rfl, ?_⟩
   refine And.intro (fun _=>?_) (fun h=>absurd h (by decide))
   refine Or.inl ⟨g*a,rfl,by unfold I64;omega, ?_⟩
   refine And.intro (fun _=>?_) (fun h=>absurd h (by decide))
   refine And.intro (fun _=>?_) (fun h=>absurd h (by decide))
   refine Or.inl ⟨g*a+m,rfl,by unfold I64;omega, ?_⟩
   refine And.intro (fun _=>?_) (fun h=>absurd h (by decide))
   have hnu:faF a g p (m+1)=faF a g p m ++ [g*a+m]:=by simp only[faF];rw[if_neg hne]
   have hpr:ints (faF a g p m) ++ [.int .i64 (g*a+m)]=ints (faF a g p (m+1)):=by rw[yG,hnu]
   refine (hR.step (p:=ints (faF a g p m)) (y := .int .i64 (g*a+m)) (hpr ▸ ints_pre ((faF_pre (by omega)).trans (List.prefix_append _ _))) (by omega) hI2).mono ?_
   rintro v5 H5 (⟨rfl,u,o5,hI5,ho5⟩ | ⟨rfl,hz5⟩)
   ·skip
    refine And.intro (fun _=>?_) (fun h=>absurd h (by decide))
    refine hK0 _ _ ?_
    clear hK0 K0
    refine And.intro (fun h=>absurd h (by decide)) (fun _=>?_)
    rw[hpr] at hI5
    have hl5:=u.1
    refine Or.inl ⟨((m+1:Nat):Int),by simp,by unfold I64;omega, ?_⟩
    exact⟨⟨H5,o5,m+1⟩,⟨by simp only;omega,hI5,k1.upd u ho5,ka.upd u ho5,hlt⟩,by simp only;omega,Or.inl ⟨⟨rfl,rfl,rfl,rfl,rfl,trivial⟩,rfl⟩⟩
   ·skip
    refine And.intro (fun _=>?_) (fun h=>absurd h (by decide))
    refine hK0 _ _ ?_
    clear hK0 K0
    refine And.intro (fun _=>?_) (fun h=>absurd h (by decide))
    exact hz _ hz5
  ·have hne:(m:Int)=p:=by simpa using hne
   have hnu:faF a g p (m+1)=faF a g p m:=by simp only[faF];rw[if_pos hne,List.append_nil]
   repeat refine And.intro (fun h=>absurd h (by decide)) (fun _=>?_)
   refine hK0 _ _ ?_
   clear hK0 K0
   refine And.intro (fun h=>absurd h (by decide)) (fun _=>?_)
   refine Or.inl ⟨((m+1:Nat):Int),by simp,by unfold I64;omega, ?_⟩
   exact⟨⟨H2,o2,m+1⟩,⟨hn2,by rw[hnu];exact hI2,k1,ka,hlt⟩,by simp only;omega,Or.inl ⟨⟨rfl,rfl,rfl,rfl,rfl,trivial⟩,rfl⟩⟩
 ·have:m=an:=by simp at hc;omega
  subst this
  have hph:=mulb (a:=p) (b:=h) (A:=16) (B:=4) (by omega) (by omega) (by omega) (by omega)
  refine qO tok mx [0,1,3,0,8,31,63] [false,false,false,true,true,false,false] [0,1,2,3,4,5,6] (by kernel_rfl) ?_
  refine vT (fun K0 hK0=>?_)
  refine qg ka.1 ⟨1,rfl,by decide, ?_⟩
  refine qc ka.1 (qH 1 p (by simp) rfl ?_)
  refine And.intro (by decide) (qg k1.1 ?_)
  refine qc k1.1 ?_
  refine⟨_,rfl, ?_⟩
  refine Or.inl ⟨p*h,rfl,by unfold I64;omega, ?_⟩
  refine hK0 _ _ ?_
  clear hK0 K0
  obtain ⟨hn,hhn⟩ : ∃ hn:Nat,h=hn:=⟨h.toNat,by omega⟩
  refine qJ (α := FS) tok (fun s=>b<=s.H.length/\I (ints (faF a g p a.toNat++fbF a h g p s.i)) s.o s.H/\Own s.o s.H b1 (.cells w1 1 [.int .i64 a, .int .i64 h])/\Own s.o s.H b (rw' [g,p])/\s.i<=hn)
   (fun | ⟨_,_,j⟩=>[(0,yV l),(1,pV b1),(4,sv b 2),(6, .int .i64 (p*h+(j:Int)))]) (fun | ⟨H',_,_⟩=>H') (fun s=>hn-s.i)
   ⟨H2,o2,0⟩ ⟨hn2,by simpa [fbF,han] using hI2,k1,ka,Nat.zero_le _⟩ (Or.inl ⟨⟨rfl,rfl,rfl,(by show some (Value.int .i64 (p*h))=some _;simp),trivial⟩,rfl⟩) ?_
  clear k1 ka hI2 hn2
  rintro ⟨H3,o3,j⟩ ⟨hn3,hI3,k1,ka,hj⟩
  simp only at hn3 hI3 k1 ka hj
  refine qO tok mx [0,0,2,6,14,0,32,126,255] [false,false,false,false,false,true,true,false,false] [0,1,2,3,4,5,6,7,8] (by kernel_rfl) ?_
  refine vT (fun K0 hK0=>?_)
  refine qg ka.1 ⟨1,rfl,by decide, ?_⟩
  refine qc ka.1 (qH 1 p (by simp) rfl ?_)
  refine Or.inl ⟨p+1,rfl,by unfold I64;omega, ?_⟩
  refine And.intro (by decide) (qg k1.1 ?_)
  refine qc k1.1 ?_
  refine⟨_,rfl, ?_⟩
  have hph1:(p+1)*h=p*h+h:=by rw[Int.add_mul,Int.one_mul]
  refine Or.inl ⟨p*h+h,hph1,by unfold I64;omega, ?_⟩
  refine hK0 _ _ ?_
  clear hK0 K0
  refine And.intro (fun hc=>?_) (fun hc=>?_)
  ·have hlt:j<hn:=by simp at hc;omega
   have hpa:(p+1)*h<=a*h:=Int.mul_le_mul_of_nonneg_right (by omega) (by omega)
   have hm1:p*h+(j:Int)<a*h:=by omega
   have hgap:=gap_m hg0 hg1 (show 0<=p*h+(j:Int) by omega) hm1
   obtain ⟨gy,hgy⟩ : ∃ gy:Int,(g+(p*h+(j:Int))+1).tmod (a*h+1)=gy:=⟨_,rfl⟩
   have hgy0:0<=gy:=by rw[<- hgy];exact Int.tmod_nonneg _ (by omega)
   have hgy1:gy<a*h+1:=by rw[<- hgy];exact Int.tmod_lt_of_pos _ (by omega)
   have hfy:flyY a h g (p*h+(j:Int))=porF a h gy (a*h+1-2-(p*h+(j:Int))):=by unfold flyY;rw[hgy]
   rw[hgy] at hgap
   refine qO tok mx [0,0,2,6,0,16,48,0,240,496,0,1024,4080,8191,16383,32767,32767,65535,262143] [false,true,true,true,true,true,true,true,true,true,true,true,true,false,false,false,false,false,false] [0,1,2,3,4,5,6,7,8,9,10,11,12,13,14,15,16,17,18] (by kernel_rfl) ?_
   refine vT (fun K0 hK0=>?_)
   refine qc k1.1 ?_
   refine⟨_,rfl,_,rfl, ?_⟩
   refine qg ka.1 ⟨0,rfl,by decide, ?_⟩
   refine qc ka.1 (qH 0 g (by simp) rfl ?_)
   refine qg ka.1 ⟨0,rfl,by decide, ?_⟩
   refine qc ka.1 (qH 0 g (by simp) rfl ?_)
   refine Or.inl ⟨g+(p*h+(j:Int)),rfl,by unfold I64;omega, ?_⟩
   refine Or.inl ⟨g+(p*h+(j:Int))+1,rfl,by unfold I64;omega, ?_⟩
   refine qc k1.1 ?_
   refine⟨_,rfl,_,rfl, ?_⟩
   (first | refine c151 a h ha hh ?_ | refine (c151 a h ha hh ?_).call)
   refine⟨by omega,gy,hgy, ?_⟩
   (first | refine c159 ha hh hg0 hg1 hgy0 hgy1 hgap (by omega) ?_ | refine (c159 ha hh hg0 hg1 hgy0 hgy1 hgap (by omega) ?_).call)
   rw[<- hfy]
   refine⟨_,rfl,_,rfl, ?_⟩
   refine hK0 _ _ ?_
   clear hK0 K0
   have hpr:ints (faF a g p a.toNat++fbF a h g p j) ++ [.int .i64 (flyY a h g (p*h+(j:Int)))]=ints (faF a g p a.toNat++fbF a h g p (j+1)):=by rw[yG,List.append_assoc];rfl
   refine (hR.step (p:=ints (faF a g p a.toNat++fbF a h g p j)) (y := .int .i64 (flyY a h g (p*h+(j:Int)))) (hpr ▸ ints_pre ((List.prefix_append_right_inj _).2 (fbF_pre (by omega)))) (by omega) hI3).mono ?_
   rintro v5 H5 (⟨rfl,u,o5,hI5,ho5⟩ | ⟨rfl,hz5⟩)
   ·refine And.intro (fun h=>absurd h (by decide)) (fun _=>?_)
    rw[hpr] at hI5
    have hl5:=u.1
    refine Or.inl ⟨p*h+((j+1:Nat):Int),by omega,by unfold I64;omega, ?_⟩
    exact⟨⟨H5,o5,j+1⟩,⟨by simp only;omega,hI5,k1.upd u ho5,ka.upd u ho5,hlt⟩,by simp only;omega,Or.inl ⟨⟨rfl,rfl,rfl,rfl,trivial⟩,rfl⟩⟩
   ·refine And.intro (fun _=>?_) (fun h=>absurd h (by decide))
    exact hz _ hz5
  ·have:j=hn:=by simp at hc;omega
   subst this
   rw[hhn,Int.toNat_natCast] at hr
   rw[hhn] at hI3
   exact hr _ _ hI3
end Go.Af.Tryz.Ne
namespace Go.Af.Tryz.Ne
open Go Go.Proofs
attribute [local irreducible] awp qo qA qN qI qG isCells qC qw qY

def Sh.near (s:Sh) (x:Int):List Int :=
 match s with
 | .grid g=>nearG g x
 | .fat k n=>nearFa k n x
 | .fly a h=>nearFl a h x

def NearV (s:Sh) (x:Int) (N0 bg:Nat) (H1:List Blk) (fv:Value):Prop :=
 ∃ g first captured,fv = .func (.func g) ⟨first⟩ ⟨captured⟩ /\
   ∀ {H2:List Blk} {l:Nat} {o:Nat->Prop} {I:List Value->(Nat->Prop)->List Blk->Prop} {Z R:List Blk->Prop},(∀ j,j=bg\/(N0<=j/\j<H1.length)->¬ o j/\bget H2 j=bget H1 j) ->
     Rounds Tryz.prog l H2.length (ints (s.near x)) I Z->I [] o H2->(∀ o' H',I (ints (s.near x)) o' H' -> R H')->(∀ H',Z H' -> R H')->qo Tryz.prog g (first++(yV l::captured)) H2 (fun _ H' => R H')


theorem m132 {H:List Blk} {R:Value->List Blk->Prop} {g:List Int} {x:Int} {bg:Nat} {wr:Bool} (hok:(Sh.grid g).ok) (hx:0<=x/\x<(Sh.grid g).sw) (hb:bget H bg=some (.cells wr 1 (ints g)))
 (h : ∀ fv H',NearV (.grid g) x H.length bg H' fv->H'.length=H.length+2->(∀ i,i<H.length->bget H' i=bget H i)->R fv H'):qo Tryz.prog 383 [sv bg g.length, .int .i64 x] H R:=by
 have hbd:=sw_bd hok
 refine qj tok Tryz.call383 Tryz.func383 rfl Tryz.ntmps383 rfl (by simp) ?_
 refine new_of fun H1 a1 a2 a3=>?_
 refine new_of fun H2 c1 c2 c3=>?_
 have a1:H1.length=H.length+1:=a1
 have c1:H2.length=H1.length+1:=c1
 have d2:bget H2 H.length=_:=(c3 H.length (by omega)).trans a2
 refine h _ _ ⟨387,[],[pV H.length,pV H1.length],rfl, ?_⟩ (by omega) (fun i hi=>(c3 i (by omega)).trans (a3 i hi))
 intro H3 l o I Z R' hj hR h0 hr hz
 have o1:=hj H.length (.inr ⟨Nat.le_refl _,by omega⟩)
 have o2:=hj H1.length (.inr ⟨by omega,by omega⟩)
 have o3:=hj bg (.inl rfl)
 have hbl:=wH hb
 exact n136 hok (by omega) ⟨o1.2.trans d2,o1.1⟩ ⟨o2.2.trans c2,o2.1⟩ ⟨(o3.2.trans (c3 bg (by omega))).trans ((a3 bg hbl).trans hb),o3.1⟩ hR h0 hr hz
theorem m141 {H:List Blk} {R:Value->List Blk->Prop} {k n:Int} {x:Int} {bg:Nat} (hok:(Sh.fat k n).ok) (hx:0<=x/\x<(Sh.fat k n).sw)
 (h : ∀ fv H',NearV (.fat k n) x H.length bg H' fv->H'.length=H.length+2->(∀ i,i<H.length->bget H' i=bget H i)->R fv H'):qo Tryz.prog 392 [twoV k n, .int .i64 x] H R:=by
 refine qj tok Tryz.call392 Tryz.func392 rfl Tryz.ntmps392 rfl (by simp) ?_
 refine new_of fun H1 a1 a2 a3=>?_
 refine new_of fun H2 c1 c2 c3=>?_
 have a1:H1.length=H.length+1:=a1
 have c1:H2.length=H1.length+1:=c1
 have d2:bget H2 H.length=_:=(c3 H.length (by omega)).trans a2
 refine h _ _ ⟨398,[],[pV H.length,pV H1.length],rfl, ?_⟩ (by omega) (fun i hi=>(c3 i (by omega)).trans (a3 i hi))
 intro H3 l o I Z R' hj hR h0 hr hz
 have o1:=hj H.length (.inr ⟨Nat.le_refl _,by omega⟩)
 have o2:=hj H1.length (.inr ⟨by omega,by omega⟩)
 exact n147 hok hx ⟨o1.2.trans d2,o1.1⟩ ⟨o2.2.trans c2,o2.1⟩ hR h0 hr hz

theorem m153 {H:List Blk} {R:Value->List Blk->Prop} {a e:Int} {x:Int} {bg:Nat} (hok:(Sh.fly a e).ok) (hx:0<=x/\x<(Sh.fly a e).sw)
 (h : ∀ fv H',NearV (.fly a e) x H.length bg H' fv->H'.length=H.length+2->(∀ i,i<H.length->bget H' i=bget H i)->R fv H'):qo Tryz.prog 404 [twoV a e, .int .i64 x] H R:=by
 refine qj tok Tryz.call404 Tryz.func404 rfl Tryz.ntmps404 rfl (by simp) ?_
 refine new_of fun H1 a1 a2 a3=>?_
 refine new_of fun H2 c1 c2 c3=>?_
 have a1:H1.length=H.length+1:=a1
 have c1:H2.length=H1.length+1:=c1
 have d2:bget H2 H.length=_:=(c3 H.length (by omega)).trans a2
 refine h _ _ ⟨409,[],[pV H.length,pV H1.length],rfl, ?_⟩ (by omega) (fun i hi=>(c3 i (by omega)).trans (a3 i hi))
 intro H3 l o I Z R' hj hR h0 hr hz
 have o1:=hj H.length (.inr ⟨Nat.le_refl _,by omega⟩)
 have o2:=hj H1.length (.inr ⟨by omega,by omega⟩)
 exact n158 hok hx ⟨o1.2.trans d2,o1.1⟩ ⟨o2.2.trans c2,o2.1⟩ hR h0 hr hz

theorem me_near_grid (v : Value) (w : World) : (method (Tryz.prog.types.size + Made.depth) 252 v "armada/net.near").run Tryz.prog w = .ok (383, v) w := by kernel_rfl
theorem me_near_fat (v : Value) (w : World) : (method (Tryz.prog.types.size + Made.depth) 271 v "armada/net.near").run Tryz.prog w = .ok (392, v) w := by kernel_rfl
theorem me_near_fly (v : Value) (w : World) : (method (Tryz.prog.types.size + Made.depth) 273 v "armada/net.near").run Tryz.prog w = .ok (404, v) w := by kernel_rfl
theorem x_near {H:List Blk} {R:Value->List Blk->Prop} {s:Sh} {b n:Nat} {x:Int} (hs:s.ok) (ha:s.at H b n) (hx:0<=x/\x<s.sw)
 (h : ∀ fv H', NearV s x H.length b H' fv → H'.length = H.length + 2 → (∀ i, i < H.length → bget H' i = bget H i) → R fv H') : qI Tryz.prog (shT s) (shU (sv b n) s) "armada/net.near" [.int .i64 x] H R := by
 unfold qI
 cases s with
 | grid g =>
   obtain ⟨rfl,wr,hb⟩:=ha
   exact⟨383,me_near_grid,m132 hs hx hb h⟩
 | fat k n=>exact⟨392,me_near_fat,m141 hs hx h⟩
 | fly k n=>exact⟨404,me_near_fly,m153 hs hx h⟩
end Go.Af.Tryz.Ne
namespace Go.Af.Tryz.Ne
open Go

theorem preG_all {g e:List Int} {P:Int->Prop} (h : ∀ i,i<g.length->∀ d:Int,d=1\/d = -1->P (numF g (e.set i (vg g[i]! d e[i]!)))) : ∀ n,n<=g.length->(∀ y∈preG g e n,P y)/\(preG g e n).length<=2*n
 | 0,_=>⟨fun y hy=>by simp[preG] at hy,by simp[preG]⟩
 | n+1,hn=>by
   obtain ⟨h1,h2⟩:=preG_all h n (by omega)
   have e2:nbK g e n 2=numF g (e.set n (vg g[n]! 1 e[n]!))::(if g[n]! = 2 then [] else [numF g (e.set n (vg g[n]! (-1) e[n]!))]):=rfl
   constructor
   ·intro y hy
    rw[preG,List.mem_append,e2,List.mem_cons] at hy
    rcases hy with hy | rfl | hy
    ·exact h1 y hy
    ·exact h n (by omega) 1 (.inl rfl)
    ·split at hy
     ·cases hy
     ·rw[List.mem_singleton] at hy;subst hy;exact h n (by omega) (-1) (.inr rfl)
   ·rw[preG,List.length_append,e2,List.length_cons]
    split <;> simp <;> omega
theorem nearG_in {g:List Int} {x:Int} (hok:(Sh.grid g).ok) (hx:0<=x):(∀ y∈nearG g x,0<=y/\y<vV g)/\(nearG g x).length<=8:=by
 obtain ⟨h1,h2,h3,h4⟩:=hok
 have hg2 : ∀ m∈g,2<=m:=fun m h=>(h3 m h).1
 have hci:=wL hx g hg2
 obtain ⟨a,b⟩:=preG_all (g:=g) (e:=ql g x) (P:=fun y=>0<=y/\y<vV g) (fun i hi d hd=>by
  have hm:2<=g[i]! := by rw[getElem!_pos g i hi];exact hg2 _ (List.getElem_mem hi)
  have hst:=step_in hm hd (hci.2 i hi).1
  have hin:=hci.set hi hst.1 hst.2
  have:=num_lt hin g.length (Nat.le_refl _)
  rwa [List.take_length,List.take_of_length_le (by rw[hin.1];exact Nat.le_refl _)] at this) g.length (Nat.le_refl _)
 exact⟨a,by unfold nearG;omega⟩

theorem ndF_in {k:Int} (hk:2<=k) {N dg lv:Nat} {w n:Int} (hdg:dg<N) (h0:0<=w) (h1:w<k ^ N) (hlv:(lv:Int)<n) {m:Nat} : ∀ y∈ndF k N w dg lv m,0<=y/\y<n*k ^ N:=by
 intro y hy
 obtain ⟨d,_,rfl⟩:=List.mem_map.1 hy
 have hp:=powpos (k:=k) (by omega) dg
 have hP:=powpos (k:=k) (by omega) N
 obtain ⟨⟨a,b⟩,_,_⟩:=lik_in hk hdg h0 h1 (o:=(d:Int)*k ^ dg) (Int.mul_nonneg (by omega) (by omega))
 have e:=Int.mul_le_mul_of_nonneg_right (show (lv:Int)+1<=n by omega) (show 0<=k ^ N by omega)
 have e2:((lv:Int)+1)*k ^ N=lv*k ^ N+k ^ N:=by rw[Int.add_mul,Int.one_mul]
 have e3:0<=(lv:Int)*k ^ N:=Int.mul_nonneg (by omega) (by omega)
 omega
theorem nearFa_in {k n x:Int} (hok:(Sh.fat k n).ok) (hx:0<=x/\x<(Sh.fat k n).sw):(∀ y∈nearFa k n x,0<=y/\y<(Sh.fat k n).sw)/\(nearFa k n x).length<=16:=by
 obtain ⟨hk,hn,_⟩:=hok
 simp only[Sh.sw] at hx ⊢
 unfold nearFa
 obtain ⟨N,hN⟩ : ∃ N,(n-1).toNat=N:=⟨_,rfl⟩
 rw[hN] at hx ⊢
 have hP:=powpos (k:=k) (by omega) N
 have hw0:0<=x.tmod (k ^ N):=Int.tmod_nonneg _ hx.1
 have hw1:x.tmod (k ^ N)<k ^ N:=Int.tmod_lt_of_pos _ (by omega)
 have hl0:=Int.tdiv_nonneg (a:=x) (b:=k ^ N) hx.1 (by omega)
 have hl1:x.tdiv (k ^ N)<n:=by
  rw[Int.tdiv_eq_ediv_of_nonneg hx.1]
  exact Int.ediv_lt_of_lt_mul (by omega) (by omega)
 generalize x.tmod (k ^ N)=w at *
 obtain ⟨ln,hln⟩ : ∃ ln:Nat,x.tdiv (k ^ N)=ln:=⟨(x.tdiv (k ^ N)).toNat,by omega⟩
 rw[hln,Int.toNat_natCast]
 have e:upN k n N w ln 2=nuF k n N w ln 0++nuF k n N w ln 1:=by simp[upN]
 have hkk:k.toNat<=8:=by omega
 rw[e]
 have p0:(∀ y∈nuF k n N w ln 0,0<=y/\y<n*k ^ N)/\(nuF k n N w ln 0).length<=8:=by
  cases ln with
  | zero=>exact⟨fun y hy=>(by cases hy),by simp[nuF]⟩
  | succ dn=>exact⟨ndF_in hk.1 (by omega) hw0 hw1 (by omega),by simp[nuF,ndF];omega⟩
 have p1:(∀ y∈nuF k n N w ln 1,0<=y/\y<n*k ^ N)/\(nuF k n N w ln 1).length<=8:=by
  simp only[nuF]
  split
  ·exact⟨ndF_in hk.1 (by omega) hw0 hw1 (by omega),by simp[ndF];omega⟩
  ·exact⟨fun y hy=>(by cases hy),by simp⟩
 exact⟨fun y hy=>(List.mem_append.1 hy).elim (p0.1 y) (p1.1 y),by rw[List.length_append];omega⟩

theorem faF_in {a g p M:Int} (ha:1<=a) (h0:0<=g) (h1:g<M) : ∀ m:Nat,(m:Int)<=a->(∀ y∈faF a g p m,0<=y/\y<a*M)/\(faF a g p m).length<=m
 | 0,_=>⟨fun y hy=>(by cases hy),by simp[faF]⟩
 | m+1,hm=>by
   obtain ⟨a1,a2⟩:=faF_in (p:=p) ha h0 h1 m (by omega)
   have e:=Int.mul_le_mul_of_nonneg_left (show g+1<=M by omega) (show 0<=a by omega)
   have e2:a*(g+1)=g*a+a:=by rw[Int.mul_add,Int.mul_one,Int.mul_comm]
   have e3:0<=g*a:=Int.mul_nonneg h0 (by omega)
   constructor
   ·intro y hy
    rw[faF,List.mem_append] at hy
    rcases hy with hy | hy
    ·exact a1 y hy
    ·split at hy
     ·cases hy
     ·rw[List.mem_singleton] at hy;omega
   ·rw[faF,List.length_append]
    split <;> simp <;> omega
theorem fbF_in {a h g p:Int} (ha:1<=a) (hh:1<=h) (h0:0<=g) (p0:0<=p) (p1:p<a) : ∀ j:Nat,(j:Int)<=h->(∀ y∈fbF a h g p j,0<=y/\y<a*(a*h+1))/\(fbF a h g p j).length=j
 | 0,_=>⟨fun y hy=>(by cases hy),(by simp[fbF])⟩
 | j+1,hj=>by
   obtain ⟨a1,a2⟩:=fbF_in ha hh h0 p0 p1 j (by omega)
   refine⟨fun y hy=>?_,by rw[fbF,List.length_append,a2];rfl⟩
   rw[fbF,List.mem_append,List.mem_singleton] at hy
   rcases hy with hy | rfl
   ·exact a1 y hy
   ·have hah:0<=a*h:=Int.mul_nonneg (by omega) (by omega)
    have q1:(p+1)*h<=a*h:=Int.mul_le_mul_of_nonneg_right (by omega) (by omega)
    have q2:(p+1)*h=p*h+h:=by rw[Int.add_mul,Int.one_mul]
    have q3:0<=p*h:=Int.mul_nonneg p0 (by omega)
    unfold flyY porF
    have g0:0<=(g+(p*h+(j:Int))+1).tmod (a*h+1):=Int.tmod_nonneg _ (by omega)
    have g1:(g+(p*h+(j:Int))+1).tmod (a*h+1)<a*h+1:=Int.tmod_lt_of_pos _ (by omega)
    generalize (g+(p*h+(j:Int))+1).tmod (a*h+1)=gy at *
    have d0:0<=(a*h+1-2-(p*h+(j:Int))).tdiv h:=Int.tdiv_nonneg (by omega) (by omega)
    have d1:(a*h+1-2-(p*h+(j:Int))).tdiv h<a:=by
     rw[Int.tdiv_eq_ediv_of_nonneg (by omega)]
     exact Int.ediv_lt_of_lt_mul (by omega) (by omega)
    have e:=Int.mul_le_mul_of_nonneg_left (show gy+1<=a*h+1 by omega) (show 0<=a by omega)
    have e2:a*(gy+1)=gy*a+a:=by rw[Int.mul_add,Int.mul_one,Int.mul_comm]
    have e3:0<=gy*a:=Int.mul_nonneg g0 (by omega)
    omega
theorem nearFl_in {a h x:Int} (hok:(Sh.fly a h).ok) (hx:0<=x/\x<(Sh.fly a h).sw):(∀ y∈nearFl a h x,0<=y/\y<(Sh.fly a h).sw)/\(nearFl a h x).length<=20:=by
 obtain ⟨ha,hh,_⟩:=hok
 simp only[Sh.sw] at hx ⊢
 unfold nearFl
 have g0:0<=x.tdiv a:=Int.tdiv_nonneg hx.1 (by omega)
 have g1:x.tdiv a<a*h+1:=by
  rw[Int.tdiv_eq_ediv_of_nonneg hx.1]
  exact Int.ediv_lt_of_lt_mul (by omega) (by rw[Int.mul_comm];exact hx.2)
 have p0:0<=x.tmod a:=Int.tmod_nonneg _ hx.1
 have p1:x.tmod a<a:=Int.tmod_lt_of_pos _ (by omega)
 have q1:=faF_in (p:=x.tmod a) ha.1 g0 g1 a.toNat (by omega)
 have q2:=fbF_in ha.1 hh.1 g0 p0 p1 h.toNat (by omega)
 exact⟨fun y hy=>(List.mem_append.1 hy).elim (q1.1 y) (q2.1 y),by rw[List.length_append];omega⟩

theorem near_in {s:Sh} {x:Int} (hok:s.ok) (hx:0<=x/\x<s.sw):(∀ y∈s.near x,0<=y/\y<s.sw)/\(s.near x).length<=20:=by
 cases s with
 | grid g=>have:=nearG_in hok hx.1;exact⟨this.1,by have:=this.2;simp only[Sh.near];omega⟩
 | fat k n=>have:=nearFa_in hok hx;exact⟨this.1,by have:=this.2;simp only[Sh.near];omega⟩
 | fly a h=>exact nearFl_in hok hx
end Go.Af.Tryz.Ne
namespace Go.Af.Tryz.Ne
open Go Go.Proofs
attribute [local irreducible] awp qo qA qN qI qG isCells qC qw qY ve qM roundEnd

abbrev bls (gs:List Bool):List Value:=gs.map Value.bool
end Go.Af.Tryz.Ne
namespace Go.Af.Tryz.Ne
open Go Go.Proofs
attribute [local irreducible] awp qo qA qN qI

end Go.Af.Tryz.Ne
namespace Go.Af.Tryz.Ne
open Go Go.Proofs
attribute [local irreducible] awp qo qA qN qI qG isCells qC qw qY

end Go.Af.Tryz.Ne
namespace Go.Af.Tryz.Ne
open Go Go.Proofs
attribute [local irreducible] awp qo qA qN qI qG isCells qC qw qY





end Go.Af.Tryz.Ne
namespace Go.Af.Tryz.Ne
open Go Go.Proofs
attribute [local irreducible] awp qo qA qN qI qG isCells qC qw qY





end Go.Af.Tryz.Ne
namespace Go.Af.Tryz.Ne
open Go Go.Proofs
attribute [local irreducible] awp qo qA qN qI qG isCells qC qw qY

end Go.Af.Tryz.Ne
namespace Go.Af.Tryz.Ne
open Go Go.Proofs
attribute [local irreducible] awp qo qA qN qI qG isCells qC qw qY ve qM roundEnd


end Go.Af.Tryz.Ne
namespace Go.Af.Tryz.Ne
open Go

end Go.Af.Tryz.Ne
namespace Go.Af.Tryz.Ne
open Go

end Go.Af.Tryz.Ne
namespace Go.Af.Tryz.Ne
open Go

end Go.Af.Tryz.Ne
namespace Go.Af.Tryz.Ne
open Go

theorem set_get_self {c:List Int} {i:Nat} {z:Int} (h:i<c.length):(c.set i z)[i]! = z:=by rw[getElem!_pos _ i (by simpa using h),List.getElem_set_self]
end Go.Af.Tryz.Ne
namespace Go.Af.Tryz.Ne
open Go

end Go.Af.Tryz.Ne
namespace Go.Af.Tryz.Ne
open Go Go.Proofs
attribute [local irreducible] awp qo qA qN qI

end Go.Af.Tryz.Ne
namespace Go.Af.Tryz.Ne
open Go Go.Proofs
attribute [local irreducible] awp qo qA qN qI qG isCells qC qw qY

abbrev none' : Nat->Prop:=fun _=>False
end Go.Af.Tryz.Ne
namespace Go.Af.Tryz.Ne
open Go Go.Proofs
theorem tistring:TIOk Tryz.prog 9 ⟨.str,1,16, .string ⟨#[]⟩⟩:=⟨Tryz.underlying9,by kernel_rfl,rfl⟩
theorem tiuint:TIOk Tryz.prog 261 ⟨.int .u64,1,8, .int .u64 0⟩:=⟨Tryz.underlying261,by kernel_rfl,rfl⟩
theorem tiuint64:TIOk Tryz.prog 338 ⟨.int .u64,1,8, .int .u64 0⟩:=⟨Tryz.underlying338,by kernel_rfl,rfl⟩
def T71:TT:=(9,⟨.str,1,16, .string ⟨#[]⟩⟩)::(261,⟨.int .u64,1,8, .int .u64 0⟩)::(338,⟨.int .u64,1,8, .int .u64 0⟩)::T
theorem tok71:TOk Tryz.prog T71:=⟨tistring,tiuint,tiuint64,tok⟩
end Go.Af.Tryz.Ne
