/-
  Routes in a torus: plain functions. No program is in sight.
  Routes in a tree: plain functions. No program is in sight.
-/
import Derived.Test.YtgdbclgcbbbenaaGreatMT
import Derived.Test.YtgdbclgcbbbenaaGreatMCA
set_option linter.all false
namespace Go.Af.Tryz.Ne
open Go

def vk (m d a:Int):Int:=(a+d+m).tmod m
theorem step_up {m a:Int} (hm:2<=m) (h0:0<=a) (h1:a<m):vk m 1 a=if a=m-1 then 0 else a+1:=by
 unfold vk
 rw[Int.tmod_eq_emod_of_nonneg (by omega),Int.add_emod_right]
 split
 ·rename_i h;subst h;rw[show m-1+1=m by omega,Int.emod_self]
 ·rw[Int.emod_eq_of_lt (by omega) (by omega)]
theorem step_dn {m a:Int} (hm:2<=m) (h0:0<=a) (h1:a<m):vk m (-1) a=if a=0 then m-1 else a-1:=by
 unfold vk
 rw[Int.tmod_eq_emod_of_nonneg (by omega)]
 split
 ·rename_i h;subst h;rw[Int.emod_eq_of_lt (by omega) (by omega)];omega
 ·rw[Int.add_emod_right,Int.emod_eq_of_lt (by omega) (by omega)];omega

def distF (m d a t:Int):Nat:=if d=1 then (if a<=t then (t-a).toNat else (t-a+m).toNat) else (if t<=a then (a-t).toNat else (a-t+m).toNat)
theorem dist_zero {m d a t:Int} (h0:0<=a) (h1:a<m) (k0:0<=t) (k1:t<m):distF m d a t=0↔a=t:=by
 unfold distF
 split <;> split <;> omega
theorem dist_step {m d a t:Int} (hm:2<=m) (hd:d=1\/d = -1) (h0:0<=a) (h1:a<m) (k0:0<=t) (k1:t<m) (hne:a≠t):distF m d (vk m d a) t+1=distF m d a t/\0<=vk m d a/\vk m d a<m:=by
 rcases hd with rfl | rfl
 ·rw[step_up hm h0 h1]
  simp only[distF,if_true]
  refine⟨?_, ?_, ?_⟩
  ·(repeat' split) <;> omega
  ·split <;> omega
  ·split <;> omega
 ·rw[step_dn hm h0 h1]
  simp only[distF,show ((-1:Int)=1)=False by simp,if_false]
  refine⟨?_, ?_, ?_⟩
  ·(repeat' split) <;> omega
  ·split <;> omega
  ·split <;> omega
def inn (g:List Int) (i:Nat) (m d:Int):Nat->List Int->Int->List Int->List Int->List Int × List Int × List Int
 | 0,e,_,p,q=>(e,p,q)
 | k+1,e,c,p,q =>
   inn g i m d k (e.set i (vk m d e[i]!)) (if vk m d e[i]! - e[i]! ≠ d then 1 else c) (p ++ [numF g (e.set i (vk m d e[i]!))]) (q ++ [if vk m d e[i]! - e[i]! ≠ d then 1 else c])
def dirF (m a t:Int):Int:=if m<2*(t + -a+m).tmod m then -1 else 1
def outr (g ts:List Int):Nat->Nat->List Int->List Int->List Int->List Int × List Int
 | 0,_,_,p,q=>(p,q)
 | k+1,i,e,p,q =>
   let r:=inn g i g[i]! (dirF g[i]! e[i]! ts[i]!) (distF g[i]! (dirF g[i]! e[i]! ts[i]!) e[i]! ts[i]!) e 0 p q
   outr g ts k (i+1) r.1 r.2.1 r.2.2
def torF (g:List Int) (x y:Int):List Int × List Int:=outr g (wR g y) g.length 0 (wR g x) [x] []

def InR (g e:List Int):Prop:=e.length=g.length/\∀ i,i<g.length->0<=e[i]! /\ e[i]! < g[i]!
theorem quo_nn {x:Int} (hx:0<=x) : ∀ (g:List Int) (_ : ∀ m∈g,2<=m),0<=quoF g x
 | [],_=>hx
 | m::r,hg=>Int.tdiv_nonneg (quo_nn hx r (fun m hm=>hg m (by simp[hm]))) (by have:=hg m (by simp);omega)
theorem coords_in {x:Int} (hx:0<=x) : ∀ (g:List Int) (_ : ∀ m∈g,2<=m),InR g (wR g x)
 | [],_=>⟨rfl,fun i hi=>by simp at hi⟩
 | m::r,hg=>by
   obtain ⟨h1,h2⟩:=coords_in hx r (fun m hm=>hg m (by simp[hm]))
   have hm:=hg m (by simp)
   refine⟨by simp[wR,h1],fun i hi=>?_⟩
   cases i with
   | zero =>
     have hq:=quo_nn hx r (fun m hm=>hg m (by simp[hm]))
     simp only[wR,List.getElem!_cons_zero]
     exact⟨Int.tmod_nonneg m hq,Int.tmod_lt_of_pos _ (by omega)⟩
   | succ i =>
     simp only[wR,List.getElem!_cons_succ]
     exact h2 i (by simpa using hi)
theorem InR.set {g e:List Int} (h:InR g e) {i:Nat} (hi:i<g.length) {a:Int} (h0:0<=a) (h1:a<g[i]!):InR g (e.set i a):=by
 refine⟨by simp[h.1],fun j hj=>?_⟩
 have hle:j<(e.set i a).length:=by simp[h.1,hj]
 rw[getElem!_pos _ j hle,List.getElem_set]
 split
 ·rename_i hij;subst hij;exact⟨h0,h1⟩
 ·have:=h.2 j hj
  rw[getElem!_pos e j (by rw[h.1];exact hj)] at this;exact this
theorem num_snoc {g e:List Int} {i:Nat} (hi:i<g.length) (hl:e.length=g.length):numF (g.take (i+1)) (e.take (i+1))=numF (g.take i) (e.take i)*g[i]! + e[i]! := by
 unfold numF
 rw[List.take_succ_eq_append_getElem hi,List.take_succ_eq_append_getElem (show i<e.length by omega),List.zip_append (by simp;omega),getElem!_pos g i hi,getElem!_pos e i (by omega)]
 simp
theorem num_lt {g e:List Int} (h:InR g e) : ∀ i,i<=g.length->0<=numF (g.take i) (e.take i)/\numF (g.take i) (e.take i)<prodF (g.take i)
 | 0,_=>by simp[numF,prodF]
 | i+1,hi=>by
   obtain ⟨h1,h2⟩:=num_lt h i (by omega)
   obtain ⟨h3,h4⟩:=h.2 i (by omega)
   rw[num_snoc (by omega) h.1,prodF_snoc g i (by omega)]
   have h5:=Int.mul_nonneg h1 (show 0<=g[i]! by omega)
   have h6:=Int.mul_le_mul_of_nonneg_right (show numF (g.take i) (e.take i)+1<=prodF (g.take i) by omega) (show 0<=g[i]! by omega)
   rw[Int.add_mul] at h6
   omega
theorem num_i64 {g e:List Int} (h:InR g e) (hg : ∀ i,1<=prodF (g.take i)/\prodF (g.take i)<=256) (i:Nat) (hi:i<g.length):I64 (numF (g.take i) (e.take i)*g[i]!)/\I64 (numF (g.take (i+1)) (e.take (i+1))):=by
 obtain ⟨h1,h2⟩:=num_lt h i (by omega)
 obtain ⟨h3,h4⟩:=num_lt h (i+1) (by omega)
 have h5:=hg (i+1)
 obtain ⟨k1,k2⟩:=h.2 i hi
 have h6:=Int.mul_nonneg h1 (show 0<=g[i]! by omega)
 rw[num_snoc hi h.1] at h3 h4
 rw[num_snoc hi h.1]
 unfold I64;omega
end Go.Af.Tryz.Ne
namespace Go.Af
open Go
theorem zx {H:List Blk} {b j c2:Nat} {wr:Bool} {p:List Int} {z:Int} {K:Value->List Blk->Prop} (hs:bget H j=some (.cells wr 1 [.int .i64 z])) (hb:bget H b=some (.cells true 1 (ints p))) (hl:p.length<=1000000000)
 (h:ww H b .dead (fun H' => zh H' 0 (.cells true 1 (ints (p ++ [z]))) (fun i H'' => K (.slice (some ⟨i,0,none⟩) (p ++ [z]).length (p ++ [z]).length) H''))):qI H 1 8 (sv b p.length) (.slice (some ⟨j,0,none⟩) 1 c2) K:=by
 refine⟨by decide, ?_⟩
 simp only[appSrc,hs]
 refine⟨.inr (by simp),_,rfl,by rfl, .inr ⟨by decide, ?_⟩⟩
 rw[hb]
 refine⟨rfl, .inr ⟨by omega,by omega, .inr (by simp),_,rfl, ?_⟩⟩
 rw[qM] at h ⊢
 rw[vM] at h
 simp only[qx,vM]
 have e:(List.take (p.length*1) (List.drop 0 (ints p))++List.take (1*1) (List.drop 0 [Value.int IntKind.i64 z]))=ints (p ++ [z]):=by
  rw[Nat.mul_one,List.drop_zero,List.take_of_length_le (by simp)];simp[ints]
 have e2:(p ++ [z]).length=p.length+1:=by simp
 rw[e2] at h
 rw[e];exact h
theorem app_nil {H:List Blk} {j c2:Nat} {wr:Bool} {z:Int} {K:Value->List Blk->Prop} (hs:bget H j=some (.cells wr 1 [.int .i64 z]))
 (h:zh H 0 (.cells true 1 (ints [z])) (fun i H'' => K (.slice (some ⟨i,0,none⟩) 1 1) H'')):qI H 1 8 (.slice none 0 0) (.slice (some ⟨j,0,none⟩) 1 c2) K:=by
 refine⟨by decide, ?_⟩
 simp only[appSrc,hs]
 exact⟨.inr (by simp),_,rfl,by rfl, .inr ⟨by decide,by decide,h⟩⟩
end Go.Af
namespace Go.Af.Tryz.Ne
open Go Go.Proofs
attribute [local irreducible] awp qi qw qH qy

theorem c137 {H:List Blk} {R:Value->List Blk->Prop} {b:Nat} {wr:Bool} {g:List Int} (i:Nat) (hi:i<g.length) (c d:Int) (h1:I64 (c+d)) (h2:I64 (c+d+g[i]!)) (h3:g[i]! ≠ 0) (hb:bget H b=some (.cells wr 1 (ints g))) (h:R (.int .i64 (vk g[i]! d c)) H) :
 qw Tryz.prog 388 [sv b g.length, .int .i64 i, .int .i64 c, .int .i64 d] H R :=
 vP (l137 g i hi c d h1 h2 h3) [(b,0)] rfl (.cons (VRen.slice rfl rfl (Nat.le_refl _)) (.cons (.int _ _) (.cons (.int _ _) (.cons (.int _ _) .nil))))
  ⟨⟨_,hb,BRen.seg fun i x hx=>by rw[Nat.zero_add,ve,hx];rfl⟩,trivial⟩ rfl h
theorem c66 {H:List Blk} {R:Value->List Blk->Prop} {b:Nat} {wr:Bool} {g:List Int} {x:Int} (hg : ∀ m∈g,2<=m) (hl:g.length<=1000) (hx:I64 x) (hb:bget H b=some (.cells wr 1 (ints g)))
 (h:zh H 0 (rw' (wR g x)) (fun i H' => R (.slice (some ⟨i,0,none⟩) g.length g.length) H')):qw Tryz.prog 157 [sv b g.length, .int .i64 x] H R :=
 acallx_r (H2 := [ro g]) (l66 g hg hl x hx) [(b,0)] rfl (.cons (VRen.slice rfl rfl (Nat.le_refl _)) (.cons (.int _ _) .nil)) ⟨⟨_,hb,BRen.seg fun i x hx=>by rw[Nat.zero_add,ve,hx];rfl⟩,trivial⟩ h
theorem c67 {H:List Blk} {R:Value->List Blk->Prop} {b j:Nat} {wr wr2:Bool} {g e:List Int} (hl:e.length=g.length) (hL:g.length<=1000) (hn : ∀ i,i<g.length->I64 (numF (g.take i) (e.take i)*g[i]!)/\I64 (numF (g.take (i+1)) (e.take (i+1)))) (hb:bget H b=some (.cells wr 1 (ints g)))
 (hj:bget H j=some (.cells wr2 1 (ints e))) (h:R (.int .i64 (numF g e)) H):qw Tryz.prog 158 [sv b g.length,sv j g.length] H R :=
 vP (l67 g e hl.symm (by omega) hn) [(b,0),(j,0)] rfl (.cons (VRen.slice rfl rfl (Nat.le_refl _)) (.cons (by rw[<- hl];exact VRen.slice rfl rfl (Nat.le_refl _)) .nil))
  ⟨⟨_,hb,BRen.seg fun i x hx=>by rw[Nat.zero_add,ve,hx];rfl⟩,⟨_,hj,BRen.seg fun i x hx=>by rw[Nat.zero_add,ve,hx];rfl⟩,trivial⟩ rfl h

def qV (j:Nat):List Int->Value
 | []=>.slice none 0 0
 | z::q=>sv j (z::q).length
def qB:List Int->Blk
 | []=>ro []
 | z::q=>rw' (z::q)
theorem bren_nil {ι : List (Nat × Nat)} {s z:Nat} {wr:Bool} {vs:List Value}:BRen ι s (.cells false z []) (.cells wr z vs):=BRen.cells (fun h=>by cases h) fun i x hx=>by simp at hx
def qL:List Int->List Blk
 | []=>[]
 | z::q=>[rw' (z::q)]
theorem dirF_two (m a t:Int):dirF m a t=1\/dirF m a t = -1:=by unfold dirF;split <;> simp

theorem set_int (e:List Int) (i:Nat) (a:Int):setSeg (ints e) (0+i*1) (qA (.int .i64 a))=ints (e.set i a):=by
 rw[Nat.zero_add,Nat.mul_one];simp[qA,setSeg_one,ints_set]
theorem dist_le {m d a t:Int} (hm:m<=16) (h0:0<=a) (h1:a<m) (k0:0<=t) (k1:t<m):distF m d a t<=16:=by
 unfold distF;(repeat' split) <;> omega



set_option maxHeartbeats 8000000 in
theorem l133 (g:List Int) (hok:(Sh.grid g).ok) (x y:Int) (hx:0<=x/\x<=65536) (hy:0<=y/\y<=65536):qi Tryz.prog 384 [sv 0 g.length, .int .i64 x, .int .i64 y] [ro g]
 (fun v H=>v = .tuple ⟨[sv 1 (torF g x y).1.length,qV 2 (torF g x y).2]⟩/\H = [ro g,rw' (torF g x y).1]++qL (torF g x y).2):=by
 obtain ⟨hl1,hl2,hm,hp⟩:=hok
 have hg2 : ∀ m∈g,2<=m:=fun m h=>(hm m h).1
 have hgi : ∀ i,i<g.length->2<=g[i]! /\ g[i]! <= 16:=fun i hi=>by rw[getElem!_pos g i hi];exact hm _ (List.getElem_mem hi)
 have hci:=coords_in hx.1 g hg2
 have hti:=coords_in hy.1 g hg2
 refine qR (qh tok Tryz.call384 Tryz.func384 rfl Tryz.ntmps384 rfl (by simp) ?_)
 (repeat refine goZ ?_)
 (first | refine c66 hg2 (by omega) (xO hx) rfl ?_ | refine (c66 hg2 (by omega) (xO hx) rfl ?_).call)
 (repeat refine goZ ?_)
 (first | refine c66 hg2 (by omega) (xO hy) rfl ?_ | refine (c66 hg2 (by omega) (xO hy) rfl ?_).call)
 (repeat refine goZ ?_)
 have hcst0:outr g (wR g y) (g.length-0) 0 (wR g x) [x] []=torF g x y:=rfl
 generalize wR g y=ts at hti hcst0 ⊢
 refine qN (α := Nat × List Int × List Int × List Int) tok (fun | (i,e,p,q)=>i<=g.length/\InR g e/\p.length<=1+16*i/\q.length+1=p.length/\outr g ts (g.length-i) i e p q=torF g x y)
  (fun | (i,_,p,q)=>[(0,sv 0 g.length),(8,sv 1 g.length),(9,sv 2 g.length),(6,sv 3 p.length),(7,qV 4 q),(23,sv 0 g.length),(24, .int .i64 g.length),(25, .int .i64 i)])
  (fun | (_,e,p,q)=>[ro g,rw' e,rw' ts,rw' p,qB q]) (fun p=>g.length-p.1) (0,wR g x,[x],[]) ⟨Nat.zero_le _,hci,by simp,rfl,hcst0⟩ ?_ ?_
 ·refine Or.inr ⟨[(0,0),(1,0),(2,0),(3,0),(0,0)],by simp,qF rfl, ?_,rfl, ?_⟩
  ·exact⟨⟨_,rfl,BRen.ints _ _ _⟩,⟨_,rfl,BRen.ints _ _ _⟩,⟨_,rfl,BRen.ints _ _ _⟩,⟨_,rfl,BRen.ints _ _ [x]⟩,⟨_,rfl,bren_nil⟩,trivial⟩
  ·exact⟨⟨_,rfl,VRen.slice rfl rfl (Nat.le_refl _)⟩,⟨_,rfl,VRen.slice rfl rfl (Nat.le_refl _)⟩,⟨_,rfl,VRen.slice rfl rfl (Nat.le_refl _)⟩,⟨_,rfl,VRen.slice rfl rfl (Nat.le_refl _)⟩,⟨_,rfl,VRen.nilslice⟩,⟨_,rfl,VRen.slice rfl rfl (Nat.le_refl _)⟩,⟨_,rfl,VRen.int _ _⟩,⟨_,rfl,VRen.int _ _⟩,trivial⟩
 rintro ⟨i,e,p,q⟩ ⟨hi,hin,hpl,hql,hcst⟩
 refine And.intro (fun hc=>?_) (fun hc=>?_)
 ·have hlt:i<g.length:=by simpa using hc
  obtain ⟨hm2,hm16⟩:=hgi i hlt
  obtain ⟨ha0,ha1⟩:=hin.2 i hlt
  obtain ⟨ht0,ht1⟩:=hti.2 i hlt
  obtain ⟨k,hk⟩ : ∃ k,g.length-i=k+1:=⟨g.length-i-1,by omega⟩
  refine⟨i,rfl,hlt, ?_⟩
  refine vO i g[i]! (by simp) (by simp[hlt]) ?_
  refine qZ tok mx [0,0,0,0,12,28,0,0,192,448,960,2047,4095,0,16383] [false,false,false,false,false,false,true,true,true,true,true,false,false,true,false] [0,1,2,3,4,5,6,7,8,9,10,13,11,12,14] (by kernel_rfl) ?_
  refine⟨i,rfl,hlt, ?_⟩
  refine vO i ts[i]! (by simp) (by simp[hti.1,hlt]) ?_
  refine⟨i,rfl,hlt, ?_⟩
  refine vO i e[i]! (by simp) (by simp[hin.1,hlt]) ?_
  refine Or.inl ⟨-e[i]!,by omega,by unfold I64;omega, ?_⟩
  (first | refine c137 i hlt ts[i]! (-e[i]!) (by unfold I64;omega) (by unfold I64;omega) (by omega) rfl ?_ | refine (c137 i hlt ts[i]! (-e[i]!) (by unfold I64;omega) (by unfold I64;omega) (by omega) rfl ?_).call)
  have hst:0<=vk g[i]! (-e[i]!) ts[i]! /\ vk g[i]! (-e[i]!) ts[i]! < g[i]! := ⟨Int.tmod_nonneg _ (by omega),Int.tmod_lt_of_pos _ (by omega)⟩
  refine Or.inl ⟨2*vk g[i]! (-e[i]!) ts[i]!,rfl,by unfold I64;omega, ?_⟩
  obtain ⟨r0,hr0⟩ : ∃ r0,inn g i g[i]! (dirF g[i]! e[i]! ts[i]!) (distF g[i]! (dirF g[i]! e[i]! ts[i]!) e[i]! ts[i]!) e 0 p q=r0:=⟨_,rfl⟩
  have hr0' := hr0
  refine And.intro (fun hd=>?_) (fun hd=>?_)
  ·have hd:g[i]! < 2*vk g[i]! (-e[i]!) ts[i]! := by simpa using hd
   have hdir:dirF g[i]! e[i]! ts[i]! = -1:=if_pos hd
   rw[hdir] at hr0
   refine qN (α := Nat × List Int × Int × List Int × List Int) tok (fun | (d,e',c,p',q')=>InR g e' /\ d=distF g[i]! (-1) e'[i]! ts[i]! /\ p'.length+d<=1+16*i+16/\q'.length+1=p'.length/\inn g i g[i]! (-1) d e' c p' q' = r0)
    (fun | (_,_,c,p',q')=>[(0,sv 0 g.length),(8,sv 1 g.length),(9,sv 2 g.length),(6,sv 3 p'.length),(7,qV 4 q'),(23,sv 0 g.length),(24, .int .i64 g.length),(25, .int .i64 i),(10, .int .i64 i),(11, .int .i64 g[i]!),(12, .int .i64 (-1)),(13, .int .i64 c)])
    (fun | (_,e',_,p',q')=>[ro g,rw' e',rw' ts,rw' p',qB q']) (fun p=>p.1) (distF g[i]! (-1) e[i]! ts[i]!,e,0,p,q) ⟨hin,rfl,by have:=dist_le (d := -1) hm16 ha0 ha1 ht0 ht1;omega,hql,hr0⟩ ?_ ?_
   ·exact Or.inl ⟨⟨rfl,rfl,rfl,rfl,rfl,rfl,rfl,rfl,rfl,rfl,rfl,rfl,trivial⟩,rfl⟩
   rintro ⟨d,e',c,p',q'⟩ ⟨ein,edd,epl,eql,hcon⟩
   obtain ⟨b0,b1⟩:=ein.2 i hlt
   refine qZ tok mx [0,0,3,7,0,0,48,112,255] [false,false,false,false,true,true,true,true,false] [0,1,2,3,4,5,6,7,8] (by kernel_rfl) ?_
   refine⟨i,rfl,hlt, ?_⟩
   refine vO i e'[i]! (by simp) (by simp[ein.1,hlt]) ?_
   refine⟨i,rfl,hlt, ?_⟩
   refine vO i ts[i]! (by simp) (by simp[hti.1,hlt]) ?_
   refine And.intro (fun hn=>?_) (fun hn=>?_)
   ·have hn : ¬ e'[i]! = ts[i]! := by simpa using hn
    have hs2:=dist_step (d := -1) hm2 (by decide) b0 b1 ht0 ht1 hn
    obtain ⟨d,rfl⟩ : ∃ d',d=d' + 1:=⟨d-1,by omega⟩
    refine⟨i,rfl,hlt, ?_⟩
    refine vO i e'[i]! (by simp) (by simp[ein.1,hlt]) ?_
    (first | refine c137 i hlt e'[i]! (-1) (by unfold I64;omega) (by unfold I64;omega) (by omega) rfl ?_ | refine (c137 i hlt e'[i]! (-1) (by unfold I64;omega) (by unfold I64;omega) (by omega) rfl ?_).call)
    refine⟨i,rfl,hlt, ?_⟩
    refine vO i e'[i]! (by simp) (by simp[ein.1,hlt]) ?_
    refine Or.inl ⟨vk g[i]! (-1) e'[i]! - e'[i]!,rfl,by unfold I64;omega, ?_⟩
    refine And.intro (fun hw=>?_) (fun hw=>?_)
    ·have hw:vk g[i]! (-1) e'[i]! - e'[i]! ≠ -1:=by simpa using hw
     refine⟨i,rfl,hlt, ?_⟩
     refine⟨⟨rfl,rfl,by simp[ein.1];omega⟩,ints (e'.set i (vk g[i]! (-1) e'[i]!)),set_int _ _ _, ?_⟩
     have hin2:InR g (e'.set i (vk g[i]! (-1) e'[i]!)):=ein.set hlt hs2.2.1 hs2.2.2
     have hget:(e'.set i (vk g[i]! (-1) e'[i]!))[i]! = vk g[i]! (-1) e'[i]! := by
      rw[getElem!_pos _ i (by simp[ein.1,hlt])];simp
     (first | refine c67 (j:=1) hin2.1 (by omega) (num_i64 hin2 hp) rfl rfl ?_ | refine (c67 (j:=1) hin2.1 (by omega) (num_i64 hin2 hp) rfl rfl ?_).call)
     refine And.intro (by decide) ?_
     refine⟨rfl,zx rfl rfl (by omega) ?_⟩
     refine And.intro (by decide) ?_
     have hnew:inn g i g[i]! (-1) d (e'.set i (vk g[i]! (-1) e'[i]!)) (1) (p' ++ [numF g (e'.set i (vk g[i]! (-1) e'[i]!))]) (q' ++ [1])=r0:=by
      rw[<- hcon]
      simp only[inn]
      rw[if_pos hw]
     cases q' with
     | nil =>
       refine⟨rfl,app_nil rfl ?_⟩
       refine⟨(d,e'.set i (vk g[i]! (-1) e'[i]!),1,p' ++ [numF g (e'.set i (vk g[i]! (-1) e'[i]!))],[1]),⟨hin2,by rw[hget];omega,by simp;omega,by simp at eql ⊢; omega,hnew⟩,Nat.lt_succ_self _,Or.inr ⟨[(0,0),(1,0),(2,0),(6,0),(8,0)],by simp,qF rfl, ?_,rfl, ?_⟩⟩
       ·exact⟨⟨_,rfl,BRen.ints _ _ _⟩,⟨_,rfl,BRen.ints _ _ _⟩,⟨_,rfl,BRen.ints _ _ _⟩,⟨_,rfl,BRen.ints _ _ _⟩,⟨_,rfl,BRen.ints _ _ [1]⟩,trivial⟩
       ·exact⟨⟨_,rfl,VRen.slice rfl rfl (Nat.le_refl _)⟩,⟨_,rfl,VRen.slice rfl rfl (Nat.le_refl _)⟩,⟨_,rfl,VRen.slice rfl rfl (Nat.le_refl _)⟩,⟨_,rfl,VRen.slice rfl rfl (Nat.le_refl _)⟩,⟨_,rfl,VRen.slice rfl rfl (Nat.le_refl _)⟩,⟨_,rfl,VRen.slice rfl rfl (Nat.le_refl _)⟩,⟨_,rfl,VRen.int _ _⟩,⟨_,rfl,VRen.int _ _⟩,⟨_,rfl,VRen.int _ _⟩,⟨_,rfl,VRen.int _ _⟩,⟨_,rfl,VRen.int _ _⟩,⟨_,rfl,VRen.int _ _⟩,trivial⟩
     | cons z q'' =>
       refine⟨rfl,zx (p:=z::q'') rfl rfl (by simp at eql ⊢; omega) ?_⟩
       refine⟨(d,e'.set i (vk g[i]! (-1) e'[i]!),1,p' ++ [numF g (e'.set i (vk g[i]! (-1) e'[i]!))],z::(q'' ++ [1])),⟨hin2,by rw[hget];omega,by simp;omega,by simp at eql ⊢; omega,by rw[List.cons_append] at hnew;exact hnew⟩,Nat.lt_succ_self _,Or.inr ⟨[(0,0),(1,0),(2,0),(6,0),(8,0)],by simp,qF rfl, ?_,rfl, ?_⟩⟩
       ·exact⟨⟨_,rfl,BRen.ints _ _ _⟩,⟨_,rfl,BRen.ints _ _ _⟩,⟨_,rfl,BRen.ints _ _ _⟩,⟨_,rfl,BRen.ints _ _ _⟩,⟨_,rfl,BRen.ints _ _ (z::(q'' ++ [1]))⟩,trivial⟩
       ·exact⟨⟨_,rfl,VRen.slice rfl rfl (Nat.le_refl _)⟩,⟨_,rfl,VRen.slice rfl rfl (Nat.le_refl _)⟩,⟨_,rfl,VRen.slice rfl rfl (Nat.le_refl _)⟩,⟨_,rfl,VRen.slice rfl rfl (Nat.le_refl _)⟩,⟨_,rfl,VRen.slice rfl rfl (Nat.le_refl _)⟩,⟨_,rfl,VRen.slice rfl rfl (Nat.le_refl _)⟩,⟨_,rfl,VRen.int _ _⟩,⟨_,rfl,VRen.int _ _⟩,⟨_,rfl,VRen.int _ _⟩,⟨_,rfl,VRen.int _ _⟩,⟨_,rfl,VRen.int _ _⟩,⟨_,rfl,VRen.int _ _⟩,trivial⟩
    ·have hw : ¬ (vk g[i]! (-1) e'[i]! - e'[i]! ≠ -1):=by simpa using hw
     refine⟨i,rfl,hlt, ?_⟩
     refine⟨⟨rfl,rfl,by simp[ein.1];omega⟩,ints (e'.set i (vk g[i]! (-1) e'[i]!)),set_int _ _ _, ?_⟩
     have hin2:InR g (e'.set i (vk g[i]! (-1) e'[i]!)):=ein.set hlt hs2.2.1 hs2.2.2
     have hget:(e'.set i (vk g[i]! (-1) e'[i]!))[i]! = vk g[i]! (-1) e'[i]! := by
      rw[getElem!_pos _ i (by simp[ein.1,hlt])];simp
     (first | refine c67 (j:=1) hin2.1 (by omega) (num_i64 hin2 hp) rfl rfl ?_ | refine (c67 (j:=1) hin2.1 (by omega) (num_i64 hin2 hp) rfl rfl ?_).call)
     refine And.intro (by decide) ?_
     refine⟨rfl,zx rfl rfl (by omega) ?_⟩
     refine And.intro (by decide) ?_
     have hnew:inn g i g[i]! (-1) d (e'.set i (vk g[i]! (-1) e'[i]!)) (c) (p' ++ [numF g (e'.set i (vk g[i]! (-1) e'[i]!))]) (q' ++ [c])=r0:=by
      rw[<- hcon]
      simp only[inn]
      rw[if_neg hw]
     cases q' with
     | nil =>
       refine⟨rfl,app_nil rfl ?_⟩
       refine⟨(d,e'.set i (vk g[i]! (-1) e'[i]!),c,p' ++ [numF g (e'.set i (vk g[i]! (-1) e'[i]!))],[c]),⟨hin2,by rw[hget];omega,by simp;omega,by simp at eql ⊢; omega,hnew⟩,Nat.lt_succ_self _,Or.inr ⟨[(0,0),(1,0),(2,0),(6,0),(8,0)],by simp,qF rfl, ?_,rfl, ?_⟩⟩
       ·exact⟨⟨_,rfl,BRen.ints _ _ _⟩,⟨_,rfl,BRen.ints _ _ _⟩,⟨_,rfl,BRen.ints _ _ _⟩,⟨_,rfl,BRen.ints _ _ _⟩,⟨_,rfl,BRen.ints _ _ [c]⟩,trivial⟩
       ·exact⟨⟨_,rfl,VRen.slice rfl rfl (Nat.le_refl _)⟩,⟨_,rfl,VRen.slice rfl rfl (Nat.le_refl _)⟩,⟨_,rfl,VRen.slice rfl rfl (Nat.le_refl _)⟩,⟨_,rfl,VRen.slice rfl rfl (Nat.le_refl _)⟩,⟨_,rfl,VRen.slice rfl rfl (Nat.le_refl _)⟩,⟨_,rfl,VRen.slice rfl rfl (Nat.le_refl _)⟩,⟨_,rfl,VRen.int _ _⟩,⟨_,rfl,VRen.int _ _⟩,⟨_,rfl,VRen.int _ _⟩,⟨_,rfl,VRen.int _ _⟩,⟨_,rfl,VRen.int _ _⟩,⟨_,rfl,VRen.int _ _⟩,trivial⟩
     | cons z q'' =>
       refine⟨rfl,zx (p:=z::q'') rfl rfl (by simp at eql ⊢; omega) ?_⟩
       refine⟨(d,e'.set i (vk g[i]! (-1) e'[i]!),c,p' ++ [numF g (e'.set i (vk g[i]! (-1) e'[i]!))],z::(q'' ++ [c])),⟨hin2,by rw[hget];omega,by simp;omega,by simp at eql ⊢; omega,by rw[List.cons_append] at hnew;exact hnew⟩,Nat.lt_succ_self _,Or.inr ⟨[(0,0),(1,0),(2,0),(6,0),(8,0)],by simp,qF rfl, ?_,rfl, ?_⟩⟩
       ·exact⟨⟨_,rfl,BRen.ints _ _ _⟩,⟨_,rfl,BRen.ints _ _ _⟩,⟨_,rfl,BRen.ints _ _ _⟩,⟨_,rfl,BRen.ints _ _ _⟩,⟨_,rfl,BRen.ints _ _ (z::(q'' ++ [c]))⟩,trivial⟩
       ·exact⟨⟨_,rfl,VRen.slice rfl rfl (Nat.le_refl _)⟩,⟨_,rfl,VRen.slice rfl rfl (Nat.le_refl _)⟩,⟨_,rfl,VRen.slice rfl rfl (Nat.le_refl _)⟩,⟨_,rfl,VRen.slice rfl rfl (Nat.le_refl _)⟩,⟨_,rfl,VRen.slice rfl rfl (Nat.le_refl _)⟩,⟨_,rfl,VRen.slice rfl rfl (Nat.le_refl _)⟩,⟨_,rfl,VRen.int _ _⟩,⟨_,rfl,VRen.int _ _⟩,⟨_,rfl,VRen.int _ _⟩,⟨_,rfl,VRen.int _ _⟩,⟨_,rfl,VRen.int _ _⟩,⟨_,rfl,VRen.int _ _⟩,trivial⟩
   ·have hn:e'[i]! = ts[i]! := by simpa using hn
    have hd0:d=0:=by rw[edd];exact (dist_zero b0 b1 ht0 ht1).2 hn
    subst hd0
    simp only[inn] at hcon
    refine Or.inl ⟨((i+1:Nat):Int),by simp,by unfold I64;omega, ?_⟩
    refine⟨(i+1,e',p',q'),⟨hlt,ein,by omega,eql, ?_⟩,by simp only;omega,Or.inl ⟨⟨rfl,rfl,rfl,rfl,rfl,rfl,rfl,rfl,trivial⟩,rfl⟩⟩
    rw[<- hcst,hk]
    simp only[outr]
    rw[hr0',<- hcon,show g.length-(i+1)=k by omega]
  ·have hd : ¬ g[i]! < 2*vk g[i]! (-e[i]!) ts[i]! := by simpa using hd
   have hdir:dirF g[i]! e[i]! ts[i]! = 1:=if_neg hd
   rw[hdir] at hr0
   refine qN (α := Nat × List Int × Int × List Int × List Int) tok (fun | (d,e',c,p',q')=>InR g e' /\ d=distF g[i]! (1) e'[i]! ts[i]! /\ p'.length+d<=1+16*i+16/\q'.length+1=p'.length/\inn g i g[i]! (1) d e' c p' q' = r0)
    (fun | (_,_,c,p',q')=>[(0,sv 0 g.length),(8,sv 1 g.length),(9,sv 2 g.length),(6,sv 3 p'.length),(7,qV 4 q'),(23,sv 0 g.length),(24, .int .i64 g.length),(25, .int .i64 i),(10, .int .i64 i),(11, .int .i64 g[i]!),(12, .int .i64 (1)),(13, .int .i64 c)])
    (fun | (_,e',_,p',q')=>[ro g,rw' e',rw' ts,rw' p',qB q']) (fun p=>p.1) (distF g[i]! (1) e[i]! ts[i]!,e,0,p,q) ⟨hin,rfl,by have:=dist_le (d:=1) hm16 ha0 ha1 ht0 ht1;omega,hql,hr0⟩ ?_ ?_
   ·exact Or.inl ⟨⟨rfl,rfl,rfl,rfl,rfl,rfl,rfl,rfl,rfl,rfl,rfl,rfl,trivial⟩,rfl⟩
   rintro ⟨d,e',c,p',q'⟩ ⟨ein,edd,epl,eql,hcon⟩
   obtain ⟨b0,b1⟩:=ein.2 i hlt
   refine qZ tok mx [0,0,3,7,0,0,48,112,255] [false,false,false,false,true,true,true,true,false] [0,1,2,3,4,5,6,7,8] (by kernel_rfl) ?_
   refine⟨i,rfl,hlt, ?_⟩
   refine vO i e'[i]! (by simp) (by simp[ein.1,hlt]) ?_
   refine⟨i,rfl,hlt, ?_⟩
   refine vO i ts[i]! (by simp) (by simp[hti.1,hlt]) ?_
   refine And.intro (fun hn=>?_) (fun hn=>?_)
   ·have hn : ¬ e'[i]! = ts[i]! := by simpa using hn
    have hs2:=dist_step (d:=1) hm2 (by decide) b0 b1 ht0 ht1 hn
    obtain ⟨d,rfl⟩ : ∃ d',d=d' + 1:=⟨d-1,by omega⟩
    refine⟨i,rfl,hlt, ?_⟩
    refine vO i e'[i]! (by simp) (by simp[ein.1,hlt]) ?_
    (first | refine c137 i hlt e'[i]! (1) (by unfold I64;omega) (by unfold I64;omega) (by omega) rfl ?_ | refine (c137 i hlt e'[i]! (1) (by unfold I64;omega) (by unfold I64;omega) (by omega) rfl ?_).call)
    refine⟨i,rfl,hlt, ?_⟩
    refine vO i e'[i]! (by simp) (by simp[ein.1,hlt]) ?_
    refine Or.inl ⟨vk g[i]! (1) e'[i]! - e'[i]!,rfl,by unfold I64;omega, ?_⟩
    refine And.intro (fun hw=>?_) (fun hw=>?_)
    ·have hw:vk g[i]! (1) e'[i]! - e'[i]! ≠ 1:=by simpa using hw
     refine⟨i,rfl,hlt, ?_⟩
     refine⟨⟨rfl,rfl,by simp[ein.1];omega⟩,ints (e'.set i (vk g[i]! (1) e'[i]!)),set_int _ _ _, ?_⟩
     have hin2:InR g (e'.set i (vk g[i]! (1) e'[i]!)):=ein.set hlt hs2.2.1 hs2.2.2
     have hget:(e'.set i (vk g[i]! (1) e'[i]!))[i]! = vk g[i]! (1) e'[i]! := by
      rw[getElem!_pos _ i (by simp[ein.1,hlt])];simp
     (first | refine c67 (j:=1) hin2.1 (by omega) (num_i64 hin2 hp) rfl rfl ?_ | refine (c67 (j:=1) hin2.1 (by omega) (num_i64 hin2 hp) rfl rfl ?_).call)
     refine And.intro (by decide) ?_
     refine⟨rfl,zx rfl rfl (by omega) ?_⟩
     refine And.intro (by decide) ?_
     have hnew:inn g i g[i]! (1) d (e'.set i (vk g[i]! (1) e'[i]!)) (1) (p' ++ [numF g (e'.set i (vk g[i]! (1) e'[i]!))]) (q' ++ [1])=r0:=by
      rw[<- hcon]
      simp only[inn]
      rw[if_pos hw]
     cases q' with
     | nil =>
       refine⟨rfl,app_nil rfl ?_⟩
       refine⟨(d,e'.set i (vk g[i]! (1) e'[i]!),1,p' ++ [numF g (e'.set i (vk g[i]! (1) e'[i]!))],[1]),⟨hin2,by rw[hget];omega,by simp;omega,by simp at eql ⊢; omega,hnew⟩,Nat.lt_succ_self _,Or.inr ⟨[(0,0),(1,0),(2,0),(6,0),(8,0)],by simp,qF rfl, ?_,rfl, ?_⟩⟩
       ·exact⟨⟨_,rfl,BRen.ints _ _ _⟩,⟨_,rfl,BRen.ints _ _ _⟩,⟨_,rfl,BRen.ints _ _ _⟩,⟨_,rfl,BRen.ints _ _ _⟩,⟨_,rfl,BRen.ints _ _ [1]⟩,trivial⟩
       ·exact⟨⟨_,rfl,VRen.slice rfl rfl (Nat.le_refl _)⟩,⟨_,rfl,VRen.slice rfl rfl (Nat.le_refl _)⟩,⟨_,rfl,VRen.slice rfl rfl (Nat.le_refl _)⟩,⟨_,rfl,VRen.slice rfl rfl (Nat.le_refl _)⟩,⟨_,rfl,VRen.slice rfl rfl (Nat.le_refl _)⟩,⟨_,rfl,VRen.slice rfl rfl (Nat.le_refl _)⟩,⟨_,rfl,VRen.int _ _⟩,⟨_,rfl,VRen.int _ _⟩,⟨_,rfl,VRen.int _ _⟩,⟨_,rfl,VRen.int _ _⟩,⟨_,rfl,VRen.int _ _⟩,⟨_,rfl,VRen.int _ _⟩,trivial⟩
     | cons z q'' =>
       refine⟨rfl,zx (p:=z::q'') rfl rfl (by simp at eql ⊢; omega) ?_⟩
       refine⟨(d,e'.set i (vk g[i]! (1) e'[i]!),1,p' ++ [numF g (e'.set i (vk g[i]! (1) e'[i]!))],z::(q'' ++ [1])),⟨hin2,by rw[hget];omega,by simp;omega,by simp at eql ⊢; omega,by rw[List.cons_append] at hnew;exact hnew⟩,Nat.lt_succ_self _,Or.inr ⟨[(0,0),(1,0),(2,0),(6,0),(8,0)],by simp,qF rfl, ?_,rfl, ?_⟩⟩
       ·exact⟨⟨_,rfl,BRen.ints _ _ _⟩,⟨_,rfl,BRen.ints _ _ _⟩,⟨_,rfl,BRen.ints _ _ _⟩,⟨_,rfl,BRen.ints _ _ _⟩,⟨_,rfl,BRen.ints _ _ (z::(q'' ++ [1]))⟩,trivial⟩
       ·exact⟨⟨_,rfl,VRen.slice rfl rfl (Nat.le_refl _)⟩,⟨_,rfl,VRen.slice rfl rfl (Nat.le_refl _)⟩,⟨_,rfl,VRen.slice rfl rfl (Nat.le_refl _)⟩,⟨_,rfl,VRen.slice rfl rfl (Nat.le_refl _)⟩,⟨_,rfl,VRen.slice rfl rfl (Nat.le_refl _)⟩,⟨_,rfl,VRen.slice rfl rfl (Nat.le_refl _)⟩,⟨_,rfl,VRen.int _ _⟩,⟨_,rfl,VRen.int _ _⟩,⟨_,rfl,VRen.int _ _⟩,⟨_,rfl,VRen.int _ _⟩,⟨_,rfl,VRen.int _ _⟩,⟨_,rfl,VRen.int _ _⟩,trivial⟩
    ·have hw : ¬ (vk g[i]! (1) e'[i]! - e'[i]! ≠ 1):=by simpa using hw
     refine⟨i,rfl,hlt, ?_⟩
     refine⟨⟨rfl,rfl,by simp[ein.1];omega⟩,ints (e'.set i (vk g[i]! (1) e'[i]!)),set_int _ _ _, ?_⟩
     have hin2:InR g (e'.set i (vk g[i]! (1) e'[i]!)):=ein.set hlt hs2.2.1 hs2.2.2
     have hget:(e'.set i (vk g[i]! (1) e'[i]!))[i]! = vk g[i]! (1) e'[i]! := by
      rw[getElem!_pos _ i (by simp[ein.1,hlt])];simp
     (first | refine c67 (j:=1) hin2.1 (by omega) (num_i64 hin2 hp) rfl rfl ?_ | refine (c67 (j:=1) hin2.1 (by omega) (num_i64 hin2 hp) rfl rfl ?_).call)
     refine And.intro (by decide) ?_
     refine⟨rfl,zx rfl rfl (by omega) ?_⟩
     refine And.intro (by decide) ?_
     have hnew:inn g i g[i]! (1) d (e'.set i (vk g[i]! (1) e'[i]!)) (c) (p' ++ [numF g (e'.set i (vk g[i]! (1) e'[i]!))]) (q' ++ [c])=r0:=by
      rw[<- hcon]
      simp only[inn]
      rw[if_neg hw]
     cases q' with
     | nil =>
       refine⟨rfl,app_nil rfl ?_⟩
       refine⟨(d,e'.set i (vk g[i]! (1) e'[i]!),c,p' ++ [numF g (e'.set i (vk g[i]! (1) e'[i]!))],[c]),⟨hin2,by rw[hget];omega,by simp;omega,by simp at eql ⊢; omega,hnew⟩,Nat.lt_succ_self _,Or.inr ⟨[(0,0),(1,0),(2,0),(6,0),(8,0)],by simp,qF rfl, ?_,rfl, ?_⟩⟩
       ·exact⟨⟨_,rfl,BRen.ints _ _ _⟩,⟨_,rfl,BRen.ints _ _ _⟩,⟨_,rfl,BRen.ints _ _ _⟩,⟨_,rfl,BRen.ints _ _ _⟩,⟨_,rfl,BRen.ints _ _ [c]⟩,trivial⟩
       ·exact⟨⟨_,rfl,VRen.slice rfl rfl (Nat.le_refl _)⟩,⟨_,rfl,VRen.slice rfl rfl (Nat.le_refl _)⟩,⟨_,rfl,VRen.slice rfl rfl (Nat.le_refl _)⟩,⟨_,rfl,VRen.slice rfl rfl (Nat.le_refl _)⟩,⟨_,rfl,VRen.slice rfl rfl (Nat.le_refl _)⟩,⟨_,rfl,VRen.slice rfl rfl (Nat.le_refl _)⟩,⟨_,rfl,VRen.int _ _⟩,⟨_,rfl,VRen.int _ _⟩,⟨_,rfl,VRen.int _ _⟩,⟨_,rfl,VRen.int _ _⟩,⟨_,rfl,VRen.int _ _⟩,⟨_,rfl,VRen.int _ _⟩,trivial⟩
     | cons z q'' =>
       refine⟨rfl,zx (p:=z::q'') rfl rfl (by simp at eql ⊢; omega) ?_⟩
       refine⟨(d,e'.set i (vk g[i]! (1) e'[i]!),c,p' ++ [numF g (e'.set i (vk g[i]! (1) e'[i]!))],z::(q'' ++ [c])),⟨hin2,by rw[hget];omega,by simp;omega,by simp at eql ⊢; omega,by rw[List.cons_append] at hnew;exact hnew⟩,Nat.lt_succ_self _,Or.inr ⟨[(0,0),(1,0),(2,0),(6,0),(8,0)],by simp,qF rfl, ?_,rfl, ?_⟩⟩
       ·exact⟨⟨_,rfl,BRen.ints _ _ _⟩,⟨_,rfl,BRen.ints _ _ _⟩,⟨_,rfl,BRen.ints _ _ _⟩,⟨_,rfl,BRen.ints _ _ _⟩,⟨_,rfl,BRen.ints _ _ (z::(q'' ++ [c]))⟩,trivial⟩
       ·exact⟨⟨_,rfl,VRen.slice rfl rfl (Nat.le_refl _)⟩,⟨_,rfl,VRen.slice rfl rfl (Nat.le_refl _)⟩,⟨_,rfl,VRen.slice rfl rfl (Nat.le_refl _)⟩,⟨_,rfl,VRen.slice rfl rfl (Nat.le_refl _)⟩,⟨_,rfl,VRen.slice rfl rfl (Nat.le_refl _)⟩,⟨_,rfl,VRen.slice rfl rfl (Nat.le_refl _)⟩,⟨_,rfl,VRen.int _ _⟩,⟨_,rfl,VRen.int _ _⟩,⟨_,rfl,VRen.int _ _⟩,⟨_,rfl,VRen.int _ _⟩,⟨_,rfl,VRen.int _ _⟩,⟨_,rfl,VRen.int _ _⟩,trivial⟩
   ·have hn:e'[i]! = ts[i]! := by simpa using hn
    have hd0:d=0:=by rw[edd];exact (dist_zero b0 b1 ht0 ht1).2 hn
    subst hd0
    simp only[inn] at hcon
    refine Or.inl ⟨((i+1:Nat):Int),by simp,by unfold I64;omega, ?_⟩
    refine⟨(i+1,e',p',q'),⟨hlt,ein,by omega,eql, ?_⟩,by simp only;omega,Or.inl ⟨⟨rfl,rfl,rfl,rfl,rfl,rfl,rfl,rfl,trivial⟩,rfl⟩⟩
    rw[<- hcst,hk]
    simp only[outr]
    rw[hr0',<- hcon,show g.length-(i+1)=k by omega]
 ·have:i=g.length:=by simp at hc;omega
  subst this
  rw[Nat.sub_self] at hcst
  simp only[outr] at hcst
  rw[<- hcst]
  cases q with
  | nil=>exact⟨[(0,0),(3,0)],_,[ro g,rw' p],by simp,qF rfl,⟨⟨_,rfl,BRen.ints _ _ _⟩,⟨_,rfl,BRen.ints _ _ _⟩,trivial⟩,rfl,VRen.tuple (.cons (VRen.slice rfl rfl (Nat.le_refl _)) (.cons VRen.nilslice .nil)),rfl,rfl⟩
  | cons z q=>exact⟨[(0,0),(3,0),(4,0)],_,[ro g,rw' p,rw' (z::q)],by simp,qF rfl,⟨⟨_,rfl,BRen.ints _ _ _⟩,⟨_,rfl,BRen.ints _ _ _⟩,⟨_,rfl,BRen.ints _ _ _⟩,trivial⟩,rfl,VRen.tuple (.cons (VRen.slice rfl rfl (Nat.le_refl _)) (.cons (VRen.slice rfl rfl (Nat.le_refl _)) .nil)),rfl,rfl⟩
end Go.Af.Tryz.Ne
namespace Go.Af.Tryz.Ne
open Go

def digF (k w:Int) (i:Nat):Int:=(w.tdiv (k ^ i)).tmod k
def likF (k w:Int) (i:Nat) (o:Int):Int:=w+(digF k o i-digF k w i)*k ^ i
theorem lik_in {k:Int} (hk:2<=k) {w o:Int} {i N:Nat} (hi:i<N) (h0:0<=w) (h1:w<k ^ N) (ho:0<=o):(0<=likF k w i o/\likF k w i o<k ^ N)/\(0<=digF k o i/\digF k o i<k)/\(0<=digF k w i/\digF k w i<k):=by
 obtain ⟨K,rfl⟩ : ∃ K:Nat,k=K:=⟨k.toNat,by omega⟩
 obtain ⟨W,rfl⟩ : ∃ W:Nat,w=W:=⟨w.toNat,by omega⟩
 obtain ⟨O,rfl⟩ : ∃ O:Nat,o=O:=⟨o.toNat,by omega⟩
 have hd : ∀ X:Nat,digF (K:Int) (X:Int) i=((X / K ^ i % K:Nat):Int):=fun X=>by
  unfold digF
  rw[<- Int.natCast_pow,<- Int.ofNat_tdiv,<- Int.ofNat_tmod]
 have hb : ∀ X:Nat,X / K ^ i % K<K:=fun X=>Nat.mod_lt _ (by omega)
 have hpw:0<K ^ i:=Nat.pow_pos (by omega)
 refine⟨?_,by rw[hd];have:=hb O;omega,by rw[hd];have:=hb W;omega⟩
 have h1' : W<K ^ N:=by rw[<- Int.natCast_pow] at h1;omega
 -- the word by its parts
 have e1:W=K ^ i*(W / K ^ i)+W % K ^ i:=(Nat.div_add_mod _ _).symm
 have e2:W / K ^ i=K*(W / K ^ i / K)+W / K ^ i % K:=(Nat.div_add_mod _ _).symm
 have hr:W % K ^ i<K ^ i:=Nat.mod_lt _ hpw
 obtain ⟨M,hM⟩ : ∃ M,N=i+1+M:=⟨N-(i+1),by omega⟩
 have e3:K ^ N=K ^ i*(K*K ^ M):=by rw[hM,Nat.pow_add,Nat.pow_add,Nat.pow_one,Nat.mul_assoc]
 have hq:W / K ^ i / K<K ^ M:=by
  rw[Nat.div_div_eq_div_mul]
  refine Nat.div_lt_of_lt_mul ?_
  rw[Nat.mul_assoc,<- e3];exact h1'
 have ev:likF (K:Int) (W:Int) i (O:Int)=((K ^ i*(K*(W / K ^ i / K)+O / K ^ i % K)+W % K ^ i:Nat):Int):=by
  unfold likF
  rw[hd,hd,<- Int.natCast_pow]
  have e4:(W:Int)=((K ^ i*(K*(W / K ^ i / K)+W / K ^ i % K)+W % K ^ i:Nat):Int):=by rw[<- e2,<- e1]
  rw[e4]
  simp only[Int.natCast_add,Int.natCast_mul,Int.mul_add,Int.sub_mul]
  rw[Int.mul_comm ((O / K ^ i % K:Nat):Int),Int.mul_comm ((W / K ^ i % K:Nat):Int)]
  omega
 rw[ev]
 refine⟨Int.natCast_nonneg _, ?_⟩
 rw[<- Int.natCast_pow]
 refine Int.ofNat_lt.2 ?_
 have hO:=hb O
 have h5:K*(W / K ^ i / K)+O / K ^ i % K+1<=K*K ^ M:=by
  have:K*(W / K ^ i / K+1)<=K*K ^ M:=Nat.mul_le_mul_left _ hq
  rw[Nat.mul_add,Nat.mul_one] at this;omega
 have h6:=Nat.mul_le_mul_left (K ^ i) h5
 rw[Nat.mul_add,Nat.mul_one,<- e3] at h6
 omega

def upF (k goal:Int) (W:Int):Nat->Nat->Int->List Int->Nat × Int × List Int
 | 0,l,w,p=>(l,w,p)
 | f+1,l,w,p=>if w.tdiv (k ^ l)=goal.tdiv (k ^ l) then (l,w,p) else upF k goal W f (l+1) (likF k w l goal) (p ++ [((l+1:Nat):Int)*W+likF k w l goal])
def dnF (k goal:Int) (W:Int):Nat->Int->List Int->List Int
 | 0,_,p=>p
 | l+1,w,p=>dnF k goal W l (likF k w l goal) (p ++ [(l:Int)*W+likF k w l goal])
def treF (k:Int) (N:Nat) (x goal:Int):List Int :=
 let r:=upF k goal (k ^ N) (N-(x.tdiv (k ^ N)).toNat) (x.tdiv (k ^ N)).toNat (x.tmod (k ^ N)) [x]
 dnF k goal (k ^ N) r.1 r.2.1 r.2.2
theorem tdiv_small {w m:Int} (h0:0<=w) (h1:w<m):w.tdiv m=0:=Int.tdiv_eq_zero_of_lt h0 h1
end Go.Af.Tryz.Ne
namespace Go.Af.Tryz.Ne
open Go Go.Proofs
attribute [local irreducible] awp qi qw qH qy

theorem pow_ok {k:Int} (hk:2<=k/\k<=8) {l:Nat} (hl:l<=4):1<=k ^ l/\k ^ l<=65536:=⟨powpos (by omega) l,(powle (by omega) (by omega) l hl).2⟩
theorem x82 {H:List Blk} {R:Value->List Blk->Prop} {k:Int} (hk:2<=k/\k<=8) {l:Nat} (hl:l<=4) (h:R (.int .i64 (k ^ l)) H):qw Tryz.prog 201 [.int .i64 k, .int .i64 l] H R :=
 c82 k l (fun i hi=>xO (by have:=pow_ok hk (l:=i) (by omega);omega)) (by omega) (by simpa using h)
structure LikOk (k w:Int) (l:Nat) (o:Int):Prop where
 hk:2<=k/\k<=8
 hl:l<=4
 hw:0<=w/\w<=65536
 ho:0<=o/\o<=65536
 hr:0<=likF k w l o/\likF k w l o<=65536
 d1:0<=digF k o l/\digF k o l<k
 d2:0<=digF k w l/\digF k w l<k
theorem likok {k:Int} (hk:2<=k/\k<=8) {w o:Int} {i N:Nat} (hN:N<=4) (hi:i<N) (h0:0<=w) (h1:w<k ^ N) (ho:0<=o) (ho1:o<=65536):LikOk k w i o:=by
 obtain ⟨⟨a,b⟩,c,d⟩:=lik_in hk.1 hi h0 h1 ho
 have:=pow_ok hk hN
 exact⟨hk,by omega,by omega,⟨ho,ho1⟩,by omega,c,d⟩

theorem l148 (k n w o:Int) (l:Nat) (h:LikOk k w l o):qi Tryz.prog 399 [twoV k n, .int .i64 w, .int .i64 l, .int .i64 o] [] (fun v H=>v = .int .i64 (likF k w l o)/\H = []):=by
 obtain ⟨hk,hl,hw,ho,hr,h1,h2⟩:=h
 have hp:=pow_ok hk hl
 have e:likF k w l o=w+(digF k o l-digF k w l)*k ^ l:=rfl
 refine qR (qh tok Tryz.call399 Tryz.func399 rfl Tryz.ntmps399 rfl (by simp) ?_)
 (repeat refine goZ ?_)
 (first | refine x82 hk hl ?_ | refine (x82 hk hl ?_).call)
 refine qZ tok mx [0,0,0,6,0,16,62,0,0,384,0,1024,3968,8190,0,32766,65535,131071] [false,false,false,false,false,false,false,true,true,true,true,true,true,false,true,false,false,false] [0,1,2,3,4,5,6,7,8,9,10,11,12,13,14,15,16,17] (by kernel_rfl) ?_
 (repeat refine goZ ?_)
 refine Or.inl ⟨_,rfl,div_i64 (xO ho) hp.1, ?_⟩
 (repeat refine goZ ?_)
 refine Or.inl ⟨_,rfl,div_i64 (xO hw) hp.1, ?_⟩
 (repeat refine goZ ?_)
 refine Or.inl ⟨digF k o l-digF k w l,rfl,by unfold I64;omega, ?_⟩
 refine Or.inl ⟨(digF k o l-digF k w l)*k ^ l,rfl,by unfold I64;omega, ?_⟩
 refine Or.inl ⟨likF k w l o,e.symm,by unfold I64;omega, ?_⟩
 exact⟨[],_,[],by simp,qF rfl,trivial,rfl,VRen.plain rfl,rfl,rfl⟩
theorem c148 {H:List Blk} {R:Value->List Blk->Prop} {k n w o:Int} {l:Nat} (hh:LikOk k w l o) (h:R (.int .i64 (likF k w l o)) H):qw Tryz.prog 399 [twoV k n, .int .i64 w, .int .i64 l, .int .i64 o] H R :=
 vP (l148 k n w o l hh) [] rfl (.cons zt (.cons (.int _ _) (.cons (.int _ _) (.cons (.int _ _) .nil)))) trivial rfl h
theorem c142 {H:List Blk} {R:Value->List Blk->Prop} {k n x:Int} (hk:2<=k/\k<=8) (hn:1<=n/\n<=4) (hx:I64 x) (h:zh H 0 (rw' [x.tdiv (k ^ (n-1).toNat),x.tmod (k ^ (n-1).toNat)]) (fun i H' => R (.slice (some ⟨i,0,none⟩) 2 2) H')) :
 qw Tryz.prog 393 [twoV k n, .int .i64 x] H R:=acallx_r (H2 := []) (l142 k n x hk hn hx) [] rfl (.cons zt (.cons (.int _ _) .nil)) trivial h

set_option maxHeartbeats 8000000 in
theorem l143 (k n x y:Int) (hk:2<=k/\k<=8) (hn:1<=n/\n<=4) (hx:0<=x/\x<n*k ^ (n-1).toNat) (hy:0<=y/\y<k ^ (n-1).toNat):qi Tryz.prog 394 [twoV k n, .int .i64 x, .int .i64 y] []
 (fun v H=>v = .tuple ⟨[sv 0 (treF k (n-1).toNat x y).length,sv 1 ((treF k (n-1).toNat x y).length-1)]⟩/\H = [rw' (treF k (n-1).toNat x y),rw' (List.replicate ((treF k (n-1).toNat x y).length-1) 0)]):=by
 obtain ⟨N,hN⟩ : ∃ N,(n-1).toNat=N:=⟨_,rfl⟩
 have hn' : n=N+1:=by omega
 have hN4:N<=3:=by omega
 rw[hN] at hx hy ⊢
 have hW:=pow_ok hk (l:=N) (by omega)
 have hm:=mulb (a:=n) (b:=k ^ N) (A:=4) (B:=65536) (by omega) (by omega) (by omega) (by omega)
 refine qR (qh tok Tryz.call394 Tryz.func394 rfl Tryz.ntmps394 rfl (by simp) ?_)
 (repeat refine goZ ?_)
 (first | refine c142 hk hn (by unfold I64;omega) ?_ | refine (c142 hk hn (by unfold I64;omega) ?_).call)
 rw[hN]
 have hl0:0<=x.tdiv (k ^ N)/\x.tdiv (k ^ N)<=N:=by
  refine⟨Int.tdiv_nonneg hx.1 (by omega), ?_⟩
  have:x.tdiv (k ^ N)<n:=by
   rw[Int.tdiv_eq_ediv_of_nonneg hx.1]
   exact Int.ediv_lt_of_lt_mul (by omega) hx.2
  omega
 have hw0:0<=x.tmod (k ^ N)/\x.tmod (k ^ N)<k ^ N:=⟨Int.tmod_nonneg _ hx.1,Int.tmod_lt_of_pos _ (by omega)⟩
 obtain ⟨l0,hl⟩ : ∃ l0:Nat,x.tdiv (k ^ N)=l0:=⟨(x.tdiv (k ^ N)).toNat,by omega⟩
 have htre:treF k N x y=dnF k y (k ^ N) (upF k y (k ^ N) (N-l0) l0 (x.tmod (k ^ N)) [x]).1 (upF k y (k ^ N) (N-l0) l0 (x.tmod (k ^ N)) [x]).2.1 (upF k y (k ^ N) (N-l0) l0 (x.tmod (k ^ N)) [x]).2.2:=by
  unfold treF;rw[hl];simp
 obtain ⟨r,hr⟩ : ∃ r,upF k y (k ^ N) (N-l0) l0 (x.tmod (k ^ N)) [x]=r:=⟨_,rfl⟩
 rw[hr] at htre
 obtain ⟨q,hq⟩ : ∃ q,treF k N x y=q:=⟨_,rfl⟩
 rw[hq] at htre ⊢
 rw[hl]
 refine qZ tok mx [0,1,3,0,8,24,7,127] [false,false,false,true,true,true,true,false] [0,1,2,3,4,5,6,7] (by kernel_rfl) ?_
 (repeat refine goZ ?_)
 refine qN (α := Nat × Int × List Int) tok (fun | (l,w,p)=>l<=N/\(0<=w/\w<k ^ N)/\p.length<=l+1/\1<=p.length/\upF k y (k ^ N) (N-l) l w p=r)
  (fun | (l,w,p)=>[(3, .pointer (some ⟨0,0,none⟩)),(2, .int .i64 y),(9, .int .i64 l),(10, .int .i64 w),(6,sv 1 p.length)])
  (fun | (_,_,p)=>[.cells true 1 [.int .i64 k, .int .i64 n],rw' p]) (fun p=>N-p.1) (l0,x.tmod (k ^ N),[x]) ⟨by omega,hw0,by simp,by simp,hr⟩ ?_ ?_
 ·refine Or.inr ⟨[(0,0),(2,0)],by simp,qF rfl, ?_,rfl, ?_⟩
  ·exact⟨⟨_,rfl,BRen.ints _ _ [k,n]⟩,⟨_,rfl,BRen.ints _ _ [x]⟩,trivial⟩
  ·exact⟨⟨_,rfl,VRen.ptr (s:=0) rfl rfl⟩,⟨_,rfl,VRen.int _ _⟩,⟨_,rfl,VRen.int _ _⟩,⟨_,rfl,VRen.int _ _⟩,⟨_,rfl,VRen.slice rfl rfl (Nat.le_refl _)⟩,trivial⟩
 rintro ⟨l,w,p⟩ ⟨hlN,⟨hw1,hw2⟩,hpl,hp1,hup⟩
 have hpw:=pow_ok hk (l:=l) (by omega)
 refine qZ tok mx [0,0,2,0,14,31,0,0,128,0,926,2014,4095] [false,false,false,true,true,true,true,true,true,true,false,false,false] [0,1,2,3,6,7,8,9,4,5,10,11,12] (by kernel_rfl) ?_
 (repeat refine goZ ?_)
 (first | refine x82 hk (l:=l) (by omega) ?_ | refine (x82 hk (l:=l) (by omega) ?_).call)
 (repeat refine goZ ?_)
 refine Or.inl ⟨_,rfl,div_i64 (xO ⟨hw1,by omega⟩) hpw.1, ?_⟩
 (repeat refine goZ ?_)
 (first | refine x82 hk (l:=l) (by omega) ?_ | refine (x82 hk (l:=l) (by omega) ?_).call)
 (repeat refine goZ ?_)
 refine Or.inl ⟨_,rfl,div_i64 (xO ⟨hy.1,by omega⟩) hpw.1, ?_⟩
 (repeat refine goZ ?_)
 refine And.intro (fun hc=>?_) (fun hc=>?_)
 ·have hc:w.tdiv (k ^ l)≠y.tdiv (k ^ l):=by simpa using hc
  have hlN' : l<N:=by
   by_cases h:l<N
   ·exact h
   have:l=N:=by omega
   subst this
   rw[tdiv_small hw1 hw2,tdiv_small hy.1 hy.2] at hc
   exact absurd rfl hc
  have hlk:=likok hk (w:=w) (o:=y) (i:=l) (N:=N) (by omega) hlN' hw1 hw2 hy.1 (by omega)
  have hln:=(lik_in (k:=k) hk.1 (w:=w) (o:=y) hlN' hw1 hw2 hy.1).1
  have hup' : upF k y (k ^ N) (N-(l+1)) (l+1) (likF k w l y) (p ++ [((l+1:Nat):Int)*k ^ N+likF k w l y])=r:=by
   rw[<- hup,show N-l=N-(l+1)+1 by omega];simp only[upF,if_neg hc]
  (repeat refine goZ ?_)
  (first | refine c148 hlk ?_ | refine (c148 hlk ?_).call)
  refine Or.inl ⟨((l+1:Nat):Int),by simp,by unfold I64;omega, ?_⟩
  (repeat refine goZ ?_)
  (first | refine c146 k n hk hn ?_ | refine (c146 k n hk hn ?_).call)
  rw[hN]
  have hmm:=mulb (a:=((l+1:Nat):Int)) (b:=k ^ N) (A:=4) (B:=65536) (by omega) (by omega) (by omega) (by omega)
  refine Or.inl ⟨((l+1:Nat):Int)*k ^ N,rfl,by unfold I64;omega, ?_⟩
  refine Or.inl ⟨((l+1:Nat):Int)*k ^ N+likF k w l y,rfl,by unfold I64;omega, ?_⟩
  refine And.intro (by decide) ?_
  refine⟨rfl,zx rfl rfl (by omega) ?_⟩
  refine⟨(l+1,likF k w l y,p ++ [((l+1:Nat):Int)*k ^ N+likF k w l y]),⟨hlN',hln,by simp;omega,by simp,hup'⟩,by simp only;omega,Or.inr ⟨[(0,0),(3,0)],by simp,qF rfl, ?_,rfl, ?_⟩⟩
  ·exact⟨⟨_,rfl,BRen.ints _ _ [k,n]⟩,⟨_,rfl,BRen.ints _ _ _⟩,trivial⟩
  ·exact⟨⟨_,rfl,VRen.ptr (s:=0) rfl rfl⟩,⟨_,rfl,VRen.int _ _⟩,⟨_,rfl,VRen.int _ _⟩,⟨_,rfl,VRen.int _ _⟩,⟨_,rfl,VRen.slice rfl rfl (Nat.le_refl _)⟩,trivial⟩
 have hc:w.tdiv (k ^ l)=y.tdiv (k ^ l):=by simpa using hc
 have hup' : (l,w,p)=r:=by
  rw[<- hup]
  cases hj:N-l with
  | zero=>rfl
  | succ j=>simp only[upF,if_pos hc]
 subst hup'
 simp only at htre
 have hd0:=htre.symm
 clear hr hup hc hpw htre hw0 hl hq
 refine qN (α := Nat × Int × List Int) tok (fun | (l,w,p)=>l<=N/\(0<=w/\w<k ^ N)/\p.length+l<=2*N+1/\1<=p.length/\dnF k y (k ^ N) l w p=q)
  (fun | (l,w,p)=>[(3, .pointer (some ⟨0,0,none⟩)),(2, .int .i64 y),(9, .int .i64 l),(10, .int .i64 w),(6,sv 1 p.length)])
  (fun | (_,_,p)=>[.cells true 1 [.int .i64 k, .int .i64 n],rw' p]) (fun p=>p.1) (l,w,p) ⟨hlN,⟨hw1,hw2⟩,by omega,hp1,hd0⟩ ?_ ?_
 ·exact Or.inl ⟨⟨rfl,rfl,rfl,rfl,rfl,trivial⟩,rfl⟩
 clear hw1 hw2 hpl hd0 hlN hp1
 rintro ⟨l,w,p⟩ ⟨hlN,⟨hw1,hw2⟩,hpl,hp1,hdn⟩
 refine And.intro (fun hc=>?_) (fun hc=>?_)
 ·have hc:0<l:=by simpa using hc
  obtain ⟨l,rfl⟩ : ∃ l',l=l' + 1:=⟨l-1,by omega⟩
  have hlk:=likok hk (w:=w) (o:=y) (i:=l) (N:=N) (by omega) hlN hw1 hw2 hy.1 (by omega)
  have hln:=(lik_in (k:=k) hk.1 (w:=w) (o:=y) hlN hw1 hw2 hy.1).1
  refine Or.inl ⟨(l:Int),by simp,by unfold I64;omega, ?_⟩
  (repeat refine goZ ?_)
  (first | refine c148 hlk ?_ | refine (c148 hlk ?_).call)
  (repeat refine goZ ?_)
  (first | refine c146 k n hk hn ?_ | refine (c146 k n hk hn ?_).call)
  rw[hN]
  have hmm:=mulb (a:=(l:Int)) (b:=k ^ N) (A:=4) (B:=65536) (by omega) (by omega) (by omega) (by omega)
  refine Or.inl ⟨(l:Int)*k ^ N,rfl,by unfold I64;omega, ?_⟩
  refine Or.inl ⟨(l:Int)*k ^ N+likF k w l y,rfl,by unfold I64;omega, ?_⟩
  refine And.intro (by decide) ?_
  refine⟨rfl,zx rfl rfl (by omega) ?_⟩
  refine⟨(l,likF k w l y,p ++ [(l:Int)*k ^ N+likF k w l y]),⟨by omega,hln,by simp;omega,by simp,hdn⟩,by simp only;omega,Or.inr ⟨[(0,0),(3,0)],by simp,qF rfl, ?_,rfl, ?_⟩⟩
  ·exact⟨⟨_,rfl,BRen.ints _ _ [k,n]⟩,⟨_,rfl,BRen.ints _ _ _⟩,trivial⟩
  ·exact⟨⟨_,rfl,VRen.ptr (s:=0) rfl rfl⟩,⟨_,rfl,VRen.int _ _⟩,⟨_,rfl,VRen.int _ _⟩,⟨_,rfl,VRen.int _ _⟩,⟨_,rfl,VRen.slice rfl rfl (Nat.le_refl _)⟩,trivial⟩
 have hc:l=0:=by simp at hc;omega
 subst hc
 simp only[dnF] at hdn
 subst hdn
 refine qZ tok mx [0,0,2,6,14,3,63] [false,false,false,false,false,false,false] [0,1,2,3,5,4,6] (by kernel_rfl) ?_
 refine Or.inl ⟨(p.length:Int)-1,rfl,by unfold I64;omega, ?_⟩
 refine⟨by decide,p.length-1,p.length-1,⟨by omega,by omega⟩,⟨Nat.le_refl _,by simp only;omega⟩,ints (List.replicate (p.length-1) 0), ?_, ?_⟩
 ·simp[qW,ints,qA]
 have e:(List.replicate (p.length-1) (0:Int)).length=p.length-1:=by simp
 refine⟨[(1,0),(2,0)],_,[rw' p,rw' (List.replicate (p.length-1) 0)],by simp,qF rfl,⟨⟨_,rfl,BRen.ints _ _ _⟩,⟨_,rfl,BRen.ints _ _ _⟩,trivial⟩,rfl,VRen.tuple (.cons (VRen.slice rfl rfl (Nat.le_refl _)) (.cons (VRen.slice rfl rfl (Nat.le_refl _)) .nil)),rfl,rfl⟩
end Go.Af.Tryz.Ne
namespace Go.Af.Tryz.Ne
open Go Go.Proofs
attribute [local irreducible] awp qi qw qH qy

end Go.Af.Tryz.Ne
namespace Go.Af.Tryz.Ne
open Go Go.Proofs
attribute [local irreducible] awp qi qw qH qy

end Go.Af.Tryz.Ne
