/-

-/
import Derived.Test.YtgdbclgcbbbenaaGreatMS1
import Derived.Test.YtgdbclgcbbbenaaGreatMCA
set_option linter.all false
namespace Go.Af.Tryz.Ne
open Go Go.Proofs
attribute [local irreducible] awp qi qw qH
theorem c81 (n lo hi:Int) (H:List Blk) (R:Value->List Blk->Prop) (h:R (.bool (decide (lo<=n)&&decide (n<=hi))) H):qi Tryz.prog 200 [.int .i64 n, .int .i64 lo, .int .i64 hi] H R:=by
 refine qh tok Tryz.call200 Tryz.func200 rfl Tryz.ntmps200 rfl (by simp) ?_
 refine And.intro (fun h1=>?_) (fun h1=>?_)
 all_goals repeat (first | refine And.intro (fun _=>?_) (fun h=>absurd h (by decide)) | refine And.intro (fun h=>absurd h (by decide)) (fun _=>?_))
 ·exact (by simpa [h1] using h:R (.bool (decide (n<=hi))) H)
 ·exact (by simpa [h1] using h:R (.bool false) H)

def numF (g at' : List Int):Int:=(g.zip at').foldl (fun x p=>x*p.1+p.2) 0

theorem l67 (g at' : List Int) (hl:g.length=at'.length) (hL:g.length<=1000000) (hb : ∀ i,i<g.length->I64 (numF (g.take i) (at'.take i)*g[i]!)/\I64 (numF (g.take (i+1)) (at'.take (i+1)))) :
 qi Tryz.prog 158 [sv 0 g.length,sv 1 at'.length] [ro g,ro at'] (fun v H=>v = .int .i64 (numF g at')/\H = [ro g,ro at']):=by
 refine qh tok Tryz.call158 Tryz.func158 rfl Tryz.ntmps158 rfl (by simp) ?_
 refine qN tok (fun i:Nat=>i<=g.length) (fun i=>[(0,sv 0 g.length),(1,sv 1 at'.length),(5, .int .i64 (numF (g.take i) (at'.take i))),(8,sv 0 g.length),(9, .int .i64 g.length),(10, .int .i64 i)]) (fun _=>[ro g,ro at'])
  (fun i=>g.length-i) 0 (Nat.zero_le _) ?_ ?_
 ·exact Or.inl ⟨⟨rfl,rfl,rfl,rfl,rfl,rfl,trivial⟩,rfl⟩
 intro i hi
 refine And.intro (fun hc=>?_) (fun hc=>?_)
 ·have hlt:i<g.length:=by simpa using hc
  refine⟨i,rfl,hlt, ?_⟩
  refine vO i g[i]! (by simp) (by simp[hlt]) ?_
  refine Or.inl ⟨_,rfl,(hb i hlt).1, ?_⟩
  refine⟨i,rfl,by omega, ?_⟩
  refine vO i at'[i]! (by simp) (by simp[show i<at'.length by omega]) ?_
  have e:numF (g.take i) (at'.take i)*g[i]! + at'[i]! = numF (g.take (i+1)) (at'.take (i+1)):=by
   unfold numF
   rw[List.take_succ_eq_append_getElem hlt,List.take_succ_eq_append_getElem (show i<at'.length by omega),List.zip_append (by simp;omega)]
   simp[hlt,show i<at'.length by omega]
  refine Or.inl ⟨_,e,(hb i hlt).2, ?_⟩
  refine Or.inl ⟨((i+1:Nat):Int),by simp,by unfold I64;omega, ?_⟩
  exact⟨i+1,hlt,by omega, .inl ⟨⟨rfl,rfl,rfl,rfl,rfl,rfl,trivial⟩,rfl⟩⟩
 ·have:i=g.length:=by simp at hc;omega
  subst this
  exact⟨by rw[List.take_of_length_le (Nat.le_refl _),List.take_of_length_le (by omega)];rfl,rfl⟩

theorem l137 (g:List Int) (i:Nat) (hi:i<g.length) (c bY:Int) (h1:I64 (c+bY)) (h2:I64 (c+bY+g[i]!)) (h3:g[i]! ≠ 0) :
 qi Tryz.prog 388 [sv 0 g.length, .int .i64 i, .int .i64 c, .int .i64 bY] [ro g] (fun v H=>v = .int .i64 ((c+bY+g[i]!).tmod g[i]!)/\H = [ro g]):=by
 refine qh tok Tryz.call388 Tryz.func388 rfl Tryz.ntmps388 rfl (by simp) ?_
 refine qZ tok mx [0,0,3,0,0,24,56,127,0,0,768,1792,4095,8191] [false,false,false,false,false,false,false,false,true,true,true,true,false,false] [0,1,2,3,4,5,6,7,8,9,10,11,12,13] (by kernel_rfl) ?_
 refine Or.inl ⟨_,rfl,h1, ?_⟩
 refine⟨i,rfl,hi, ?_⟩
 refine vO i g[i]! (by simp) (by simp[hi]) ?_
 refine Or.inl ⟨_,rfl,h2, ?_⟩
 refine⟨i,rfl,hi, ?_⟩
 refine vO i g[i]! (by simp) (by simp[hi]) ?_
 exact⟨h3,_,rfl,rfl,rfl⟩

def quoF (g:List Int) (x:Int):Int:=g.foldr (fun m y=>y.tdiv m) x
def wR:List Int->Int->List Int
 | [],_=>[]
 | m::r,x=>(quoF r x).tmod m::wR r x

theorem coords_len (g:List Int) (x:Int):(wR g x).length=g.length:=by induction g with
 | nil=>rfl
 | cons m r ih=>simp[wR,ih]
theorem tdiv_i64 {x m:Int} (hx:I64 x) (hm:2<=m):I64 (x.tdiv m):=by
 unfold I64 at *
 have h1:(x.tdiv m).natAbs=x.natAbs / m.natAbs:=Int.natAbs_tdiv x m
 have h2:x.natAbs / m.natAbs<=x.natAbs / 2:=Nat.div_le_div_left (by omega) (by omega)
 omega
theorem quo_i64 {x:Int} : ∀ (g:List Int) (_ : ∀ m∈g,2<=m) (_:I64 x),I64 (quoF g x)
 | [],_,h=>h
 | m::r,hg,h=>tdiv_i64 (quo_i64 r (fun m hm=>hg m (by simp[hm])) h) (hg m (by simp))

theorem l66 (g:List Int) (hg : ∀ m∈g,2<=m) (hl:g.length<=1000) (x:Int) (hx:I64 x) :
 qi Tryz.prog 157 [sv 0 g.length, .int .i64 x] [ro g] (fun v H=>v=sv 1 g.length/\H = [ro g, .cells true 1 (ints (wR g x))]):=by
 refine qR (qh tok Tryz.call157 Tryz.func157 rfl Tryz.ntmps157 rfl (by simp) ?_)
 refine And.intro ⟨by decide,rfl⟩ ?_
 refine⟨g.length,g.length,⟨rfl,rfl⟩,⟨Nat.le_refl _, ?_⟩,_,rfl, ?_⟩
 ·show g.length*9<=_
  omega
 refine And.intro ⟨rfl,rfl,Nat.le_refl _⟩ ?_
 refine⟨_,rfl, ?_⟩
 refine qh tok Tryz.call238 Tryz.func238 rfl Tryz.ntmps238 rfl (by simp) ?_
 refine qh tok Tryz.call334 Tryz.func334 rfl Tryz.ntmps334 rfl (by simp) ?_
 refine⟨_,rfl, ?_⟩
 refine Or.inl ⟨(g.length:Int)-1,rfl,by unfold I64;omega, ?_⟩
 generalize hlp:Blk.loop LoopState.ready none _ _ _ _ _=lp
 refine qN tok (fun j:Nat=>j<=g.length) (fun j=>[(0, .func (.yield 5) #[] #[]),(1, .pointer (some ⟨4,0,none⟩)),(3, .int .i64 ((j:Int)-1))])
  (fun j=>[ro g, .cells true 1 [.int .i64 (quoF (g.drop j) x)], .cells true 1 (ints (List.replicate j 0++wR (g.drop j) x)), .cells true 1 [sv 2 g.length], .cells true 1 [sv 0 g.length],lp]) (fun j=>j) g.length (Nat.le_refl _) ?_ ?_
 ·refine Or.inl ⟨⟨rfl,rfl,rfl,trivial⟩, ?_⟩
  simp[qW,setSeg,ints,quoF,wR,qA]
 intro j hj
 refine And.intro (fun hc=>?_) (fun hc=>?_)
 ·have hc' : 0<j:=by simp at hc;omega
  obtain ⟨i,rfl⟩ : ∃ i,j=i+1:=⟨j-1,by omega⟩
  refine⟨_,rfl, ?_⟩
  refine⟨i,by omega,by omega, ?_⟩
  refine vO i g[i]! (by simp) (by simp[show i<g.length by omega]) ?_
  refine ayield_vcg tok ?_
  subst hlp
  have hi:i<g.length:=by omega
  have hm:2<=g[i]! := by rw[getElem!_pos g i hi];exact hg _ (List.getElem_mem hi)
  have hq:=quo_i64 (g.drop (i+1)) (fun m h=>hg m (List.mem_of_mem_drop h)) hx
  have hd:g.drop i=g[i]! :: g.drop (i+1):=by rw[getElem!_pos g i hi];exact List.drop_eq_getElem_cons hi
  refine qZ tok mx [0,0,0,0,12,31,63] [false,true,true,true,true,false,false] [0,1,2,3,4,5,6] (by kernel_rfl) ?_
  refine⟨_,rfl, ?_⟩
  refine⟨_,rfl, ?_⟩
  refine⟨by omega,_,rfl, ?_⟩
  refine⟨i,by omega,by omega, ?_⟩
  refine⟨⟨rfl,rfl, ?_⟩,_,rfl, ?_⟩
  ·simp[coords_len]
  refine⟨_,rfl, ?_⟩
  refine⟨by omega,Or.inl ⟨_,rfl,tdiv_i64 hq hm, ?_⟩⟩
  refine⟨⟨rfl,rfl,Nat.le_refl _⟩,_,rfl, ?_⟩
  refine And.intro (fun h=>absurd h (by decide)) (fun _=>?_)
  refine Or.inl ⟨(i:Int)-1,by omega,by unfold I64;omega, ?_⟩
  refine⟨i,by omega,by omega,Or.inl ⟨⟨rfl,rfl,rfl,trivial⟩, ?_⟩⟩
  have e1:quoF (g.drop i) x=(quoF (g.drop (i+1)) x).tdiv g[i]! := by rw[hd];rfl
  have e2:(List.replicate (i+1) 0++wR (g.drop (i+1)) x).set i ((quoF (g.drop (i+1)) x).tmod g[i]!)=List.replicate i 0++wR (g.drop i) x:=by
   rw[hd,List.replicate_succ',List.append_assoc,List.set_append_right _ _ (by simp)];simp[wR]
  rw[e1,<- e2,<- ints_set]
  simp[setSeg_one,qA,coords_len]
 ·have:j=0:=by simp at hc;omega
  subst this
  subst hlp
  refine⟨_,rfl, ?_⟩
  exact⟨[(0,0),(2,0)],sv 1 g.length,[ro g, .cells true 1 (ints (wR g x))],by simp,qF rfl,⟨⟨_,rfl,BRen.ints _ _ _⟩,⟨_,rfl,BRen.ints _ _ _⟩,trivial⟩,rfl,VRen.slice rfl rfl (Nat.le_refl _),rfl,rfl⟩
end Go.Af.Tryz.Ne
namespace Go.Af.Tryz.Ne
open Go Go.Proofs
attribute [local irreducible] awp qi qw qH

def betw (n lo hi:Int):Bool:=decide (lo<=n)&&decide (n<=hi)

theorem l82 (k n:Int) (hb : ∀ i:Nat,(i:Int)<=n->I64 (k ^ i)) (hn:n<=1000) :
 qi Tryz.prog 201 [.int .i64 k, .int .i64 n] [] (fun v H=>v = .int .i64 (k ^ n.toNat)/\H = []):=by
 refine qh tok Tryz.call201 Tryz.func201 rfl Tryz.ntmps201 rfl (by simp) ?_
 refine qN tok (fun i:Nat=>(i:Int)<=max n 0) (fun i=>[(0, .int .i64 k),(5, .int .i64 (k ^ i)),(6, .int .i64 n),(7, .int .i64 i)]) (fun _=>[]) (fun i=>n.toNat-i) 0 (by simp;omega) ?_ ?_
 ·exact Or.inl ⟨⟨rfl,by rw[Int.pow_zero];rfl,rfl,rfl,trivial⟩,rfl⟩
 intro i hi
 refine And.intro (fun hc=>?_) (fun hc=>?_)
 ·have hc:(i:Int)<n:=by simpa using hc
  refine Or.inl ⟨k ^ (i+1),by rw[Int.pow_succ],hb (i+1) (by omega), ?_⟩
  refine Or.inl ⟨((i+1:Nat):Int),by simp,by unfold I64;omega, ?_⟩
  exact⟨i+1,by omega,by omega, .inl ⟨⟨rfl,rfl,rfl,rfl,trivial⟩,rfl⟩⟩
 ·have hc:n<=(i:Int):=by simpa using hc
  have:n.toNat=i:=by omega
  subst this
  exact⟨rfl,rfl⟩

theorem l81 (n lo hi:Int):qi Tryz.prog 200 [.int .i64 n, .int .i64 lo, .int .i64 hi] [] (fun v H=>v = .bool (betw n lo hi)/\H = []):=c81 n lo hi [] _ ⟨rfl,rfl⟩
theorem c82 {H:List Blk} {R:Value->List Blk->Prop} (k n:Int) (hb : ∀ i:Nat,(i:Int)<=n->I64 (k ^ i)) (hn:n<=1000) (h:R (.int .i64 (k ^ n.toNat)) H):qw Tryz.prog 201 [.int .i64 k, .int .i64 n] H R :=
 vP (l82 k n hb hn) [] rfl (.cons (.int _ _) (.cons (.int _ _) .nil)) trivial rfl h
theorem x81 {H:List Blk} {R:Value->List Blk->Prop} (n lo hi:Int) (h:R (.bool (betw n lo hi)) H):qw Tryz.prog 200 [.int .i64 n, .int .i64 lo, .int .i64 hi] H R :=
 vP (l81 n lo hi) [] rfl (.cons (.int _ _) (.cons (.int _ _) (.cons (.int _ _) .nil))) trivial rfl h

inductive Sh where
 | grid (g:List Int)
 | fat (k n:Int)
 | fly (a h:Int)

def gridN:List Int->Int->Option Int
 | [],n=>some n
 | m::r,n=>if betw m 2 16&&decide (n*m<=256) then gridN r (n*m) else none

def qP (kind:Int) (sides:List Int) (hosts:Int):Option Sh :=
 if kind=1 then
  match gridN sides 1 with
  | some _=>if betw sides.length 1 4&&betw hosts 1 4 then some (.grid sides) else none
  | none=>none
 else if kind=2 then
  match sides with
  | [k,n]=>if betw k 2 8&&(betw n 1 4&&(decide (k ^ n.toNat<=256)&&decide (hosts=k))) then some (.fat k n) else none
  | _=>none
 else if kind=3 then
  match sides with
  | [a,h]=>if betw a 1 16&&(betw h 1 4&&(betw hosts 1 4&&decide (a*(a*h+1)<=256))) then some (.fly a h) else none
  | _=>none
 else none

def shT:Sh->TypeId
 | .grid _=>252
 | .fat _ _=>271
 | .fly _ _=>273
def shU (v:Value):Sh->Value
 | .grid _=>v
 | .fat k n=>.agg ⟨[.int .i64 k, .int .i64 n]⟩
 | .fly a h=>.agg ⟨[.int .i64 a, .int .i64 h]⟩
abbrev shV (v:Value) (s:Sh):Value := .iface (shT s) (shU v s)

def shR (v:Value):Option Sh->Value
 | some s=>.tuple ⟨[shV v s, .int .i64 0]⟩
 | none=>.tuple ⟨[.nilIface, .int .i64 2]⟩

theorem powb {k:Int} (h0:0<=k) (h1:k<=16) {n:Int} (hn:n<=4) (i:Nat) (hi:(i:Int)<=n):I64 (k ^ i):=by
 obtain ⟨q,rfl⟩ : ∃ q:Nat,k=q:=⟨k.toNat,by omega⟩
 have e1:q ^ i<=16 ^ i:=Nat.pow_le_pow_left (by omega) i
 have e2:16 ^ i<=16 ^ 4:=Nat.pow_le_pow_right (by decide) (by omega)
 have e3:((q:Int) ^ i)=((q ^ i:Nat):Int):=by simp
 rw[e3];unfold I64;omega
theorem mulb {a b A B:Int} (ha:0<=a) (hA:a<=A) (hb:0<=b) (hB:b<=B):0<=a*b/\a*b<=A*B :=
 ⟨Int.mul_nonneg ha hb,Int.mul_le_mul hA hB hb (Int.le_trans ha hA)⟩

theorem l57 (kind hosts:Int) (sides:List Int):qi Tryz.prog 109 [.agg ⟨[.int .i64 kind,sv 0 sides.length, .int .i64 hosts]⟩] [ro sides] (fun v H=>v=shR (sv 0 sides.length) (qP kind sides hosts)/\H = [ro sides]):=by
 refine qR (qh tok Tryz.call109 Tryz.func109 rfl Tryz.ntmps109 rfl (by simp) ?_)
 refine And.intro (by decide) ?_
 refine⟨_,rfl, ?_⟩
 refine (x81 _ _ _ ?_).call
 refine And.intro (by decide) ?_
 refine⟨_,rfl, ?_⟩
 refine And.intro (fun h1=>?_) (fun h1=>?_)
 ·have h1:kind=1:=by simpa using h1
  refine And.intro (by decide) ?_
  refine⟨_,rfl, ?_⟩
  refine qN tok (fun p:Nat × Int=>p.1<=sides.length/\gridN (sides.drop p.1) p.2=gridN sides 1/\(p.1:Int)+1<=p.2/\p.2<=256)
   (fun p=>[(1, .pointer (some ⟨1,0,none⟩)),(4, .bool (betw hosts 1 4)),(5, .int .i64 p.2),(16,sv 0 sides.length),(17, .int .i64 sides.length),(18, .int .i64 p.1)])
   (fun _=>[ro sides, .cells true 1 [.int .i64 kind,sv 0 sides.length, .int .i64 hosts]]) (fun p=>sides.length-p.1) (0,1) ⟨Nat.zero_le _,rfl,by decide,by decide⟩ ?_ ?_
  ·exact Or.inl ⟨⟨rfl,rfl,rfl,rfl,rfl,rfl,trivial⟩,rfl⟩
  rintro ⟨i,n⟩ ⟨hi,hg,hn1,hn2⟩
  simp only at hi hg hn1 hn2
  refine And.intro (fun hc=>?_) (fun hc=>?_)
  ·have hlt:i<sides.length:=by simpa using hc
   have hd:sides.drop i=sides[i]! :: sides.drop (i+1):=by rw[getElem!_pos sides i hlt];exact List.drop_eq_getElem_cons hlt
   rw[hd] at hg
   simp only[gridN] at hg
   refine⟨i,rfl,hlt, ?_⟩
   refine vO i sides[i]! (by simp) (by simp[hlt]) ?_
   refine (x81 _ _ _ ?_).call
   refine And.intro (fun hb=>?_) (fun hb=>?_)
   ·have hb' : betw sides[i]! 2 16=true:=by simpa using hb
    have hb2:2<=sides[i]! /\ sides[i]! <= 16:=by simpa [betw] using hb'
    have hmb:=mulb (a:=n) (b:=sides[i]!) (A:=256) (B:=16) (by omega) hn2 (by omega) hb2.2
    (repeat refine goZ ?_)
    refine Or.inl ⟨n*sides[i]!,rfl,by unfold I64;omega, ?_⟩
    (repeat refine goZ ?_)
    refine And.intro (fun hd=>?_) (fun hd=>?_)
    ·have hd:256<n*sides[i]! := by simpa using hd
     have : ¬ (n*sides[i]! <= 256):=by omega
     have e:qP kind sides hosts=none:=by
      simp only[hb',Bool.true_and,decide_eq_true_eq,this,if_false] at hg
      simp[qP,h1,<- hg]
     rw[e]
     refine⟨[(0,0)],_,[ro sides],by simp,qF rfl,⟨⟨_,rfl,BRen.ints _ _ _⟩,trivial⟩,rfl,VRen.plain rfl,rfl,rfl⟩
    ·have hd:n*sides[i]! <= 256:=by simpa using hd
     refine Or.inl ⟨n*sides[i]!,rfl,by unfold I64;omega, ?_⟩
     refine Or.inl ⟨((i+1:Nat):Int),by simp,by unfold I64;omega, ?_⟩
     refine⟨(i+1,n*sides[i]!),⟨hlt, ?_, ?_,hd⟩,by simp;omega, .inl ⟨⟨rfl,rfl,rfl,rfl,rfl,rfl,trivial⟩,rfl⟩⟩
     ·rw[<- hg,hb',decide_eq_true hd];simp only[Bool.and_self,if_true]
     ·have:=Int.mul_le_mul_of_nonneg_left hb2.1 (show 0<=n by omega)
      simp only;omega
   ·have hb' : betw sides[i]! 2 16=false:=by simpa using hb
    have e:qP kind sides hosts=none:=by
     simp only[hb',Bool.false_and] at hg
     simp[qP,h1,<- hg]
    (repeat refine goZ ?_)
    rw[e]
    refine⟨[(0,0)],_,[ro sides],by simp,qF rfl,⟨⟨_,rfl,BRen.ints _ _ _⟩,trivial⟩,rfl,VRen.plain rfl,rfl,rfl⟩
  ·have hlt : ¬ (i<sides.length):=by simpa using hc
   have hd:sides.drop i = []:=List.drop_eq_nil_of_le (by omega)
   rw[hd] at hg
   simp only[gridN] at hg
   refine And.intro (by decide) ?_
   refine⟨_,rfl, ?_⟩
   refine (x81 _ _ _ ?_).call
   refine And.intro (fun hb=>?_) (fun hb=>?_)
   ·(repeat refine goZ ?_)
    refine And.intro (fun hh=>?_) (fun hh=>?_)
    ·refine And.intro (by decide) ?_
     refine⟨_,rfl, ?_⟩
     have e:qP kind sides hosts=some (.grid sides):=by simp[qP,h1,<- hg,hb,hh]
     rw[e]
     refine⟨[(0,0)],_,[ro sides],by simp,qF rfl,⟨⟨_,rfl,BRen.ints _ _ _⟩,trivial⟩,rfl,VRen.tuple (.cons (.iface _ (VRen.slice rfl rfl (Nat.le_refl _))) (.cons (.int _ _) .nil)),rfl,rfl⟩
    ·have e:qP kind sides hosts=none:=by simp[qP,h1,<- hg,hb,hh]
     rw[e]
     refine⟨[(0,0)],_,[ro sides],by simp,qF rfl,⟨⟨_,rfl,BRen.ints _ _ _⟩,trivial⟩,rfl,VRen.plain rfl,rfl,rfl⟩
   ·(repeat refine goZ ?_)
    have e:qP kind sides hosts=none:=by simp[qP,h1,<- hg,hb]
    rw[e]
    refine⟨[(0,0)],_,[ro sides],by simp,qF rfl,⟨⟨_,rfl,BRen.ints _ _ _⟩,trivial⟩,rfl,VRen.plain rfl,rfl,rfl⟩
 ·have h1 : ¬ kind=1:=by simpa using h1
  refine And.intro (fun h2=>?_) (fun h2=>?_)
  ·have h2:kind=2:=by simpa using h2
   refine qZ tok mx [0,1,3,7,15,31,63,127,255,511,1023,2047,4095,8191,16383,32767,65535,131071,262143,524287,1048575,2097151,4194303,524287,8912895,25690111,59244543,134217727,268435455,536870911,1073741823,2147483647,4294967295,2147483647,10737418239,27917287423,62277025791,137438953471,274877906943] [false,false,false,false,false,false,false,false,false,false,false,false,false,false,false,false,false,false,false,false,false,false,false,true,true,true,true,false,false,false,false,false,false,true,true,true,true,false,false] [0,1,2,3,4,5,6,7,8,9,10,11,12,13,14,15,16,17,18,19,20,21,22,23,24,25,26,27,28,29,30,31,32,33,34,35,36,37,38] (by kernel_rfl) ?_
   by_cases hl:sides.length=2
   ·obtain ⟨k,n,rfl⟩ : ∃ k n,sides = [k,n]:=by
     match sides,hl with
     | [k,n],_=>exact⟨k,n,rfl⟩
    (repeat refine goZ ?_)
    refine And.intro (fun _=>?_) (fun h=>absurd h (by simp))
    (repeat refine goZ ?_)
    refine And.intro (by simp) ?_
    (repeat refine goZ ?_)
    (first | refine x81 _ _ _ ?_ | refine (x81 _ _ _ ?_).call)
    refine And.intro (fun hk=>?_) (fun hk=>?_)
    ·have hk2:2<=k/\k<=8:=by simpa [betw] using hk
     (repeat refine goZ ?_)
     refine And.intro (by simp) ?_
     (repeat refine goZ ?_)
     (first | refine x81 _ _ _ ?_ | refine (x81 _ _ _ ?_).call)
     refine And.intro (fun hn=>?_) (fun hn=>?_)
     ·have hn2:1<=n/\n<=4:=by simpa [betw] using hn
      (repeat refine goZ ?_)
      refine And.intro (by simp) ?_
      (repeat refine goZ ?_)
      refine And.intro (by simp) ?_
      (repeat refine goZ ?_)
      (first | refine c82 k n (powb (by omega) (by omega) (by omega)) (by omega) ?_ | refine (c82 k n (powb (by omega) (by omega) (by omega)) (by omega) ?_).call)
      (repeat refine goZ ?_)
      refine And.intro (fun hp=>?_) (fun hp=>?_)
      ·(repeat refine goZ ?_)
       refine And.intro (by simp) ?_
       (repeat refine goZ ?_)
       refine And.intro (fun hh=>?_) (fun hh=>?_)
       ·refine qZ tok mx [0,1,3,7,0,16,48,112,255,511,1023,2047] [false,false,false,false,true,true,true,true,false,false,false,false] [0,1,2,3,4,5,6,7,8,9,10,11] (by kernel_rfl) ?_
        (repeat refine goZ ?_)
        refine And.intro (by simp) ?_
        (repeat refine goZ ?_)
        refine And.intro (by simp) ?_
        (repeat refine goZ ?_)
        have e:qP kind [k,n] hosts=some (.fat k n):=by
         simp only[decide_eq_true_eq] at hp hh
         simp[qP,h2,hk,hn,hp,hh]
        rw[e]
        refine⟨[(0,0)],_,[ro [k,n]],by simp,qF rfl,⟨⟨_,rfl,BRen.ints _ _ _⟩,trivial⟩,rfl,VRen.plain rfl,rfl,rfl⟩
       ·(repeat refine goZ ?_)
        have e:qP kind [k,n] hosts=none:=by
         have hh : ¬ hosts=k:=by simpa using hh
         simp[qP,h2,hh]
        rw[e]
        refine⟨[(0,0)],_,[ro [k,n]],by simp,qF rfl,⟨⟨_,rfl,BRen.ints _ _ _⟩,trivial⟩,rfl,VRen.plain rfl,rfl,rfl⟩
      ·(repeat refine goZ ?_)
       have e:qP kind [k,n] hosts=none:=by
        have hp : ¬ k ^ n.toNat<=256:=by simpa using hp
        simp[qP,h2,hp]
       rw[e]
       refine⟨[(0,0)],_,[ro [k,n]],by simp,qF rfl,⟨⟨_,rfl,BRen.ints _ _ _⟩,trivial⟩,rfl,VRen.plain rfl,rfl,rfl⟩
     ·(repeat refine goZ ?_)
      have e:qP kind [k,n] hosts=none:=by simp[qP,h2,hn]
      rw[e]
      refine⟨[(0,0)],_,[ro [k,n]],by simp,qF rfl,⟨⟨_,rfl,BRen.ints _ _ _⟩,trivial⟩,rfl,VRen.plain rfl,rfl,rfl⟩
    ·(repeat refine goZ ?_)
     have e:qP kind [k,n] hosts=none:=by simp[qP,h2,hk]
     rw[e]
     refine⟨[(0,0)],_,[ro [k,n]],by simp,qF rfl,⟨⟨_,rfl,BRen.ints _ _ _⟩,trivial⟩,rfl,VRen.plain rfl,rfl,rfl⟩
   ·refine And.intro (by decide) ?_
    refine⟨_,rfl, ?_⟩
    refine And.intro (fun h=>absurd (show (sides.length:Int)=2 by simpa using h) (by omega)) (fun _=>?_)
    (repeat refine goZ ?_)
    have e:qP kind sides hosts=none:=by
     unfold qP
     rw[if_neg h1,if_pos h2]
     match sides,hl with
     | [],_=>rfl
     | [_],_=>rfl
     | _::_::_::_,_=>rfl
    rw[e]
    refine⟨[(0,0)],_,[ro sides],by simp,qF rfl,⟨⟨_,rfl,BRen.ints _ _ _⟩,trivial⟩,rfl,VRen.plain rfl,rfl,rfl⟩
  ·have h2 : ¬ kind=2:=by simpa using h2
   refine And.intro (fun h3=>?_) (fun h3=>?_)
   ·have h3:kind=3:=by simpa using h3
    refine qZ tok mx [0,1,3,7,15,31,63,127,255,511,1023,2047,4095,8191,16383,32767,65535,131071,262143,524287,1048575,2097151,4194303,8388607,16777215,33554431,4194303,71303167,205520895,473956351,4194303,1077936127,3225419775,7520387071,17116954623,34296823807,68719476735,137438953471,274877906943] [false,false,false,false,false,false,false,false,false,false,false,false,false,false,false,false,false,false,false,false,false,false,false,false,false,false,true,true,true,true,true,true,true,true,true,true,false,false,false] [0,1,2,3,4,5,6,7,8,9,10,11,12,13,14,15,16,17,18,19,20,21,22,23,24,25,26,27,28,29,30,31,32,33,34,35,36,37,38] (by kernel_rfl) ?_
    by_cases hl:sides.length=2
    ·obtain ⟨a,b,rfl⟩ : ∃ a b,sides = [a,b]:=by
      match sides,hl with
      | [a,b],_=>exact⟨a,b,rfl⟩
     (repeat refine goZ ?_)
     refine And.intro (fun _=>?_) (fun h=>absurd h (by simp))
     (repeat refine goZ ?_)
     refine And.intro (by simp) ?_
     (repeat refine goZ ?_)
     (first | refine x81 _ _ _ ?_ | refine (x81 _ _ _ ?_).call)
     (repeat refine goZ ?_)
     refine And.intro (fun hk=>?_) (fun hk=>?_)
     ·have hk2:1<=a/\a<=16:=by simpa [betw] using hk
      (repeat refine goZ ?_)
      refine And.intro (by simp) ?_
      (repeat refine goZ ?_)
      (first | refine x81 _ _ _ ?_ | refine (x81 _ _ _ ?_).call)
      (repeat refine goZ ?_)
      refine And.intro (fun hn=>?_) (fun hn=>?_)
      ·have hn2:1<=b/\b<=4:=by simpa [betw] using hn
       have hm:=mulb (a:=a) (b:=b) (A:=16) (B:=4) (by omega) (by omega) (by omega) (by omega)
       have hm2:=mulb (a:=a) (b:=a*b+1) (A:=16) (B:=65) (by omega) (by omega) (by omega) (by omega)
       (repeat refine goZ ?_)
       refine And.intro (fun hh=>?_) (fun hh=>?_)
       ·(repeat refine goZ ?_)
        refine And.intro (by simp) ?_
        (repeat refine goZ ?_)
        refine And.intro (by simp) ?_
        (repeat refine goZ ?_)
        refine And.intro (by simp) ?_
        (repeat refine goZ ?_)
        refine And.intro (fun hp=>?_) (fun hp=>?_)
        ·refine qZ tok mx [0,1,3,7,0,16,48,112,255,511,1023,2047] [false,false,false,false,true,true,true,true,false,false,false,false] [0,1,2,3,4,5,6,7,8,9,10,11] (by kernel_rfl) ?_
         (repeat refine goZ ?_)
         refine And.intro (by simp) ?_
         (repeat refine goZ ?_)
         refine And.intro (by simp) ?_
         (repeat refine goZ ?_)
         have hp:a*(a*b+1)<=256:=by simpa using hp
         have e:qP kind [a,b] hosts=some (.fly a b):=by simp[qP,h3,hk,hn,hp,hh]
         rw[e]
         refine⟨[(0,0)],_,[ro [a,b]],by simp,qF rfl,⟨⟨_,rfl,BRen.ints _ _ _⟩,trivial⟩,rfl,VRen.plain rfl,rfl,rfl⟩
        ·(repeat refine goZ ?_)
         have hp : ¬ a*(a*b+1)<=256:=by simpa using hp
         have e:qP kind [a,b] hosts=none:=by simp[qP,h3,hp]
         rw[e]
         refine⟨[(0,0)],_,[ro [a,b]],by simp,qF rfl,⟨⟨_,rfl,BRen.ints _ _ _⟩,trivial⟩,rfl,VRen.plain rfl,rfl,rfl⟩
       ·(repeat refine goZ ?_)
        have hh:betw hosts 1 4=false:=by simpa using hh
        have e:qP kind [a,b] hosts=none:=by simp[qP,h3,hh]
        rw[e]
        refine⟨[(0,0)],_,[ro [a,b]],by simp,qF rfl,⟨⟨_,rfl,BRen.ints _ _ _⟩,trivial⟩,rfl,VRen.plain rfl,rfl,rfl⟩
      ·(repeat refine goZ ?_)
       have hn:betw b 1 4=false:=by simpa using hn
       have e:qP kind [a,b] hosts=none:=by simp[qP,h3,hn]
       rw[e]
       refine⟨[(0,0)],_,[ro [a,b]],by simp,qF rfl,⟨⟨_,rfl,BRen.ints _ _ _⟩,trivial⟩,rfl,VRen.plain rfl,rfl,rfl⟩
     ·(repeat refine goZ ?_)
      have hk:betw a 1 16=false:=by simpa using hk
      have e:qP kind [a,b] hosts=none:=by simp[qP,h3,hk]
      rw[e]
      refine⟨[(0,0)],_,[ro [a,b]],by simp,qF rfl,⟨⟨_,rfl,BRen.ints _ _ _⟩,trivial⟩,rfl,VRen.plain rfl,rfl,rfl⟩
    ·refine And.intro (by decide) ?_
     refine⟨_,rfl, ?_⟩
     refine And.intro (fun h=>absurd (show (sides.length:Int)=2 by simpa using h) (by omega)) (fun _=>?_)
     (repeat refine goZ ?_)
     have e:qP kind sides hosts=none:=by
      unfold qP
      rw[if_neg h1,if_neg h2,if_pos h3]
      match sides,hl with
      | [],_=>rfl
      | [_],_=>rfl
      | _::_::_::_,_=>rfl
     rw[e]
     refine⟨[(0,0)],_,[ro sides],by simp,qF rfl,⟨⟨_,rfl,BRen.ints _ _ _⟩,trivial⟩,rfl,VRen.plain rfl,rfl,rfl⟩
   ·have h3 : ¬ kind=3:=by simpa using h3
    have e:qP kind sides hosts=none:=by
     unfold qP
     rw[if_neg h1,if_neg h2,if_neg h3]
    rw[e]
    refine⟨[(0,0)],_,[ro sides],by simp,qF rfl,⟨⟨_,rfl,BRen.ints _ _ _⟩,trivial⟩,rfl,VRen.plain rfl,rfl,rfl⟩
end Go.Af.Tryz.Ne
namespace Go.Af.Tryz.Ne
open Go Go.Proofs
attribute [local irreducible] awp qi qw qH

abbrev spV (kind:Int) (v:Value) (hosts:Int):Value := .agg ⟨[.int .i64 kind,v, .int .i64 hosts]⟩

theorem vback_sv {ι : List (Nat × Nat)} {j i n c:Nat} (h : ι[j]? = some (i,0)):qY ι (.slice (some ⟨j,0,none⟩) n c) (.slice (some ⟨i,0,none⟩) n c):=by
 have:=qY.slice (o:=0) (l:=n) (c:=c) h
 simpa using this
theorem vback_shR {ι : List (Nat × Nat)} {j i n:Nat} (h : ι[j]? = some (i,0)) (s:Option Sh):qY ι (shR (sv j n) s) (shR (sv i n) s):=by
 match s with
 | none=>exact qY.plain rfl
 | some (.grid g)=>exact qY.tuple (.cons (.iface _ (vback_sv h)) (.cons (.int _ _) .nil))
 | some (.fat k n)=>exact qY.plain rfl
 | some (.fly k n)=>exact qY.plain rfl

theorem c57 {H:List Blk} {R:Value->List Blk->Prop} {b c:Nat} {wr:Bool} {sides:List Int} (kind hosts:Int) (hb:bget H b=some (.cells wr 1 (ints sides))) (hc:sides.length<=c)
 (h:R (shR (sv b sides.length) (qP kind sides hosts)) H):qw Tryz.prog 109 [spV kind (.slice (some ⟨b,0,none⟩) sides.length c) hosts] H R :=
 xU (l57 kind hosts sides) [(b,0)] rfl (.cons (.agg (.cons (.int _ _) (.cons (VRen.slice rfl rfl hc) (.cons (.int _ _) .nil)))) .nil)
  ⟨⟨_,hb,BRen.seg fun i x hx=>by rw[Nat.zero_add,ve,hx];rfl⟩,trivial⟩ (by
    rintro v2 H2' ⟨rfl,rfl⟩
    exact⟨_,[],[],by simp,rfl,fun k b2 hk=>by simp at hk,vback_shR rfl _,by simpa using h⟩)
end Go.Af.Tryz.Ne
namespace Go.Af.Tryz.Ne
open Go Go.Proofs
attribute [local irreducible] awp qi qw qH

theorem me_sw_grid (v : Value) (w : World) : (method (Tryz.prog.types.size + Made.depth) 252 v "armada/net.switches").run Tryz.prog w = .ok (386, v) w := by kernel_rfl
theorem me_sw_fat (v : Value) (w : World) : (method (Tryz.prog.types.size + Made.depth) 271 v "armada/net.switches").run Tryz.prog w = .ok (396, v) w := by kernel_rfl
theorem me_sw_fly (v : Value) (w : World) : (method (Tryz.prog.types.size + Made.depth) 273 v "armada/net.switches").run Tryz.prog w = .ok (408, v) w := by kernel_rfl
theorem me_ho_grid (v : Value) (w : World) : (method (Tryz.prog.types.size + Made.depth) 252 v "armada/net.homes").run Tryz.prog w = .ok (382, v) w := by kernel_rfl
theorem me_ho_fat (v : Value) (w : World) : (method (Tryz.prog.types.size + Made.depth) 271 v "armada/net.homes").run Tryz.prog w = .ok (391, v) w := by kernel_rfl
theorem me_ho_fly (v : Value) (w : World) : (method (Tryz.prog.types.size + Made.depth) 273 v "armada/net.homes").run Tryz.prog w = .ok (403, v) w := by kernel_rfl

abbrev twoV (k n:Int):Value := .agg ⟨[.int .i64 k, .int .i64 n]⟩
theorem zt {ι : List (Nat × Nat)} {k n:Int}:VRen ι (twoV k n) (twoV k n):=VRen.plain rfl

theorem l146 (k n:Int) (hk:2<=k/\k<=8) (hn:1<=n/\n<=4):qi Tryz.prog 397 [twoV k n] [] (fun v H=>v = .int .i64 (k ^ (n-1).toNat)/\H = []):=by
 refine qR (qh tok Tryz.call397 Tryz.func397 rfl Tryz.ntmps397 rfl (by simp) ?_)
 (repeat refine goZ ?_)
 (first | refine c82 k (n-1) (powb (by omega) (by omega) (by omega)) (by omega) ?_ | refine (c82 k (n-1) (powb (by omega) (by omega) (by omega)) (by omega) ?_).call)
 exact⟨[],_,[],by simp,qF rfl,trivial,rfl,VRen.plain rfl,rfl,rfl⟩
theorem c146 {H:List Blk} {R:Value->List Blk->Prop} (k n:Int) (hk:2<=k/\k<=8) (hn:1<=n/\n<=4) (h:R (.int .i64 (k ^ (n-1).toNat)) H):qw Tryz.prog 397 [twoV k n] H R :=
 vP (l146 k n hk hn) [] rfl (.cons zt .nil) trivial rfl h

theorem powle {k:Int} (h0:0<=k) (h1:k<=16) (i:Nat) (hi:i<=4):0<=k ^ i/\k ^ i<=65536:=by
 obtain ⟨q,rfl⟩ : ∃ q:Nat,k=q:=⟨k.toNat,by omega⟩
 have e1:q ^ i<=16 ^ i:=Nat.pow_le_pow_left (by omega) i
 have e2:16 ^ i<=16 ^ 4:=Nat.pow_le_pow_right (by decide) hi
 have e3:((q:Int) ^ i)=((q ^ i:Nat):Int):=by simp
 rw[e3];omega

theorem l145 (k n:Int) (hk:2<=k/\k<=8) (hn:1<=n/\n<=4):qi Tryz.prog 396 [twoV k n] [] (fun v H=>v = .int .i64 (n*k ^ (n-1).toNat)/\H = []):=by
 refine qR (qh tok Tryz.call396 Tryz.func396 rfl Tryz.ntmps396 rfl (by simp) ?_)
 refine qZ tok mx [0,1,0,4,15,31] [false,false,true,true,false,false] [0,1,2,3,4,5] (by kernel_rfl) ?_
 (repeat refine goZ ?_)
 (first | refine c146 k n hk hn ?_ | refine (c146 k n hk hn ?_).call)
 have hp:=powle (k:=k) (by omega) (by omega) (n-1).toNat (by omega)
 have hm:=mulb (a:=n) (A:=4) (by omega) (by omega) hp.1 hp.2
 (repeat refine goZ ?_)
 exact⟨[],_,[],by simp,qF rfl,trivial,rfl,VRen.plain rfl,rfl,rfl⟩
theorem l140 (k n:Int) (hk:2<=k/\k<=8) (hn:1<=n/\n<=4):qi Tryz.prog 391 [twoV k n] [] (fun v H=>v = .int .i64 (k ^ (n-1).toNat)/\H = []):=by
 refine qR (qh tok Tryz.call391 Tryz.func391 rfl Tryz.ntmps391 rfl (by simp) ?_)
 (repeat refine goZ ?_)
 (first | refine c146 k n hk hn ?_ | refine (c146 k n hk hn ?_).call)
 exact⟨[],_,[],by simp,qF rfl,trivial,rfl,VRen.plain rfl,rfl,rfl⟩

theorem l151 (a b:Int) (ha:1<=a/\a<=16) (hb:1<=b/\b<=4):qi Tryz.prog 402 [twoV a b] [] (fun v H=>v = .int .i64 (a*b+1)/\H = []):=by
 refine qR (qh tok Tryz.call402 Tryz.func402 rfl Tryz.ntmps402 rfl (by simp) ?_)
 have hm:=mulb (a:=a) (b:=b) (A:=16) (B:=4) (by omega) (by omega) (by omega) (by omega)
 (repeat refine goZ ?_)
 exact⟨[],_,[],by simp,qF rfl,trivial,rfl,VRen.plain rfl,rfl,rfl⟩
theorem c151 {H:List Blk} {R:Value->List Blk->Prop} (a b:Int) (ha:1<=a/\a<=16) (hb:1<=b/\b<=4) (h:R (.int .i64 (a*b+1)) H):qw Tryz.prog 402 [twoV a b] H R :=
 vP (l151 a b ha hb) [] rfl (.cons zt .nil) trivial rfl h
theorem l157 (a b:Int) (ha:1<=a/\a<=16) (hb:1<=b/\b<=4):qi Tryz.prog 408 [twoV a b] [] (fun v H=>v = .int .i64 (a*(a*b+1))/\H = []):=by
 refine qR (qh tok Tryz.call408 Tryz.func408 rfl Tryz.ntmps408 rfl (by simp) ?_)
 have hm:=mulb (a:=a) (b:=b) (A:=16) (B:=4) (by omega) (by omega) (by omega) (by omega)
 have hm2:=mulb (a:=a) (b:=a*b+1) (A:=16) (B:=65) (by omega) (by omega) (by omega) (by omega)
 refine qZ tok mx [0,1,0,4,15,31] [false,false,true,true,false,false] [0,1,2,3,4,5] (by kernel_rfl) ?_
 (repeat refine goZ ?_)
 (first | refine c151 a b ha hb ?_ | refine (c151 a b ha hb ?_).call)
 (repeat refine goZ ?_)
 exact⟨[],_,[],by simp,qF rfl,trivial,rfl,VRen.plain rfl,rfl,rfl⟩
theorem c157 {H:List Blk} {R:Value->List Blk->Prop} (a b:Int) (ha:1<=a/\a<=16) (hb:1<=b/\b<=4) (h:R (.int .i64 (a*(a*b+1))) H):qw Tryz.prog 408 [twoV a b] H R :=
 vP (l157 a b ha hb) [] rfl (.cons zt .nil) trivial rfl h
theorem l152 (a b:Int) (ha:1<=a/\a<=16) (hb:1<=b/\b<=4):qi Tryz.prog 403 [twoV a b] [] (fun v H=>v = .int .i64 (a*(a*b+1))/\H = []):=by
 refine qR (qh tok Tryz.call403 Tryz.func403 rfl Tryz.ntmps403 rfl (by simp) ?_)
 (repeat refine goZ ?_)
 (first | refine c157 a b ha hb ?_ | refine (c157 a b ha hb ?_).call)
 (repeat refine goZ ?_)
 exact⟨[],_,[],by simp,qF rfl,trivial,rfl,VRen.plain rfl,rfl,rfl⟩

def prodF (g:List Int):Int:=g.foldl (fun n m=>n*m) 1
theorem prodF_snoc (g:List Int) (i:Nat) (hi:i<g.length):prodF (g.take (i+1))=prodF (g.take i)*g[i]! := by
 unfold prodF
 rw[List.take_succ_eq_append_getElem hi,List.foldl_append,getElem!_pos g i hi];rfl
theorem l135 (g:List Int) (hl:g.length<=1000) (hg : ∀ i,i<=g.length->I64 (prodF (g.take i))):qi Tryz.prog 386 [sv 0 g.length] [ro g] (fun v H=>v = .int .i64 (prodF g)/\H = [ro g]):=by
 refine qh tok Tryz.call386 Tryz.func386 rfl Tryz.ntmps386 rfl (by simp) ?_
 refine qN tok (fun i:Nat=>i<=g.length) (fun i=>[(6,sv 0 g.length),(3, .int .i64 (prodF (g.take i))),(7, .int .i64 g.length),(8, .int .i64 i)]) (fun _=>[ro g]) (fun i=>g.length-i) 0 (Nat.zero_le _) ?_ ?_
 ·exact Or.inl ⟨⟨rfl,rfl,rfl,rfl,trivial⟩,rfl⟩
 intro i hi
 refine And.intro (fun hc=>?_) (fun hc=>?_)
 ·have hlt:i<g.length:=by simpa using hc
  refine⟨i,rfl,hlt, ?_⟩
  refine vO i g[i]! (by simp) (by simp[hlt]) ?_
  refine Or.inl ⟨_,(prodF_snoc g i hlt).symm,hg (i+1) hlt, ?_⟩
  refine Or.inl ⟨((i+1:Nat):Int),by simp,by unfold I64;omega, ?_⟩
  exact⟨i+1,hlt,by omega, .inl ⟨⟨rfl,rfl,rfl,rfl,trivial⟩,rfl⟩⟩
 ·have:i=g.length:=by simp at hc;omega
  subst this
  exact⟨by rw[List.take_of_length_le (Nat.le_refl _)];rfl,rfl⟩

def Sh.sw:Sh->Int
 | .grid g=>prodF g
 | .fat k n=>n*k ^ (n-1).toNat
 | .fly a b=>a*(a*b+1)
def Sh.hm:Sh->Int
 | .grid g=>prodF g
 | .fat k n=>k ^ (n-1).toNat
 | .fly a b=>a*(a*b+1)
def Sh.ok:Sh->Prop
 | .grid g=>1<=g.length/\g.length<=4/\(∀ m∈g,2<=m/\m<=16)/\(∀ i,1<=prodF (g.take i)/\prodF (g.take i)<=256)
 | .fat k n=>(2<=k/\k<=8)/\(1<=n/\n<=4)/\k ^ n.toNat<=256
 | .fly a b=>(1<=a/\a<=16)/\(1<=b/\b<=4)/\a*(a*b+1)<=256
def Sh.at (H:List Blk) (b:Nat) (n:Nat):Sh->Prop
 | .grid g=>n=g.length/\∃ wr,bget H b=some (.cells wr 1 (ints g))
 | _=>True
theorem xO {x:Int} (h:0<=x/\x<=65536):I64 x:=by unfold I64;omega

theorem x_sw {H : List Blk} {R : Value → List Blk → Prop} {s : Sh} {b n : Nat} (hs : s.ok) (ha : s.at H b n) (h : R (.int .i64 s.sw) H) : zX Tryz.prog (shT s) (shU (sv b n) s) "armada/net.switches" [] H R := by
 cases s with
 | grid g =>
   obtain ⟨_,h2,_,h4⟩:=hs
   obtain ⟨e,wr,hb⟩:=ha
   subst e
   exact⟨386,me_sw_grid,vP (l135 g (by omega) (fun i _=>xO (by have:=h4 i;omega))) [(b,0)] rfl (.cons (VRen.slice rfl rfl (Nat.le_refl _)) .nil)
    ⟨⟨_,hb,BRen.seg fun i x hx=>by rw[Nat.zero_add,ve,hx];rfl⟩,trivial⟩ rfl h⟩
 | fat k n' => exact⟨396,me_sw_fat,vP (l145 k n' hs.1 hs.2.1) [] rfl (.cons zt .nil) trivial rfl h⟩
 | fly k n' => exact⟨408,me_sw_fly,c157 k n' hs.1 hs.2.1 h⟩
end Go.Af.Tryz.Ne
namespace Go.Af
open Go
theorem zX.call {P:Program} {t:TypeId} {v:Value} {name:String} {args:List Value} {H:List Blk} {R:Value->List Blk->Prop} (h:zX P t v name args H R):qy P t v name args H R :=
 let ⟨f,h1,h2⟩:=h; ⟨f,h1,h2.call⟩
end Go.Af
namespace Go.Af.Tryz.Ne
open Go Go.Proofs
attribute [local irreducible] awp qi qw qH qy zX

theorem prod_take (g:List Int) : ∀ (n k:Int),1<=n->gridN g n=some k->(∀ m∈g,2<=m/\m<=16)/\∀ i,1<=(g.take i).foldl (fun n m=>n*m) n/\((g.take i).foldl (fun n m=>n*m) n<=256\/i=0\/g = []):=by
 induction g with
 | nil=>intro n k hn h;exact⟨fun m hm=>(by cases hm),fun i=>(by simp[hn])⟩
 | cons m r ih =>
   intro n k hn h
   simp only[gridN] at h
   split at h
   ·rename_i hc
    simp only[betw,Bool.and_eq_true,decide_eq_true_eq] at hc
    have h1:1<=n*m:=by
     have:=Int.mul_le_mul hn (show (1:Int)<=m by omega) (by decide) (by omega)
     simpa using this
    obtain ⟨k1,k2⟩:=ih (n*m) k h1 h
    refine⟨fun x hx=>?_,fun i=>?_⟩
    ·rcases List.mem_cons.1 hx with rfl | hx
     ·exact⟨hc.1.1,hc.1.2⟩
     ·exact k1 x hx
    ·cases i with
     | zero=>exact⟨by simpa using hn, .inr (.inl rfl)⟩
     | succ i =>
       refine⟨by simpa using (k2 i).1, .inl ?_⟩
       rcases (k2 i).2 with h3 | rfl | rfl
       ·simpa using h3
       ·simpa using hc.2
       ·simpa using hc.2
   ·cases h

theorem shapeF_ok {kind hosts:Int} {sides:List Int} {s:Sh} (h:qP kind sides hosts=some s):s.ok:=by
 unfold qP at h
 split at h
 ·split at h
  ·rename_i k hk
   split at h
   ·rename_i hc
    cases h
    simp only[betw,Bool.and_eq_true,decide_eq_true_eq] at hc
    obtain ⟨h1,h2⟩:=prod_take sides 1 _ (by decide) hk
    refine⟨by omega,by omega,h1,fun i=>⟨(h2 i).1, ?_⟩⟩
    rcases (h2 i).2 with h3 | rfl | rfl
    ·exact h3
    ·simp[prodF]
    ·simp[prodF]
   ·cases h
  ·cases h
 ·split at h
  ·split at h
   ·split at h
    ·rename_i hc
     cases h
     simp only[betw,Bool.and_eq_true,decide_eq_true_eq] at hc
     exact⟨⟨hc.1.1,hc.1.2⟩,⟨hc.2.1.1,hc.2.1.2⟩,hc.2.2.1⟩
    ·cases h
   ·cases h
  ·split at h
   ·split at h
    ·split at h
     ·rename_i hc
      cases h
      simp only[betw,Bool.and_eq_true,decide_eq_true_eq] at hc
      exact⟨⟨hc.1.1,hc.1.2⟩,⟨hc.2.1.1,hc.2.1.2⟩,hc.2.2.2⟩
     ·cases h
    ·cases h
   ·cases h

def inAll (l:List Int) (n:Int):Bool:=l.all fun x=>decide (0<=x)&&decide (x<n)
def withR (v:Value) (s:Option Sh) (l:List Int):Value :=
 match s with
 | none=>.tuple ⟨[.nilIface, .int .i64 2]⟩
 | some s=>if inAll l s.sw then .tuple ⟨[shV v s, .int .i64 0]⟩ else .tuple ⟨[.nilIface, .int .i64 3]⟩

theorem inAll_get {l:List Int} {n:Int} {i:Nat} (hi:i<l.length) (h : ¬ (0<=l[i]! /\ l[i]! < n)):inAll l n=false:=by
 rw[Bool.eq_false_iff]
 intro h2
 simp only[inAll,List.all_eq_true,Bool.and_eq_true,decide_eq_true_eq] at h2
 have:=h2 l[i]! (by rw[getElem!_pos l i hi];exact List.getElem_mem hi)
 exact h this

theorem shapeF_grid {kind hosts:Int} {sides g:List Int} (h:qP kind sides hosts=some (.grid g)):g=sides:=by
 unfold qP at h
 split at h
 ·split at h
  ·split at h
   ·cases h;rfl
   ·cases h
  ·cases h
 ·split at h
  ·split at h
   ·split at h <;> cases h
   ·cases h
  ·split at h
   ·split at h
    ·split at h <;> cases h
    ·cases h
   ·cases h

theorem vren_with {ι : List (Nat × Nat)} {n:Nat} (h : ι[0]? = some (0,0)) (s:Sh) (l:List Int) (hin:inAll l s.sw=true):VRen ι (withR (sv 0 n) (some s) l) (.tuple ⟨[shV (sv 0 n) s, .int .i64 0]⟩):=by
 simp only[withR,hin,if_true]
 cases s with
 | grid g=>exact VRen.tuple (.cons (.iface _ (VRen.slice h rfl (Nat.le_refl _))) (.cons (.int _ _) .nil))
 | fat k n=>exact VRen.plain rfl
 | fly k n=>exact VRen.plain rfl

theorem l62 (kind hosts:Int) (sides l:List Int) (hl:l.length<=1000):qi Tryz.prog 215 [spV kind (sv 0 sides.length) hosts,sv 1 l.length] [ro sides,ro l]
 (fun v H=>v=withR (sv 0 sides.length) (qP kind sides hosts) l/\H = [ro sides,ro l]):=by
 refine qR (qh tok Tryz.call215 Tryz.func215 rfl Tryz.ntmps215 rfl (by simp) ?_)
 (repeat refine goZ ?_)
 (first | refine c57 kind hosts rfl (Nat.le_refl _) ?_ | refine (c57 kind hosts rfl (Nat.le_refl _) ?_).call)
 cases hs:qP kind sides hosts with
 | none =>
   (repeat refine goZ ?_)
   exact⟨[(0,0),(1,0)],_,[ro sides,ro l],by simp,qF rfl,⟨⟨_,rfl,BRen.ints _ _ _⟩,⟨_,rfl,BRen.ints _ _ _⟩,trivial⟩,rfl,VRen.plain rfl,rfl,rfl⟩
 | some s =>
   have hok:=shapeF_ok hs
   have hat:s.at [ro sides,ro l, .cells true 1 [.int .i64 kind,sv 0 sides.length, .int .i64 hosts]] 0 sides.length:=by
    cases s with
    | grid g=>have:=shapeF_grid hs;subst this;exact⟨rfl,false,rfl⟩
    | fat k n=>trivial
    | fly k n=>trivial
   (repeat refine goZ ?_)
   refine qN tok (fun i:Nat=>i<=l.length/\inAll (l.take i) s.sw=true) (fun i=>[(6,shV (sv 0 sides.length) s),(18,sv 1 l.length),(19, .int .i64 l.length),(20, .int .i64 i)])
    (fun _=>[ro sides,ro l, .cells true 1 [.int .i64 kind,sv 0 sides.length, .int .i64 hosts]]) (fun i=>l.length-i) 0 ⟨Nat.zero_le _,rfl⟩ ?_ ?_
   ·exact Or.inl ⟨⟨rfl,rfl,rfl,rfl,trivial⟩,rfl⟩
   rintro i ⟨hi,hin⟩
   refine And.intro (fun hc=>?_) (fun hc=>?_)
   ·have hlt:i<l.length:=by simpa using hc
    refine⟨i,rfl,hlt, ?_⟩
    refine vO i l[i]! (by simp) (by simp[hlt]) ?_
    refine And.intro (fun hn=>?_) (fun hn=>?_)
    ·have hn : ¬ l[i]! < 0:=by simpa using hn
     (repeat refine goZ ?_)
     refine (x_sw hok hat ?_).call
     (repeat refine goZ ?_)
     refine And.intro (fun hg=>?_) (fun hg=>?_)
     ·have hg:s.sw<=l[i]! := by simpa using hg
      have e:inAll l s.sw=false:=inAll_get hlt (by omega)
      exact⟨[(0,0),(1,0)],_,[ro sides,ro l],by simp,qF rfl,⟨⟨_,rfl,BRen.ints _ _ _⟩,⟨_,rfl,BRen.ints _ _ _⟩,trivial⟩,rfl,VRen.plain rfl,by simp[withR,e];rfl,rfl⟩
     ·have hg : ¬ s.sw<=l[i]! := by simpa using hg
      refine Or.inl ⟨((i+1:Nat):Int),by simp,by unfold I64;omega, ?_⟩
      refine⟨i+1,⟨hlt, ?_⟩,by omega, .inl ⟨⟨rfl,rfl,rfl,rfl,trivial⟩,rfl⟩⟩
      rw[List.take_succ_eq_append_getElem hlt]
      rw[getElem!_pos l i hlt] at hn hg
      have h1 : ¬ s.sw<=l[i]:=hg
      simp only[inAll,List.all_append,List.all_cons,List.all_nil,Bool.and_true,Bool.and_eq_true,decide_eq_true_eq] at hin ⊢
      exact⟨hin,by omega,by omega⟩
    ·have hn:l[i]! < 0:=by simpa using hn
     have e:inAll l s.sw=false:=inAll_get hlt (by omega)
     (repeat refine goZ ?_)
     exact⟨[(0,0),(1,0)],_,[ro sides,ro l],by simp,qF rfl,⟨⟨_,rfl,BRen.ints _ _ _⟩,⟨_,rfl,BRen.ints _ _ _⟩,trivial⟩,rfl,VRen.plain rfl,by simp[withR,e];rfl,rfl⟩
   ·have:i=l.length:=by simp at hc;omega
    subst this
    rw[List.take_of_length_le (Nat.le_refl _)] at hin
    (repeat refine goZ ?_)
    exact⟨[(0,0),(1,0)],withR (sv 0 sides.length) (some s) l,[ro sides,ro l],by simp,qF rfl,⟨⟨_,rfl,BRen.ints _ _ _⟩,⟨_,rfl,BRen.ints _ _ _⟩,trivial⟩,rfl,vren_with rfl _ _ hin,rfl,rfl⟩
end Go.Af.Tryz.Ne
namespace Go.Af.Tryz.Ne
open Go Go.Proofs
attribute [local irreducible] awp qi qw qH qy zX

/-! The reference's small functions. -/
theorem acallx_sp {f:FuncId} {H:List Blk} {R:Value->List Blk->Prop} {b c:Nat} {wr:Bool} {sides:List Int} {kind hosts:Int} {xs:List Value} {V:Value} (hp:xs.all (vY 6)=true)
 (hc:qi Tryz.prog f (spV kind (sv 0 sides.length) hosts::xs) [ro sides] (fun v H' => v=V/\H' = [ro sides])) (hb:bget H b=some (.cells wr 1 (ints sides))) (hl:sides.length<=c) (hV:vY 6 V=true) (h:R V H) :
 qw Tryz.prog f (spV kind (.slice (some ⟨b,0,none⟩) sides.length c) hosts::xs) H R :=
 vP hc [(b,0)] rfl (.cons (.agg (.cons (.int _ _) (.cons (VRen.slice rfl rfl hl) (.cons (.int _ _) .nil)))) (LRen.of rfl fun i x2 x h1 h2=>by
  rw[h1] at h2;cases h2
  rw[List.all_eq_true] at hp
  exact VRen.plain (hp x2 (List.mem_of_getElem? h1))))
  ⟨⟨_,hb,BRen.seg fun i x hx=>by rw[Nat.zero_add,ve,hx];rfl⟩,trivial⟩ hV h
def Sh.of (kind:Int) (sides:List Int):Sh->Prop
 | .grid g=>kind=1/\g=sides
 | .fat k n=>kind=2/\sides = [k,n]
 | .fly a h=>kind=3/\sides = [a,h]
theorem shapeF_of {kind hosts:Int} {sides:List Int} {s:Sh} (h:qP kind sides hosts=some s):s.of kind sides:=by
 unfold qP at h
 split at h
 ·rename_i hk
  split at h
  ·split at h
   ·cases h;exact⟨hk,rfl⟩
   ·cases h
  ·cases h
 ·split at h
  ·rename_i hk
   split at h
   ·split at h
    ·cases h;exact⟨hk,rfl⟩
    ·cases h
   ·cases h
  ·split at h
   ·rename_i hk
    split at h
    ·split at h
     ·cases h;exact⟨hk,rfl⟩
     ·cases h
    ·cases h
   ·cases h

end Go.Af.Tryz.Ne
