/- A part of the proof. -/
import Derived.Test.YtmnjcogpchodhaaGreatMGA
import Derived.Test.YtmnjcogpchodhaaGreatMCA
import Derived.Test.YtmnjcogpchodhaaGreatMA
set_option linter.all false
set_option maxHeartbeats 4000000
set_option maxRecDepth 100000
namespace Go.Af.Tryz
open Go Go.Proofs
attribute [local irreducible] awp qj qJ qL qC qo isCells qx qp qA qw qh roundEnd

def blkF (t:Tk):Int :=
 if t.op=5\/t.op=6\/t.op=7\/t.op=9 then t.pr else if t.op=8 then 2*t.pr else if t.op=11 then 1+2*(t.sz.length:Int) else 1
theorem c87 {H:List Blk} {t:Tk} {b c:Nat} {R:Value->List Blk->Prop} (hl:t.op=11->t.sz.length<=10) (hp:1<=t.pr/\t.pr<=64) (h : ∀ H',HS H none' [] H' -> R (.int .i64 (blkF t)) H'):qj Tryz.prog 87 [tkV t b c] H R:=by
 refine qf tok Tryz.call87 Tryz.func87 rfl Tryz.ntmps87 rfl (by simp) ?_;refine qi (HS.start H none') (fun H1 b1 e1 l1 hs=>?_);refine qg (fun _ hKs=>hKs _ _ ?_);clear hKs
 replace h:=h H1 (qc hs)
 unfold blkF at h
 repeat' (first|refine nY (fun K0 hK0=>?_)|refine zAw ?_|refine zNw (fun _ _ hs=>?_)|(refine dI (fun hc=>?_) (fun hc=>?_) <;> try (exfalso;omega))|fail)
 all_goals (
  (repeat (first | rw[if_pos (by omega)] at h | rw[if_neg (by omega)] at h))
  exact h)
theorem blk_facts (t:Tk):(t.op=5\/t.op=6\/t.op=7\/t.op=9->blkF t=t.pr)/\(t.op=8->blkF t=2*t.pr)/\(t.op=11->blkF t=1+2*(t.sz.length:Int))/\(¬ (t.op=5\/t.op=6\/t.op=7\/t.op=9\/t.op=8\/t.op=11)->blkF t=1):=by
 unfold blkF;refine⟨fun h=>by rw[if_pos h],fun h=>by rw[if_neg (by omega),if_pos h],fun h=>by rw[if_neg (by omega),if_neg (by omega),if_pos h],fun h=>by rw[if_neg (by omega),if_neg (by omega),if_neg (by omega)]⟩
end Go.Af.Tryz
namespace Go.Af.Coll

structure St where
 rd:Int
 fr:Int
 to:Int
 sr:Int
 ds:Int
 jn:Int
deriving DecidableEq

def sgn (a b:Int):Int:=if a<b then -1 else if b<a then 1 else 0
def orF:List Int->Int
 | []=>0
 | x::r=>if x≠0 then x else orF r
def cmpL (a b:St):List Int := [a.rd-b.rd,a.fr-b.fr,a.to-b.to,sgn a.sr b.sr,sgn a.ds b.ds]
def cmpF (a b:St):Int:=orF (cmpL a b)
def keyL (a:St):List Int := [a.rd,a.fr,a.to,a.sr,a.ds]
def befL:List Int->List Int->Bool
 | x::xs,y::ys=>if x≠y then decide (x<y) else befL xs ys
 | _,_=>false
def befF (a b:St):Bool:=befL (keyL a) (keyL b)

theorem cmp_bef (a b:St):0<=cmpF a b↔befF a b=false:=by
 unfold cmpF cmpL befF keyL;simp only[orF,befL,sgn];by_cases h1:a.rd=b.rd
 ·by_cases h2:a.fr=b.fr
  ·by_cases h3:a.to=b.to
   ·by_cases h4:a.sr=b.sr
    ·by_cases h5:a.ds=b.ds
     ·simp[h1,h2,h3,h4,h5]
     ·simp only[h1,h2,h3,h4,Int.sub_self,ne_eq,not_true,if_false,h5,not_false_eq_true,if_true,Int.lt_irrefl]
      split <;> (try split) <;> first | (simp;done) | (simp;omega)
    ·simp only[h1,h2,h3,Int.sub_self,ne_eq,not_true,if_false,h4,not_false_eq_true,if_true]
     split <;> (try split) <;> first | (simp;done) | (simp;omega)
   ·have:a.to-b.to≠0:=by omega
    simp only[h1,h2,Int.sub_self,ne_eq,not_true,if_false,this,h3,not_false_eq_true,if_true]
    first | (simp;done) | (simp;omega)
  ·have:a.fr-b.fr≠0:=by omega
   simp only[h1,Int.sub_self,ne_eq,not_true,if_false,this,h2,not_false_eq_true,if_true]
   first | (simp;done) | (simp;omega)
 ·have:a.rd-b.rd≠0:=by omega
  simp only[ne_eq,this,h1,not_false_eq_true,if_true]
  first | (simp;done) | (simp;omega)
theorem bef_rd {a b:St} (h:befF a b=true):a.rd<=b.rd:=by
 unfold befF keyL at h;simp only[befL] at h;split at h
 ·have:=of_decide_eq_true h;omega
 ·omega

def badP (prev:Option St) (x:St):Bool:=match prev with | some p => !befF p x | none=>false
def zF (procs slots:Int) (prev:Option St) (x:St):Int :=
 if x.rd<0\/256<=x.rd then 3
 else if min x.fr x.to<0\/procs<=max x.fr x.to then 11
 else if min x.sr x.ds<0\/slots<=max x.sr x.ds then 3
 else if x.jn<0\/2<x.jn\/badP prev x=true then 2
 else 0

structure Ck where
 W:List (Int × Int)
 S:List (Int × Int)
 G:List (Int × Int)
def lk:List (Int × Int)->Int->Option Int
 | [],_=>none
 | (k,v)::r,a=>if a=k then some v else lk r a
def upd (l:List (Int × Int)) (k v:Int):List (Int × Int):=match l with
 | []=>[(k,v)]
 | (k',v')::r=>if k=k' then (k,v)::r else (k',v')::upd r k v
theorem lk_upd (l:List (Int × Int)) (k v a:Int):lk (upd l k v) a=if a=k then some v else lk l a:=by
 induction l with
 | nil=>simp[upd,lk]
 | cons p r ih =>
   obtain ⟨k',v'⟩:=p;simp only[upd];by_cases h:k=k'
   ·subst h;simp only[if_true,lk];split <;> rfl
   ·simp only[h,if_false,lk,ih]
    by_cases e:a=k'
    ·subst e;simp only[if_true];rw[if_neg (by omega)]
    ·simp only[e,if_false]
def emp:Ck:=⟨[],[],[]⟩
def zh (c:Ck) (x:St):Bool:=(match lk c.S x.fr with | none=>true | some t=>decide (t=x.to))&&(match lk c.G x.to with | none=>true | some f=>decide (f=x.fr))
def zJ (prev:Option St) (c:Ck) (x:St):Ck:=match prev with
 | some p=>if p.rd≠x.rd then emp else c
 | none=>c
def addF (c:Ck) (x:St):Ck:=⟨c.W ++ [(x.to,x.ds)],if x.fr≠x.to then upd c.S x.fr x.to else c.S,if x.fr≠x.to then upd c.G x.to x.fr else c.G⟩
def vK (c:Ck) (x:St):Int:=if (x.to,x.ds)∈c.W then 5 else if x.fr≠x.to/\zh c x=false then 6 else 0
def sndP (procs slots:Int):Option St->Ck->List St->Int
 | _,_,[]=>0
 | prev,c,x::r=>if zF procs slots prev x≠0 then zF procs slots prev x else if vK (zJ prev c x) x≠0 then vK (zJ prev c x) x else sndP procs slots (some x) (addF (zJ prev c x) x) r

def zT (past:List St) (x:St):Bool:=past.any fun y=>decide (y.rd=x.rd)&&(decide (y.to=x.to)&&decide (y.ds=x.ds))
def QO (past:List St) (x:St):Bool:=past.any fun y=>decide (y.rd=x.rd)&&(decide (x.fr≠x.to)&&(decide (y.fr≠y.to)&&((decide (y.fr=x.fr)&&decide (y.to≠x.to))||(decide (y.to=x.to)&&decide (y.fr≠x.fr)))))
def yP (procs slots:Int) (past:List St) (x:St):Int :=
 if zF procs slots past.getLast? x≠0 then zF procs slots past.getLast? x else if zT past x then 5 else if QO past x then 6 else 0
def sndR (procs slots:Int):List St->List St->Int
 | _,[]=>0
 | past,x::r=>if yP procs slots past x≠0 then yP procs slots past x else sndR procs slots (past ++ [x]) r

structure Mid (past:List St) (r:Int) (c:Ck):Prop where
 w : ∀ p,p∈c.W↔∃ y∈past,y.rd=r/\(y.to,y.ds)=p
 s : ∀ f t,lk c.S f=some t↔∃ y∈past,y.rd=r/\y.fr≠y.to/\y.fr=f/\y.to=t
 g : ∀ t f,lk c.G t=some f↔∃ y∈past,y.rd=r/\y.fr≠y.to/\y.to=t/\y.fr=f
theorem mid_emp {past:List St} {r:Int} (h : ∀ y∈past,y.rd≠r):Mid past r emp :=
 ⟨fun p=>⟨fun h=>(by cases h),fun ⟨y,hy,hr,_⟩=>absurd hr (h y hy)⟩,fun f t=>⟨fun h=>(by cases h),fun ⟨y,hy,hr,_⟩=>absurd hr (h y hy)⟩,fun f t=>⟨fun h=>(by cases h),fun ⟨y,hy,hr,_⟩=>absurd hr (h y hy)⟩⟩

theorem round_eq {past:List St} {c:Ck} {x:St} (h:Mid past x.rd c):vK c x=if zT past x then 5 else if QO past x then 6 else 0:=by
 have h1:(x.to,x.ds)∈c.W↔zT past x=true:=by
  rw[h.w];simp only[zT,List.any_eq_true,Bool.and_eq_true,decide_eq_true_eq,Prod.mk.injEq]
 have h2:(x.fr≠x.to/\zh c x=false)↔QO past x=true:=by
  simp only[QO,List.any_eq_true,Bool.and_eq_true,decide_eq_true_eq,Bool.or_eq_true];constructor
  ·rintro ⟨hne,ht⟩
   simp only[zh,Bool.and_eq_false_iff] at ht;rcases ht with ht | ht
   ·cases hs:lk c.S x.fr with
    | none=>simp[hs] at ht
    | some t =>
      simp only[hs,decide_eq_false_iff_not] at ht;obtain ⟨y,hy,hr,hn,hf,he⟩:=(h.s x.fr t).1 hs;exact⟨y,hy,hr,hne,hn, .inl ⟨hf,by rw[he];exact ht⟩⟩
   ·cases hs:lk c.G x.to with
    | none=>simp[hs] at ht
    | some f =>
      simp only[hs,decide_eq_false_iff_not] at ht;obtain ⟨y,hy,hr,hn,hf,he⟩:=(h.g x.to f).1 hs;exact⟨y,hy,hr,hne,hn, .inr ⟨hf,by rw[he];exact ht⟩⟩
  ·rintro ⟨y,hy,hr,hne,hn,hor⟩
   refine⟨hne, ?_⟩;simp only[zh,Bool.and_eq_false_iff];rcases hor with ⟨hf,ht⟩ | ⟨ht,hf⟩
   ·left
    rw[(h.s x.fr y.to).2 ⟨y,hy,hr,hn,hf,rfl⟩]
    simpa using ht
   ·right
    rw[(h.g x.to y.fr).2 ⟨y,hy,hr,hn,ht,rfl⟩]
    simpa using hf
 unfold vK;by_cases ht:zT past x=true
 ·rw[if_pos (h1.2 ht),if_pos ht]
 ·rw[if_neg (fun h=>ht (h1.1 h)),if_neg ht]
  by_cases hb:QO past x=true
  ·rw[if_pos (h2.2 hb),if_pos hb]
  ·rw[if_neg (fun h=>hb (h2.1 h)),if_neg hb]

theorem mid_add {past:List St} {c:Ck} {x:St} (h:Mid past x.rd c) (ht:zh c x=true\/x.fr=x.to):Mid (past ++ [x]) x.rd (addF c x):=by
 have mem : ∀ (p:St->Prop),(∃ y∈past ++ [x],p y)↔(∃ y∈past,p y)\/p x:=by
  intro p;constructor
  ·rintro ⟨y,hy,hp⟩
   rcases List.mem_append.1 hy with hy | hy
   ·exact .inl ⟨y,hy,hp⟩
   ·rw[List.mem_singleton] at hy;subst hy;exact .inr hp
  ·rintro (⟨y,hy,hp⟩ | hp)
   ·exact⟨y,List.mem_append_left _ hy,hp⟩
   ·exact⟨x,by simp,hp⟩
 refine⟨fun p=>?_,fun f t=>?_,fun t f=>?_⟩
 ·rw[mem]
  simp only[addF,List.mem_append,List.mem_singleton,h.w p,true_and];constructor
  ·rintro (h | h)
   ·exact .inl h
   ·exact .inr h.symm
  ·rintro (h | h)
   ·exact .inl h
   ·exact .inr h.symm
 ·rw[mem]
  by_cases hne:x.fr=x.to
  ·simp only[addF,hne,ne_eq,not_true,if_false,h.s f t,false_and,and_false,or_false]
  ·simp only[addF,ne_eq,hne,not_false_eq_true,if_true,lk_upd,true_and]
   have ht:=ht.resolve_right hne;simp only[zh,Bool.and_eq_true] at ht;by_cases e:f=x.fr
   ·subst e
    simp only[if_true,Option.some.injEq,true_and];constructor
    ·intro h;exact .inr h
    ·rintro (⟨y,hy,hr,hn,hf,hto⟩ | h)
     ·have:=(h.s x.fr t).2 ⟨y,hy,hr,hn,hf,hto⟩
      rw[this] at ht;have:=ht.1;simp at this;exact this.symm
     ·exact h
   ·have e' : ¬ x.fr=f:=fun h=>e h.symm
    simp only[e,if_false,h.s f t,e',false_and,or_false]
 ·rw[mem]
  by_cases hne:x.fr=x.to
  ·simp only[addF,hne,ne_eq,not_true,if_false,h.g t f,false_and,and_false,or_false]
  ·simp only[addF,ne_eq,hne,not_false_eq_true,if_true,lk_upd,true_and]
   have ht:=ht.resolve_right hne;simp only[zh,Bool.and_eq_true] at ht;by_cases e:t=x.to
   ·subst e
    simp only[if_true,Option.some.injEq,true_and];constructor
    ·intro h;exact .inr h
    ·rintro (⟨y,hy,hr,hn,hto,hf⟩ | h)
     ·have:=(h.g x.to f).2 ⟨y,hy,hr,hn,hto,hf⟩
      rw[this] at ht;have:=ht.2;simp at this;exact this.symm
     ·exact h
   ·have e' : ¬ x.to=t:=fun h=>e h.symm
    simp only[e,if_false,h.g t f,e',false_and,or_false]

def Pst (past:List St) (c:Ck):Prop:=match past.getLast? with
 | none=>past = []/\c=emp
 | some p=>(∀ y∈past,y.rd<=p.rd)/\Mid past p.rd c

theorem snd_eq (procs slots:Int) : ∀ (l past:List St) (c:Ck),Pst past c->sndP procs slots past.getLast? c l=sndR procs slots past l
 | [],past,c,_=>rfl
 | x::r,past,c,h=>by
   simp only[sndP,sndR,yP];by_cases h0:zF procs slots past.getLast? x=0
   ·simp only[h0,ne_eq,not_true,if_false]
    -- the round
    have hbf : ∀ p,past.getLast? = some p->befF p x=true:=by
     intro p hp;rw[hp] at h0
     cases hb:befF p x with
     | true=>rfl
     | false =>
       simp only[zF,badP,hb,Bool.not_false,or_true,if_true] at h0;split at h0 <;> (try split at h0) <;> (try split at h0) <;> omega
    have hmid:Mid past x.rd (zJ past.getLast? c x)/\∀ y∈past,y.rd<=x.rd:=by
     unfold Pst at h
     cases hp:past.getLast? with
     | none =>
       rw[hp] at h;obtain ⟨rfl,rfl⟩:=h;exact⟨mid_emp (fun y hy=>by cases hy),fun y hy=>by cases hy⟩
     | some p =>
       rw[hp] at h;have hle:=bef_rd (hbf p hp);simp only[zJ];refine⟨?_,fun y hy=>Int.le_trans (h.1 y hy) hle⟩;by_cases e:p.rd=x.rd
       ·rw[if_neg (by simpa using e),<- e];exact h.2
       ·rw[if_pos e]
        exact mid_emp fun y hy he=>by have:=h.1 y hy;omega
    rw[round_eq hmid.1];by_cases hr:(if zT past x=true then (5:Int) else if QO past x=true then 6 else 0)=0
    ·simp only[hr,ne_eq,not_true,if_false]
     have:=snd_eq procs slots r (past ++ [x]) (addF (zJ past.getLast? c x) x) (by
      unfold Pst;simp only[List.getLast?_append,List.getLast?_singleton,Option.some_or];refine⟨fun y hy=>?_,mid_add hmid.1 ?_⟩
      ·rcases List.mem_append.1 hy with hy | hy
       ·exact hmid.2 y hy
       ·rw[List.mem_singleton] at hy;subst hy;exact Int.le_refl _
      ·have h1:=round_eq hmid.1
       rw[hr] at h1;unfold vK at h1;split at h1
       ·omega
       ·split at h1
        ·omega
        ·rename_i hn
         by_cases e:x.fr=x.to
         ·exact .inr e
         ·left
          cases hk:zh (zJ past.getLast? c x) x with
          | true=>rfl
          | false=>exact absurd ⟨e,hk⟩ hn)
     simpa using this
    ·simp only[ne_eq,hr,not_false_eq_true,if_true]
   ·simp only[ne_eq,h0,not_false_eq_true,if_true]
end Go.Af.Coll
namespace Go.Af.Tryz
open Go Go.Proofs
open Go.Af.Coll (St)
attribute [local irreducible] awp qj qJ qL qC qo isCells qx qp qA qw qh roundEnd

theorem ve {T' : TT} {sl:List (Nat × Value)} {H:List Blk} {a t b o z:Nat} {w:Bool} {vs:List Value} {r:List ResultVar} {K:List Value->Prop} {i:TI} (ht:tget T' t=some i) (ha:look sl a=some (.pointer (some ⟨b,o,none⟩))) (hb:bget H b=some (.cells w z vs)) (hk:i.kind.agg=true)
 (h:segK vs o i.size (fun seg=>resK T' sl H r (fun us=>K (.agg ⟨seg⟩::us)))):resK T' sl H (.cell a t::r) K:=by
 simp only[resK,ht,ha,hb,hk];exact h
structure TkOk (t:Tk):Prop where
 op:1<=t.op/\t.op<=11
 pr:1<=t.pr/\t.pr<=64
 pa:1<=t.pa/\t.pa<=16
 ro:0<=t.ro/\t.ro<t.pr
 root:t.op=1\/t.op=2\/t.op=5\/t.op=6\/t.ro=0
 bar:t.op=10->t.pa=1
 many:t.op=5\/t.op=6\/t.op=7\/t.op=9\/t.op=8\/t.op=11->t.pr*t.pa<=256
 halo:t.op=11->cntF t.sz t.ws.length=t.pr
theorem yz {t:Tk} (h:chkF t=0):TkOk t:=by
 unfold chkF at h;split at h
 ·cases h
 ·rename_i h1
  split at h
  ·cases h
  ·rename_i h2
   split at h
   ·cases h
   ·rename_i h3
    split at h
    ·cases h
    ·rename_i h4
     refine⟨by omega,by omega,by omega,by omega,by omega,by omega,fun hm=>by omega,fun h11=>?_⟩
     ·have hn : ¬ (crdE t.sz t.ws.length (t.pr-1)≠0\/crdE t.sz t.ws.length t.pr=0):=fun hc=>h4 ⟨h11,hc⟩
      unfold crdE at hn;by_cases h0:cntF t.sz t.ws.length=0
      ·simp[h0] at hn
      ·simp only[if_neg h0] at hn
       by_cases ha:t.pr-1<0\/cntF t.sz t.ws.length<=t.pr-1
       ·simp[if_pos ha] at hn
       ·by_cases hb:t.pr<0\/cntF t.sz t.ws.length<=t.pr
        ·omega
        ·simp[if_neg ha,if_neg hb] at hn
theorem TkOk.dims {t:Tk} (k:TkOk t) (h11:t.op=11):t.sz.length<=4:=by
 have:=k.halo h11;have h1:=k.pr;unfold cntF at this;split at this
 ·omega
 ·omega
theorem ww {t:Tk} (k:TkOk t):1<=blkF t/\blkF t<=128/\(1<=blkF t*t.pa/\blkF t*t.pa<=2048):=by
 have hb:=blk_facts t;have h1:=k.pr;have h2:=k.op;have h3:=k.dims;have h4:1<=blkF t/\blkF t<=128:=by omega
 have h5:=k.pa;have p:1*1<=blkF t*t.pa:=Int.mul_le_mul h4.1 h5.1 (by omega) (by omega);have q:blkF t*t.pa<=128*16:=Int.mul_le_mul h4.2 h5.2 (by omega) (by omega);omega
def sltF (t:Tk):Int:=if chkF t=0 then blkF t*t.pa else 0
theorem c34 {H:List Blk} {t:Tk} {b c:Nat} {R:Value->List Blk->Prop} (g:Gr H t.sz b) (hl:t.sz.length<=9223372036854775807) (hw:t.ws.length<=9223372036854775807) (h : ∀ H',HS H none' [] H' -> R (.tuple ⟨[.int .i64 (sltF t), .int .i64 (chkF t)]⟩) H'):qj Tryz.prog 34 [tkV t b c] H R:=by
 obtain ⟨w,hb⟩:=g.s;refine qf tok Tryz.call34 Tryz.func34 rfl Tryz.ntmps34 rfl (by simp) ?_;refine qi ((HS.start H none').add (c:=false) hb (fun i p hi=>by simp at hi) (fun h=>by cases h)) (fun H1 b1 e1 l1 hs=>?_);refine qg (fun _ hKs=>hKs _ _ ?_);clear hKs
 repeat' (first|refine nY (fun K0 hK0=>?_)|refine zBw ?_|refine zNw (fun _ _ hs=>?_)|(refine hK0 _ _ ?_;clear hK0)|fail)
 refine c31 ⟨_,hs.get 1 rfl⟩ hl hw (kNo hs (fun H2 hs=>?_));unfold sltF at h;by_cases h0:chkF t=0
 ·rw[h0] at h ⊢
  rw[if_pos rfl] at h;have k:=yz h0;have hr:=ww k
  repeat' (first|refine nY (fun K0 hK0=>?_)|refine zBw ?_|refine zNw (fun _ _ hs=>?_)|(refine hK0 _ _ ?_;clear hK0)|fail)
  refine qm tok mx [0,1,0,4,15,31,63] [false,false,true,true,false,false,false] (.first 0 (.first 2 (.alt 1 (.first 3 (.first 4 (.first 5 (.first 6 .done)))) (.alt 3 (.first 1 (.first 4 (.first 5 (.first 6 .done)))) .no)))) (by kernel_rfl) ?_;refine ql (fun K0 hK0=>?_)
  repeat' (first|refine nY (fun K0 hK0=>?_)|refine zBw ?_|refine zNw (fun _ _ hs=>?_)|(refine hK0 _ _ ?_;clear hK0)|fail)
  refine And.intro ?_ (And.intro ?_ trivial)
  ·refine c87 (fun e=>by have:=k.dims e;omega) k.pr (kNo hs (fun H3 hs=>?_))
   repeat' (first|refine nY (fun K0 hK0=>?_)|refine zBw ?_|refine zNw (fun _ _ hs=>?_)|(refine hK0 _ _ ?_;clear hK0)|fail)
   exact h H3 (qc hs)
  ·skip
   repeat' (first|refine nY (fun K0 hK0=>?_)|refine zBw ?_|refine zNw (fun _ _ hs=>?_)|(refine hK0 _ _ ?_;clear hK0)|refine c87 (fun e=>by have:=k.dims e;omega) k.pr (kNo hs (fun H3 hs=>?_))|fail)
   exact h H3 (qc hs)
 ·rw[if_neg h0] at h
  repeat' (first|refine nY (fun K0 hK0=>?_)|refine zBw ?_|refine zNw (fun _ _ hs=>?_)|(refine dI (fun hc=>?_) (fun hc=>?_) <;> try (exfalso;omega))|(refine hK0 _ _ ?_;clear hK0)|fail)
  all_goals first | (exfalso;omega) | exact h H2 (qc hs)
end Go.Af.Tryz
namespace Go.Af.Tryz
open Go Go.Proofs
open Go.Af.Coll (St sgn orF cmpL cmpF keyL befL befF)
attribute [local irreducible] awp qj qJ qL qC qo isCells qx qp qA qw qh roundEnd

instance:Inhabited St:=⟨⟨0,0,0,0,0,0⟩⟩
abbrev stC (s:St):List Value := [.int .i64 s.rd, .int .i64 s.fr, .int .i64 s.to, .int .i64 s.sr, .int .i64 s.ds, .int .i64 s.jn]
abbrev stV (s:St):Value := .agg ⟨stC s⟩
def stsC:List St->List Value
 | []=>[]
 | s::r=>stC s++stsC r
theorem xO : ∀ l:List St,(stsC l).length=6*l.length
 | []=>rfl
 | s::r=>by simp only[stsC,List.length_append,xO r,List.length_cons,List.length_nil];omega
theorem uY (x:St) : ∀ l:List St,stsC (l ++ [x])=stsC l++stC x
 | []=>rfl
 | s::r=>by simp only[List.cons_append,stsC,uY x r,List.append_assoc]
theorem Zt : ∀ (l:List St) (i k:Nat),i<l.length->k<6->(stsC l)[6*i+k]? = (stC l[i]!)[k]?
 | [],i,k,hi,hk=>by simp at hi
 | s::r,0,k,hi,hk=>by
   rw[stsC,List.getElem?_append_left (by simp;omega)];simp
 | s::r,i+1,k,hi,hk=>by
   rw[stsC,List.getElem?_append_right (by simp;omega)];have e:6*(i+1)+k-(stC s).length=6*i+k:=by simp;omega
   rw[e,Zt r i k (by simpa using hi) hk];simp
theorem uA {l:List St} {i k:Nat} {v:Value} {K:Value->Prop} (hi:i<l.length) (hk:k<6) (hv:(stC l[i]!)[k]? = some v) (h:K v):Ld (stsC l) (0+i*6+k) K :=
 ⟨v,by rw[show 0+i*6+k=6*i+k by omega,Zt l i k hi hk,hv],h⟩
theorem seg_st {l:List St} {i:Nat} {K:List Value->Prop} (hi:i<l.length) (h:K (stC l[i]!)):segK (stsC l) (0+i*6) 6 K :=
 uA (k:=0) hi (by decide) rfl (uA (k:=1) hi (by decide) rfl (uA (k:=2) hi (by decide) rfl (uA (k:=3) hi (by decide) rfl (uA (k:=4) hi (by decide) rfl (uA (k:=5) hi (by decide) rfl h)))))
def Rg (s:St):Prop:=(0<=s.rd/\s.rd<256)/\(0<=s.fr/\s.fr<64)/\(0<=s.to/\s.to<64)/\(0<=s.sr/\s.sr<2048)/\(0<=s.ds/\s.ds<2048)

theorem c255 {H:List Blk} {x:Int} {R:Value->List Blk->Prop} (h:R (.bool false) H):qj Tryz.prog 255 [.int .i64 x] H R:=by
 refine qf tok Tryz.call255 Tryz.func255 rfl Tryz.ntmps255 rfl (by simp) ?_;have hs:=HS.start H none'
 repeat' (first|refine nY (fun K0 hK0=>?_)|refine zBw ?_|refine zNw (fun _ _ hs=>?_)|(refine hK0 _ _ ?_;clear hK0)|fail)
 change R (.bool (!decide (x=x))) H;rw[show (!decide (x=x))=false by simp];exact h
theorem c139 {H:List Blk} {x y:Int} {R:Value->List Blk->Prop} (h:R (.int .i64 (sgn x y)) H):qj Tryz.prog 139 [.int .i64 x, .int .i64 y] H R:=by
 refine qf tok Tryz.call139 Tryz.func139 rfl Tryz.ntmps139 rfl (by simp) ?_;have hs:=HS.start H none';unfold sgn at h
 repeat' (first|refine nY (fun K0 hK0=>?_)|refine zBw ?_|refine zNw (fun _ _ hs=>?_)|(refine hK0 _ _ ?_;clear hK0)|fail)
 refine c255 ?_
 repeat' (first|refine nY (fun K0 hK0=>?_)|refine zBw ?_|refine zNw (fun _ _ hs=>?_)|(refine hK0 _ _ ?_;clear hK0)|fail)
 refine c255 ?_
 repeat' (first|refine nY (fun K0 hK0=>?_)|refine zBw ?_|refine zNw (fun _ _ hs=>?_)|((refine dI (fun hc=>?_) (fun hc=>?_)) <;> (try (exfalso;omega)))|(refine hK0 _ _ ?_;clear hK0)|fail)
 all_goals (
  (repeat (first | rw[if_pos (by omega)] at h | rw[if_neg (by omega)] at h))
  exact h)
theorem x139 {H:List Blk} {x y:Int} {R:Value->List Blk->Prop} (h:R (.int .i64 (sgn x y)) H):qJ Tryz.prog 139 [.int .i64 x, .int .i64 y] H R :=
 VG (V := .int .i64 (sgn x y)) (H2 := []) (c139 ⟨rfl,rfl⟩) [] rfl (.cons (.int _ _) (.cons (.int _ _) .nil)) trivial rfl h
theorem c138 {H:List Blk} {b:Nat} {w:Bool} {xs:List Int} {R:Value->List Blk->Prop} (hb:bget H b=some (.cells w 1 (ints xs))) (hl:xs.length<=1000) (h:R (.int .i64 (orF xs)) H):qj Tryz.prog 138 [sv b xs.length] H R:=by
 refine qf tok Tryz.call138 Tryz.func138 rfl Tryz.ntmps138 rfl (by simp) ?_;refine qE (α := Nat) tok (fun i=>i<=xs.length/\orF xs=orF (xs.drop i)) (fun i=>[(3, .int .i64 0),(6,sv b xs.length),(7, .int .i64 (xs.length:Int)),(8, .int .i64 (i:Int))]) (fun _=>H) (fun i=>xs.length-i) 0 ⟨Nat.zero_le _,by simp⟩ (Or.inl ⟨⟨rfl,rfl,rfl,rfl,trivial⟩,rfl⟩) ?_;rintro i ⟨hi,hn⟩;refine And.intro (fun hc=>?_) (fun hc=>?_)
 ·have hlt:i<xs.length:=by simp at hc;omega
  have hd:xs.drop i=xs[i]! :: xs.drop (i+1):=by rw[getElem!_pos xs i hlt];exact List.drop_eq_getElem_cons hlt
  rw[hd,orF] at hn;refine qH hb ⟨i,rfl,hlt, ?_⟩;refine qG hb (wI hlt ?_);refine And.intro (fun he=>?_) (fun he=>?_)
  ·have he:xs[i]! ≠ 0:=by simpa using he
   rw[if_pos he] at hn;rw[hn] at h;exact h
  ·have he:xs[i]! = 0:=by simpa using he
   rw[if_neg (by omega)] at hn;refine Or.inl ⟨((i+1:Nat):Int),by simp,by unfold I64;omega, ?_⟩;exact⟨i+1,⟨hlt,hn⟩,by omega,Or.inl ⟨⟨rfl,rfl,rfl,rfl,trivial⟩,rfl⟩⟩
 ·have hge:i=xs.length:=by simp at hc;omega
  subst hge;rw[List.drop_length] at hn;rw[hn] at h;exact h
theorem c61 {H:List Blk} {x y:St} {R:Value->List Blk->Prop} (hx:Rg x) (hy:Rg y) (h : ∀ H',HS H none' [] H' -> R (.int .i64 (cmpF x y)) H'):qj Tryz.prog 61 [stV x,stV y] H R:=by
 obtain ⟨x1,x2,x3,x4,x5⟩:=hx;obtain ⟨y1,y2,y3,y4,y5⟩:=hy;refine qf tok Tryz.call61 Tryz.func61 rfl Tryz.ntmps61 rfl (by simp) ?_;refine qi (HS.start H none') (fun H1 b1 e1 l1 hs=>?_);refine qi hs (fun H2 b2 e2 l2 hs=>?_);refine qg (fun _ hKs=>hKs _ _ ?_);clear hKs;refine zg tok mx [0,1,0,4,15,0,32,0,128,480,0,1024,0,4096,15360,0,32768,0,131072,491520,0,1048576,0,4194304,16744448,33554431,67108863,134217727] [false,false,true,true,false,true,true,true,true,true,true,true,true,true,true,true,true,true,true,true,true,true,true,true,true,false,false,false] [0,1,2,3,4,5,6,7,8,9,10,11,12,13,14,15,16,17,18,20,21,22,23,19,24,25,26,27] (by kernel_rfl) ?_;refine wK (fun K0 hK0=>?_)
 repeat' (first|refine nY (fun K0 hK0=>?_)|refine zBw ?_|refine zNw (fun _ _ hs=>?_)|(refine hK0 _ _ ?_;clear hK0)|fail)
 refine (x139 ?_)
 repeat' (first|refine nY (fun K0 hK0=>?_)|refine zBw ?_|refine zNw (fun _ _ hs=>?_)|(refine hK0 _ _ ?_;clear hK0)|refine (x139 ?_)|refine c138 (xs:=cmpL x y) (hs.get 0 rfl) (Nat.le_of_ble_eq_true rfl) ?_|fail)
 exact h _ (qc hs)
theorem Qq (a b:Int) (r s:List Int):befL (a::r) (b::s)=if a≠b then decide (a<b) else befL r s:=rfl
end Go.Af.Tryz
namespace Go.Af.Tryz
open Go Go.Proofs
open Go.Af.Coll (St Ck lk upd zh emp)

theorem ht146:Tryz.prog.underlying 146=some (.struct (Tryz.prog.fieldsOf 146)):=by kernel_rfl
theorem mkey146:MKey Tryz.prog 146 [.i64, .i64]:=uP ht146 (by kernel_rfl) (by kernel_rfl) (yO (by kernel_rfl))
theorem keq146 {H:List Blk} {a b c d:Int} {K:Bool->Prop} (h:K (decide ([a,b] = [c,d]))):keq Tryz.prog T H 146 (.agg ⟨[.int .i64 a, .int .i64 b]⟩) (.agg ⟨[.int .i64 c, .int .i64 d]⟩) K:=by
 exact⟨[.i64, .i64],mkey146,h⟩
theorem YF {a b:Int} {K:Prop} (h:K):keyK Tryz.prog T 146 (.agg ⟨[.int .i64 a, .int .i64 b]⟩) K:=by
 exact⟨[.i64, .i64],mkey146,h⟩
theorem keq3 {H:List Blk} {a c:Int} {K:Bool->Prop} (h:K (decide (a=c))):keq Tryz.prog T H 3 (.int .i64 a) (.int .i64 c) K:=by
 exact h
theorem keyK3 {a:Int} {K:Prop} (h:K):keyK Tryz.prog T 3 (.int .i64 a) K:=by
 exact h
theorem zS {P:Program} {T' : TT} {H:List Blk} {kt:Nat} {k:Value} {K:Option Nat->Prop} (t:MapEntry->Bool) : ∀ (l:List MapEntry) (i:Nat) (_ : ∀ e∈l, ∀ K' : Bool->Prop,K' (t e)->keq P T' H kt k e.key K')
 (_ : ∀ j e,l[j]? = some e->t e=true->(∀ j' e',j' < j->l[j']? = some e' -> t e' = false)->K (some (i+j))) (_:(∀ e∈l,t e=false)->K none),vY P T' H kt k l i K
 | [],i,_,_,h3=>h3 (fun e h=>by cases h)
 | e::l,i,h1,h2,h3=>by
   refine h1 e List.mem_cons_self _ ?_
   cases hte:t e with
   | true=>exact h2 0 e rfl hte (fun j' e' hj=>absurd hj (by omega))
   | false =>
     refine zS t l (i+1) (fun e he=>h1 e (List.mem_cons_of_mem _ he)) (fun j e' hj ht hb=>?_) (fun hn=>h3 (fun e' he=>?_))
     ·have:=h2 (j+1) e' (by simpa using hj) ht (fun j' e2 hj' he2=>by
       cases j' with
       | zero=>simp at he2;subst he2;exact hte
       | succ j' => exact hb j' e2 (by omega) (by simpa using he2))
      rw[show i+1+j=i+(j+1) by omega];exact this
     ·rcases List.mem_cons.1 he with h | h
      ·subst h;exact hte
      ·exact hn e' h
def entW (W:List (Int × Int)):List MapEntry:=W.mapIdx fun i p=>⟨.agg ⟨[.int .i64 p.1, .int .i64 p.2]⟩, .bool true,i⟩
def entI (S:List (Int × Int)):List MapEntry:=S.mapIdx fun i p=>⟨.int .i64 p.1, .int .i64 p.2,i⟩
theorem UD {W:List (Int × Int)} {j:Nat} {e:MapEntry} (h:(entW W)[j]? = some e) : ∃ p,W[j]? = some p/\e=⟨.agg ⟨[.int .i64 p.1, .int .i64 p.2]⟩, .bool true,j⟩:=by
 unfold entW at h;rw[List.getElem?_mapIdx] at h
 cases hw:W[j]? with
 | none=>rw[hw] at h;cases h
 | some p=>rw[hw] at h;cases h;exact⟨p,rfl,rfl⟩
theorem UF {S:List (Int × Int)} {j:Nat} {e:MapEntry} (h:(entI S)[j]? = some e) : ∃ p,S[j]? = some p/\e=⟨.int .i64 p.1, .int .i64 p.2,j⟩:=by
 unfold entI at h;rw[List.getElem?_mapIdx] at h
 cases hw:S[j]? with
 | none=>rw[hw] at h;cases h
 | some p=>rw[hw] at h;cases h;exact⟨p,rfl,rfl⟩
theorem mfind_W {H:List Blk} {W:List (Int × Int)} {a b:Int} {K:Option Nat->Prop} (h1 : ∀ j,W[j]? = some (a,b)->K (some j)) (h0:(a,b) ∉ W->K none):vY Tryz.prog T H 146 (.agg ⟨[.int .i64 a, .int .i64 b]⟩) (entW W) 0 K:=by
 refine zS (fun e=>match e.key with | .agg ⟨[.int .i64 c, .int .i64 d]⟩=>decide ([a,b] = [c,d]) | _=>false) _ _ (fun e he K' hk=>?_) (fun j e hj ht _=>?_) (fun hn=>h0 (fun hm=>?_))
 ·obtain ⟨j,hj⟩:=List.getElem?_of_mem he
  obtain ⟨p,_,rfl⟩:=UD hj;exact keq146 hk
 ·obtain ⟨p,hp,rfl⟩:=UD hj
  simp only[List.cons.injEq,and_true,decide_eq_true_eq] at ht;rw[Nat.zero_add];exact h1 j (by rw[hp,ht.1,ht.2])
 ·obtain ⟨j,hj⟩:=List.getElem?_of_mem hm
  have:=hn ⟨.agg ⟨[.int .i64 a, .int .i64 b]⟩, .bool true,j⟩ (List.mem_of_getElem? (i:=j) (by unfold entW;rw[List.getElem?_mapIdx,hj];rfl));simp at this
theorem lk_get : ∀ {S:List (Int × Int)} {j:Nat} {a v:Int} (_:S[j]? = some (a,v)) (_ : ∀ j' p,j' < j->S[j']? = some p->p.1≠a),lk S a=some v
 | [],j,a,v,h,_=>by simp at h
 | p::S,0,a,v,h,_=>by simp at h;subst h;simp[lk]
 | p::S,j+1,a,v,h,hb=>by
   have h0:=hb 0 p (by omega) rfl;obtain ⟨k,u⟩:=p;simp only[lk];rw[if_neg (fun e=>h0 e.symm)];exact lk_get (by simpa using h) (fun j' q hj hq=>hb (j' + 1) q (by omega) (by simpa using hq))
theorem lk_none : ∀ {S:List (Int × Int)} {a:Int} (_ : ∀ p∈S,p.1≠a),lk S a=none
 | [],a,_=>rfl
 | p::S,a,h=>by
   have h0:=h p List.mem_cons_self;obtain ⟨k,u⟩:=p;simp only[lk];rw[if_neg (fun e=>h0 e.symm)];exact lk_none (fun q hq=>h q (List.mem_cons_of_mem _ hq))
theorem mfind_I {H:List Blk} {S:List (Int × Int)} {a:Int} {K:Option Nat->Prop} (h1 : ∀ j v,S[j]? = some (a,v)->(∀ j' p,j' < j->S[j']? = some p->p.1≠a)->K (some j)) (h0:(∀ p∈S,p.1≠a)->K none):vY Tryz.prog T H 3 (.int .i64 a) (entI S) 0 K:=by
 refine zS (fun e=>match e.key with | .int .i64 c=>decide (a=c) | _=>false) _ _ (fun e he K' hk=>?_) (fun j e hj ht hb=>?_) (fun hn=>h0 (fun p hp he=>?_))
 ·obtain ⟨j,hj⟩:=List.getElem?_of_mem he
  obtain ⟨p,_,rfl⟩:=UF hj;exact keq3 hk
 ·obtain ⟨p,hp,rfl⟩:=UF hj
  simp only[decide_eq_true_eq] at ht;rw[Nat.zero_add];refine h1 j p.2 (by rw[hp,ht]) (fun j' q hj' hq he=>?_);have:=hb j' ⟨.int .i64 q.1, .int .i64 q.2,j'⟩ hj' (by unfold entI;rw[List.getElem?_mapIdx,hq];rfl);simp[he] at this
 ·obtain ⟨j,hj⟩:=List.getElem?_of_mem hp
  have:=hn ⟨.int .i64 p.1, .int .i64 p.2,j⟩ (List.mem_of_getElem? (i:=j) (by unfold entI;rw[List.getElem?_mapIdx,hj];rfl));simp[he] at this
theorem upd_at : ∀ {S:List (Int × Int)} {j:Nat} {a v z:Int} (_:S[j]? = some (a,v)) (_ : ∀ j' p,j' < j->S[j']? = some p->p.1≠a),upd S a z=S.set j (a,z)
 | [],j,a,v,z,h,_=>by simp at h
 | p::S,0,a,v,z,h,_=>by simp at h;subst h;simp[upd]
 | p::S,j+1,a,v,z,h,hb=>by
   have h0:=hb 0 p (by omega) rfl;obtain ⟨k,u⟩:=p;simp only[upd,List.set_cons_succ];rw[if_neg (fun e=>h0 e.symm)];rw[upd_at (by simpa using h) (fun j' q hj hq=>hb (j' + 1) q (by omega) (by simpa using hq))]
theorem upd_new : ∀ {S:List (Int × Int)} {a z:Int} (_ : ∀ p∈S,p.1≠a),upd S a z=S ++ [(a,z)]
 | [],a,z,_=>rfl
 | p::S,a,z,h=>by
   have h0:=h p List.mem_cons_self;obtain ⟨k,u⟩:=p;simp only[upd,List.cons_append];rw[if_neg (fun e=>h0 e.symm),upd_new (fun q hq=>h q (List.mem_cons_of_mem _ hq))]
theorem entI_set {S:List (Int × Int)} {j:Nat} {a v z:Int} (h:S[j]? = some (a,v)):(entI S).modify j (fun e=>{ e with key := .int .i64 a,val := .int .i64 z })=entI (S.set j (a,z)):=by
 apply List.ext_getElem?
 intro i;rw[List.getElem?_modify];unfold entI;simp only[List.getElem?_mapIdx,List.getElem?_set];by_cases hij:j=i
 ·subst hij
  have hlt:=(List.getElem?_eq_some_iff.1 h).1;simp[hlt,h]
 ·simp[hij]
theorem entI_snoc (S:List (Int × Int)) (a z:Int):entI S ++ [⟨.int .i64 a, .int .i64 z,S.length⟩]=entI (S ++ [(a,z)]):=by unfold entI;rw[List.mapIdx_append];simp
theorem entW_snoc (W:List (Int × Int)) (a b:Int):entW W ++ [⟨.agg ⟨[.int .i64 a, .int .i64 b]⟩, .bool true,W.length⟩]=entW (W ++ [(a,b)]):=by unfold entW;rw[List.mapIdx_append];simp
end Go.Af.Tryz
