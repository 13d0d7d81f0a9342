/- A part of the proof. -/
import Derived.Test.YtmnjcogpchodhaaGreatMGA
import Derived.Test.YtmnjcogpchodhaaGreatMCA
import Derived.Test.YtmnjcogpchodhaaGreatMA
set_option linter.all false
set_option maxHeartbeats 4000000
set_option maxRecDepth 100000
namespace Go.Af.Tryz
open Go Go.Proofs Tryz
attribute [local irreducible] awp qj qI qK qE qm isCells ql qi qB qx qh roundEnd
variable {H:List Blk}
variable {R:Value->List Blk->Prop}

theorem c89 {x:Int} (h:R (.bool (decide (x=1\/x=2\/x=5\/x=6))) H):qj prog 89 [.int .i64 x] H R:=by
 refine avN call89 func89 ntmps89 ?_;have hs:=HS.start H none'
 repeat' first|refine zQw ?_|intro _ _ hs|intro K0 hK0|intro hc|refine dI ?_ ?_
 all_goals try (rw[decide_eq_true (by omega)] at h;exact h;done)
 rw[show decide (x=1\/x=2\/x=5\/x=6)=decide (x=6) from decide_eq_decide.2 (by omega)] at h;exact h
def blkF (t:Tk):Int :=
 if t.op=5\/t.op=6\/t.op=7\/t.op=9 then t.pr else if t.op=8 then 2*t.pr else if t.op=11 then 1+2*(t.sz.length:Int) else 1
theorem c87 {t:Tk} {b c:Nat} (hl:t.op=11->t.sz.length<=10) (hp:1<=t.pr/\t.pr<=64) (h : ∀ H',HS H none' [] H' -> R (.int .i64 (blkF t)) H'):qj prog 87 [tkV t b c] H R:=by
 refine avN call87 func87 ntmps87 ?_;refine qo (HS.start H none') (fun H1 b1 e1 l1 hs=>?_);refine qg (fun _ hKs=>hKs _ _ ?_);clear hKs
 replace h:=h H1 (qc hs)
 unfold blkF at h
 repeat' first|refine zQw ?_|intro _ _ hs|intro K0 hK0|intro hc|refine dI ?_ ?_
 all_goals (
  (repeat (first | rw[if_pos (by omega)] at h | rw[if_neg (by omega)] at h))
  exact h)
theorem c88 {t:Tk} {b c:Nat} (hl:t.op=11->t.sz.length<=10) (hp:1<=t.pr/\t.pr<=64) (h : ∀ H',HS H none' [] H' -> R (.int .i64 (blkF t)) H'):qj prog 88 [tkV t b c] H R:=by
 refine avN call88 func88 ntmps88 ?_;refine qo (HS.start H none') (fun H1 b1 e1 l1 hs=>?_);refine qg (fun _ hKs=>hKs _ _ ?_);clear hKs
 replace h:=h H1 (qc hs)
 unfold blkF at h
 repeat' first|refine zQw ?_|intro _ _ hs|intro K0 hK0|intro hc|refine dI ?_ ?_
 all_goals (
  (repeat (first | rw[if_pos (by omega)] at h | rw[if_neg (by omega)] at h))
  exact h)
theorem YD (t:Tk):(t.op=5\/t.op=6\/t.op=7\/t.op=9->blkF t=t.pr)/\(t.op=8->blkF t=2*t.pr)/\(t.op=11->blkF t=1+2*(t.sz.length:Int))/\(¬ (t.op=5\/t.op=6\/t.op=7\/t.op=9\/t.op=8\/t.op=11)->blkF t=1):=by
 unfold blkF;refine⟨fun h=>by rw[if_pos h],fun h=>by rw[if_neg (by omega),if_pos h],fun h=>by rw[if_neg (by omega),if_neg (by omega),if_pos h],fun h=>by rw[if_neg (by omega),if_neg (by omega),if_neg (by omega)]⟩
theorem c36 {t:Tk} {b c:Nat} (g:Gr H t.sz b) (hl:t.sz.length<=10) (hw:t.ws.length<=10) (h : ∀ H',HS H none' [] H' -> R (.int .i64 (chkF t)) H'):qj prog 36 [tkV t b c] H R:=by
 obtain ⟨w,hb⟩:=g.s;refine avN call36 func36 ntmps36 ?_;refine qo (adH (HS.start H none') hb) (fun H1 b1 e1 l1 hs=>?_);refine qg (fun _ hKs=>hKs _ _ ?_);clear hKs;obtain ⟨hm1,hm2⟩:=Ym t.pr t.pa;unfold chkF at h;rw[xu0 (by omega)] at h;have h' := h
 replace h:=h H1 (qc hs)
 repeat' first|refine zQw ?_|intro _ _ hs|intro K0 hK0|intro hc|refine dI ?_ ?_
 all_goals try (
  (repeat (first | rw[if_pos (by omega)] at h | rw[if_neg (by omega)] at h))
  exact h;done)
 refine c89 ?_;obtain ⟨hb1,hb2,hb3,hb4⟩:=YD t
 repeat' first|refine zQw ?_|intro _ _ hs|intro K0 hK0|intro hc|refine dI ?_ ?_
 all_goals try (
  (repeat (first | rw[if_pos (by omega)] at h | rw[if_neg (by omega)] at h))
  exact h;done)
 any_goals (
  refine c88 (fun _=>hl) ⟨by omega,by omega⟩ (kNo hs (fun H2 hs=>?_))
  replace h:=h' H2 (qc hs)
  generalize blkF t=bk at hb1 hb2 hb3 hb4
  repeat' first|refine zQw ?_|intro _ _ hs|intro K0 hK0|intro hc|refine dI ?_ ?_
  all_goals try (
   (repeat (first | rw[if_pos (by omega)] at h | rw[if_neg (by omega)] at h))
   exact h;done)
  done)
 clear h;refine c90 ⟨_,hs.get 1 rfl⟩ (fun H4 v1 hn=>?_);have hs:=qL hs hn;clear hn
 repeat' first|refine zPw ?_|intro _ _ hs|intro K0 hK0
 refine c90 ⟨_,hs.get 1 rfl⟩ (fun H5 v2 hn=>?_);have hs:=qL hs hn;clear hn;have h:=h' H5 (qc hs);clear h'
 repeat' first|refine zQw ?_|intro _ _ hs|intro K0 hK0|intro hc|refine dI ?_ ?_
 all_goals try (
  (repeat (first | rw[if_pos (by omega)] at h | rw[if_neg (by omega)] at h))
  exact h;done)
end Go.Af.Tryz
namespace Go.Af.Coll

structure St where
 rd:Int
 fr:Int
 to:Int
 sr:Int
 ds:Int
 jn:Int
deriving DecidableEq

def sgn (a b:Int):Int:=if a<b then -1 else if b<a then 1 else 0
def orF:List Int->Int
 | []=>0
 | x::r=>if x≠0 then x else orF r
def cmpL (a b:St):List Int := [a.rd-b.rd,a.fr-b.fr,a.to-b.to,sgn a.sr b.sr,sgn a.ds b.ds]
def cmpF (a b:St):Int:=orF (cmpL a b)
def keyL (a:St):List Int := [a.rd,a.fr,a.to,a.sr,a.ds]
def befL:List Int->List Int->Bool
 | x::xs,y::ys=>if x≠y then decide (x<y) else befL xs ys
 | _,_=>false
def befF (a b:St):Bool:=befL (keyL a) (keyL b)

theorem cmp_bef (a b:St):0<=cmpF a b↔befF a b=false:=by
 unfold cmpF cmpL befF keyL;simp only[orF,befL,sgn];by_cases h1:a.rd=b.rd
 ·by_cases h2:a.fr=b.fr
  ·by_cases h3:a.to=b.to
   ·by_cases h4:a.sr=b.sr
    ·by_cases h5:a.ds=b.ds
     ·simp[h1,h2,h3,h4,h5]
     ·simp only[h1,h2,h3,h4,Int.sub_self,ne_eq,not_true,if_false,h5,not_false_eq_true,if_true,Int.lt_irrefl]
      split <;> (try split) <;> first | (simp;done) | (simp;omega)
    ·simp only[h1,h2,h3,Int.sub_self,ne_eq,not_true,if_false,h4,not_false_eq_true,if_true]
     split <;> (try split) <;> first | (simp;done) | (simp;omega)
   ·have:a.to-b.to≠0:=by omega
    simp only[h1,h2,Int.sub_self,ne_eq,not_true,if_false,this,h3,not_false_eq_true,if_true]
    first | (simp;done) | (simp;omega)
  ·have:a.fr-b.fr≠0:=by omega
   simp only[h1,Int.sub_self,ne_eq,not_true,if_false,this,h2,not_false_eq_true,if_true]
   first | (simp;done) | (simp;omega)
 ·have:a.rd-b.rd≠0:=by omega
  simp only[ne_eq,this,h1,not_false_eq_true,if_true]
  first | (simp;done) | (simp;omega)
def badP (prev:Option St) (x:St):Bool:=match prev with | some p => !befF p x | none=>false
def zS0 (procs slots:Int) (prev:Option St) (x:St):Int :=
 if x.rd<0\/256<=x.rd then 3
 else if min x.fr x.to<0\/procs<=max x.fr x.to then 11
 else if min x.sr x.ds<0\/slots<=max x.sr x.ds then 3
 else if x.jn<0\/2<x.jn\/badP prev x=true then 2
 else 0

structure Ck where
 W:List (Int × Int)
 S:List (Int × Int)
 G:List (Int × Int)
def lk:List (Int × Int)->Int->Option Int
 | [],_=>none
 | (k,v)::r,a=>if a=k then some v else lk r a
def upd (l:List (Int × Int)) (k v:Int):List (Int × Int):=match l with
 | []=>[(k,v)]
 | (k',v')::r=>if k=k' then (k,v)::r else (k',v')::upd r k v
def emp:Ck:=⟨[],[],[]⟩
def XV (c:Ck) (x:St):Bool:=(match lk c.S x.fr with | none=>true | some t=>decide (t=x.to))&&(match lk c.G x.to with | none=>true | some f=>decide (f=x.fr))
def Yw (prev:Option St) (c:Ck) (x:St):Ck:=match prev with
 | some p=>if p.rd≠x.rd then emp else c
 | none=>c
def addF (c:Ck) (x:St):Ck:=⟨c.W ++ [(x.to,x.ds)],if x.fr≠x.to then upd c.S x.fr x.to else c.S,if x.fr≠x.to then upd c.G x.to x.fr else c.G⟩
def UU (c:Ck) (x:St):Int:=if (x.to,x.ds)∈c.W then 5 else if x.fr≠x.to/\XV c x=false then 6 else 0
def sndP (procs slots:Int):Option St->Ck->List St->Int
 | _,_,[]=>0
 | prev,c,x::r=>if zS0 procs slots prev x≠0 then zS0 procs slots prev x else if UU (Yw prev c x) x≠0 then UU (Yw prev c x) x else sndP procs slots (some x) (addF (Yw prev c x) x) r

end Go.Af.Coll
namespace Go.Af.Tryz
open Go Go.Proofs Tryz
open Go.Af.Coll (St)
attribute [local irreducible] awp qj qI qK qE qm isCells ql qi qB qx qh roundEnd

theorem vV {T' : TT} {sl:List (Nat × Value)} {H:List Blk} {a t b o z:Nat} {w:Bool} {vs:List Value} {r:List ResultVar} {K:List Value->Prop} {i:TI} (ht:tget T' t=some i) (ha:look sl a=some (.pointer (some ⟨b,o,none⟩))) (hb:bget H b=some (.cells w z vs)) (hk:i.kind.agg=true)
 (h:segK vs o i.size (fun seg=>resK T' sl H r (fun us=>K (.agg ⟨seg⟩::us)))):resK T' sl H (.cell a t::r) K:=by
 simp only[resK,ht,ha,hb,hk];exact h
structure TkOk (t:Tk):Prop where
 op:1<=t.op/\t.op<=11
 pr:1<=t.pr/\t.pr<=64
 pa:1<=t.pa/\t.pa<=16
 ro:0<=t.ro/\t.ro<t.pr
 root:t.op=1\/t.op=2\/t.op=5\/t.op=6\/t.ro=0
 bar:t.op=10->t.pa=1
 many:t.op=5\/t.op=6\/t.op=7\/t.op=9\/t.op=8\/t.op=11->t.pr*t.pa<=256
 halo:t.op=11->cntF t.sz t.ws.length=t.pr
theorem Xi {t:Tk} (h:chkF t=0):TkOk t:=by
 unfold chkF at h;split at h
 ·cases h
 ·rename_i h1
  split at h
  ·cases h
  ·rename_i h2
   split at h
   ·cases h
   ·rename_i h3
    split at h
    ·cases h
    ·rename_i h4
     refine⟨by omega,by omega,by omega,by omega,by omega,by omega,fun hm=>by omega,fun h11=>?_⟩
     ·have hn : ¬ (crdE t.sz t.ws.length (t.pr-1)≠0\/crdE t.sz t.ws.length t.pr=0):=fun hc=>h4 ⟨h11,hc⟩
      unfold crdE at hn;by_cases h0:cntF t.sz t.ws.length=0
      ·simp[h0] at hn
      ·simp only[if_neg h0] at hn
       by_cases ha:t.pr-1<0\/cntF t.sz t.ws.length<=t.pr-1
       ·simp[if_pos ha] at hn
       ·by_cases hb:t.pr<0\/cntF t.sz t.ws.length<=t.pr
        ·omega
        ·simp[if_neg ha,if_neg hb] at hn
theorem TkOk.dims {t:Tk} (k:TkOk t) (h11:t.op=11):t.sz.length<=4:=by
 have:=k.halo h11;have h1:=k.pr;unfold cntF at this;split at this
 ·omega
 ·omega
theorem zb0 {t:Tk} (k:TkOk t):1<=blkF t/\blkF t<=128/\(1<=blkF t*t.pa/\blkF t*t.pa<=2048):=by
 have hb:=YD t;have h1:=k.pr;have h2:=k.op;have h3:=k.dims;have h4:1<=blkF t/\blkF t<=128:=by omega
 have h5:=k.pa;have p:1*1<=blkF t*t.pa:=Int.mul_le_mul h4.1 h5.1 (by omega) (by omega);have q:blkF t*t.pa<=128*16:=Int.mul_le_mul h4.2 h5.2 (by omega) (by omega);omega
theorem c18 {H:List Blk} {t:Tk} {b c:Nat} {R:Value->List Blk->Prop} (h : ∀ H',HS H none' [] H' -> R (tkV t b c) H'):qj prog 18 [tkV t b c] H R:=by
 refine avN call18 func18 ntmps18 ?_;refine qo (HS.start H none') (fun H1 b1 e1 l1 hs=>?_);refine qo hs (fun H2 b2 e2 l2 hs=>?_)
 repeat' first|refine zRw ?_|intro _ _ hs|intro K0 hK0|(refine hK0 _ _ ?_;clear hK0)
 change resK T _ _ _ _;refine vV (by rfl) (by rfl) (hs.get 0 rfl) (by rfl) ?_;refine⟨_,rfl,_,rfl,_,rfl,_,rfl,_,rfl,_,rfl, ?_⟩;exact h _ (qc hs)
end Go.Af.Tryz
namespace Go.Af.Tryz
open Go Go.Proofs Tryz
open Go.Af.Coll (St sgn orF cmpL cmpF keyL befL befF)
attribute [local irreducible] awp qj qI qK qE qm isCells ql qi qB qx qh roundEnd
variable {H:List Blk}
variable {R:Value->List Blk->Prop}

instance:Inhabited St:=⟨⟨0,0,0,0,0,0⟩⟩
abbrev stC (s:St):List Value := [.int .i64 s.rd, .int .i64 s.fr, .int .i64 s.to, .int .i64 s.sr, .int .i64 s.ds, .int .i64 s.jn]
abbrev stV (s:St):Value := .agg ⟨stC s⟩
def stsC:List St->List Value
 | []=>[]
 | s::r=>stC s++stsC r
theorem xC : ∀ l:List St,(stsC l).length=6*l.length
 | []=>rfl
 | s::r=>by simp only[stsC,List.length_append,xC r,List.length_cons,List.length_nil];omega
theorem zy (x:St) : ∀ l:List St,stsC (l ++ [x])=stsC l++stC x
 | []=>rfl
 | s::r=>by simp only[List.cons_append,stsC,zy x r,List.append_assoc]
theorem Xj : ∀ (l:List St) (i k:Nat),i<l.length->k<6->(stsC l)[6*i+k]? = (stC l[i]!)[k]?
 | [],i,k,hi,hk=>by simp at hi
 | s::r,0,k,hi,hk=>by
   rw[stsC,List.getElem?_append_left (by simp;omega)];simp
 | s::r,i+1,k,hi,hk=>by
   rw[stsC,List.getElem?_append_right (by simp;omega)];have e:6*(i+1)+k-(stC s).length=6*i+k:=by simp;omega
   rw[e,Xj r i k (by simpa using hi) hk];simp
theorem vh0 {l:List St} {i k:Nat} {v:Value} {K:Value->Prop} (hi:i<l.length) (hk:k<6) (hv:(stC l[i]!)[k]? = some v) (h:K v):Ld (stsC l) (0+i*6+k) K :=
 ⟨v,by rw[show 0+i*6+k=6*i+k by omega,Xj l i k hi hk,hv],h⟩
theorem vE0 {l:List St} {i:Nat} {K:List Value->Prop} (hi:i<l.length) (h:K (stC l[i]!)):segK (stsC l) (0+i*6) 6 K :=
 vh0 (k:=0) hi (by decide) rfl (vh0 (k:=1) hi (by decide) rfl (vh0 (k:=2) hi (by decide) rfl (vh0 (k:=3) hi (by decide) rfl (vh0 (k:=4) hi (by decide) rfl (vh0 (k:=5) hi (by decide) rfl h)))))
def Rg (s:St):Prop:=(0<=s.rd/\s.rd<256)/\(0<=s.fr/\s.fr<64)/\(0<=s.to/\s.to<64)/\(0<=s.sr/\s.sr<2048)/\(0<=s.ds/\s.ds<2048)

theorem c255 {x:Int} (h:R (.bool false) H):qj prog 255 [.int .i64 x] H R:=by
 refine avN call255 func255 ntmps255 ?_;have hs:=HS.start H none'
 repeat' first|refine zRw ?_|intro _ _ hs|intro K0 hK0|(refine hK0 _ _ ?_;clear hK0)
 change R (.bool (!decide (x=x))) H;rw[show (!decide (x=x))=false by simp];exact h
theorem c139 {x y:Int} (h:R (.int .i64 (sgn x y)) H):qj prog 139 [.int .i64 x, .int .i64 y] H R:=by
 refine avN call139 func139 ntmps139 ?_;have hs:=HS.start H none';unfold sgn at h
 repeat' first|refine zRw ?_|intro _ _ hs|intro K0 hK0|(refine hK0 _ _ ?_;clear hK0)
 refine c255 ?_
 repeat' first|refine zRw ?_|intro _ _ hs|intro K0 hK0|(refine hK0 _ _ ?_;clear hK0)
 refine c255 ?_
 repeat' first|refine zTw ?_|intro _ _ hs|intro K0 hK0|intro hc|refine dI ?_ ?_|(refine hK0 _ _ ?_;clear hK0)
 all_goals (
  (repeat (first | rw[if_pos (by omega)] at h | rw[if_neg (by omega)] at h))
  exact h)
theorem x139 {x y:Int} (h:R (.int .i64 (sgn x y)) H):qI prog 139 [.int .i64 x, .int .i64 y] H R :=
 XR (V := .int .i64 (sgn x y)) (H2 := []) (c139 ⟨rfl,rfl⟩) [] rfl (.cons (.int _ _) (.cons (.int _ _) .nil)) trivial rfl h
theorem c138 {b:Nat} {w:Bool} {xs:List Int} (hb:bget H b=some (.cells w 1 (ints xs))) (hl:xs.length<=1000) (h:R (.int .i64 (orF xs)) H):qj prog 138 [sv b xs.length] H R:=by
 refine avN call138 func138 ntmps138 ?_;refine qf (α := Nat) tok (fun i=>i<=xs.length/\orF xs=orF (xs.drop i)) (fun i=>[(3, .int .i64 0),(6,sv b xs.length),(7, .int .i64 (xs.length:Int)),(8, .int .i64 (i:Int))]) (fun _=>H) (fun i=>xs.length-i) 0 ⟨Nat.zero_le _,by simp⟩ (Or.inl ⟨⟨rfl,rfl,rfl,rfl,trivial⟩,rfl⟩) ?_;rintro i ⟨hi,hn⟩;refine And.intro (fun hc=>?_) (fun hc=>?_)
 ·have hlt:i<xs.length:=by simp at hc;omega
  have hd:xs.drop i=xs[i]! :: xs.drop (i+1):=by rw[getElem!_pos xs i hlt];exact List.drop_eq_getElem_cons hlt
  rw[hd,orF] at hn;refine qO hb ⟨i,rfl,hlt, ?_⟩;refine qF hb (vM hlt ?_);refine And.intro (fun he=>?_) (fun he=>?_)
  ·have he:xs[i]! ≠ 0:=by simpa using he
   rw[if_pos he] at hn;rw[hn] at h;exact h
  ·have he:xs[i]! = 0:=by simpa using he
   rw[if_neg (by omega)] at hn;refine Or.inl ⟨((i+1:Nat):Int),by simp,by unfold I64;omega, ?_⟩;exact⟨i+1,⟨hlt,hn⟩,by omega,Or.inl ⟨⟨rfl,rfl,rfl,rfl,trivial⟩,rfl⟩⟩
 ·have hge:i=xs.length:=by simp at hc;omega
  subst hge;rw[List.drop_length] at hn;rw[hn] at h;exact h
theorem uX (a b:Int) (r s:List Int):befL (a::r) (b::s)=if a≠b then decide (a<b) else befL r s:=rfl
theorem c153 {x y:St} (h : ∀ H',HS H none' [] H' -> R (.bool (befF x y)) H'):qj prog 153 [stV x,stV y] H R:=by
 refine avN call153 func153 ntmps153 ?_;refine qo (HS.start H none') (fun H1 b1 e1 l1 hs=>?_);refine qo hs (fun H2 b2 e2 l2 hs=>?_);refine qg (fun _ hKs=>hKs _ _ ?_);clear hKs
 repeat' first|refine zRw ?_|intro _ _ hs|intro K0 hK0|(refine hK0 _ _ ?_;clear hK0)
 have hs:=pkH hs [0,1] (L' := [(true,_, .cells true 1 (ints (keyL y))),(true,_, .cells true 1 (ints (keyL x)))]);have h:=h _ (qc hs);unfold befF at h;have hlx:(keyL x).length=5:=rfl;have hly:(keyL y).length=5:=rfl;rename_i kx _ _ _ ky H9 _;generalize keyL x=xs at hs h hlx;generalize keyL y=ys at hs h hly;refine qf (α := Nat) tok (fun i=>i<=5/\befL xs ys=befL (xs.drop i) (ys.drop i)) (fun i=>[(5,sv kx 5),(6,sv ky 5),(7, .int .i64 (i:Int))]) (fun _=>H9) (fun i=>5-i) 0 ⟨Nat.zero_le _,by simp⟩ (Or.inl ⟨⟨rfl,rfl,rfl,trivial⟩,rfl⟩) ?_;rintro i ⟨hi,hn⟩;refine And.intro (fun hc=>?_) (fun hc=>?_)
 ·have hlt:i<5:=by simp at hc;omega
  have hx:i<xs.length:=by omega
  have hy:i<ys.length:=by omega
  have hd:xs.drop i=xs[i]! :: xs.drop (i+1):=by rw[getElem!_pos xs i hx];exact List.drop_eq_getElem_cons hx
  have hd2:ys.drop i=ys[i]! :: ys.drop (i+1):=by rw[getElem!_pos ys i hy];exact List.drop_eq_getElem_cons hy
  rw[hd,hd2,uX] at hn;refine wo tok mx [0,0,3,7,0,0,48,112,255] [false,false,false,false,true,true,true,true,false] [0,1,2,3,4,5,6,7,8] (by kernel_rfl) ?_;refine vT (fun K0 hK0=>?_);refine qO (hs.get 1 rfl) ⟨i,rfl,hlt, ?_⟩;refine qF (hs.get 1 rfl) (vM hx ?_);refine qO (hs.get 0 rfl) ⟨i,rfl,hlt, ?_⟩;refine qF (hs.get 0 rfl) (vM hy ?_);refine hK0 _ _ ?_;clear hK0;refine And.intro (fun he=>?_) (fun he=>?_)
  ·have he:xs[i]! ≠ ys[i]! := by simpa using he
   rw[if_pos he] at hn;rw[hn] at h;refine wo tok mx [0,0,3,7,0,0,48,112,255,511] [false,false,false,false,true,true,true,true,false,false] [0,1,2,3,4,5,6,7,8,9] (by kernel_rfl) ?_;refine vT (fun K0 hK0=>?_);refine qO (hs.get 1 rfl) ⟨i,rfl,hlt, ?_⟩;refine qF (hs.get 1 rfl) (vM hx ?_);refine qO (hs.get 0 rfl) ⟨i,rfl,hlt, ?_⟩;refine qF (hs.get 0 rfl) (vM hy ?_);refine hK0 _ _ ?_;exact h
  ·have he:xs[i]! = ys[i]! := by simpa using he
   rw[if_neg (by omega)] at hn;refine Or.inl ⟨((i+1:Nat):Int),by simp,by unfold I64;omega, ?_⟩;exact⟨i+1,⟨hlt,hn⟩,by omega,Or.inl ⟨⟨rfl,rfl,rfl,trivial⟩,rfl⟩⟩
 ·have hge:i=5:=by simp at hc;omega
  subst hge;rw[List.drop_of_length_le (by omega),List.drop_of_length_le (by omega)] at hn;rw[hn] at h;exact h
end Go.Af.Tryz
namespace Go.Af.Tryz
open Go Go.Proofs
open Go.Af.Coll (St Ck lk upd XV emp)

theorem keq3 {H:List Blk} {a c:Int} {K:Bool->Prop} (h:K (decide (a=c))):keq Tryz.prog T H 3 (.int .i64 a) (.int .i64 c) K:=by
 exact h
theorem keyK3 {a:Int} {K:Prop} (h:K):keyK Tryz.prog T 3 (.int .i64 a) K:=by
 exact h
theorem ZQ {P:Program} {T' : TT} {H:List Blk} {kt:Nat} {k:Value} {K:Option Nat->Prop} (t:MapEntry->Bool) : ∀ (l:List MapEntry) (i:Nat) (_ : ∀ e∈l, ∀ K' : Bool->Prop,K' (t e)->keq P T' H kt k e.key K')
 (_ : ∀ j e,l[j]? = some e->t e=true->(∀ j' e',j' < j->l[j']? = some e' -> t e' = false)->K (some (i+j))) (_:(∀ e∈l,t e=false)->K none),wE P T' H kt k l i K
 | [],i,_,_,h3=>h3 (fun e h=>by cases h)
 | e::l,i,h1,h2,h3=>by
   refine h1 e List.mem_cons_self _ ?_
   cases hte:t e with
   | true=>exact h2 0 e rfl hte (fun j' e' hj=>absurd hj (by omega))
   | false =>
     refine ZQ t l (i+1) (fun e he=>h1 e (List.mem_cons_of_mem _ he)) (fun j e' hj ht hb=>?_) (fun hn=>h3 (fun e' he=>?_))
     ·have:=h2 (j+1) e' (by simpa using hj) ht (fun j' e2 hj' he2=>by
       cases j' with
       | zero=>simp at he2;subst he2;exact hte
       | succ j' => exact hb j' e2 (by omega) (by simpa using he2))
      rw[show i+1+j=i+(j+1) by omega];exact this
     ·rcases List.mem_cons.1 he with h | h
      ·subst h;exact hte
      ·exact hn e' h
end Go.Af.Tryz
