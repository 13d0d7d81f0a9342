/-
  Tasks: the reference's Check; blocks and Slots of both.
  The form of a schedule: the program's checks step by step, and those of the reference, have the same outcome. No program is in sight.
  Tasks: Slots of both; what a task without an error is like; copies for the reference.
  Steps: how they lie in memory; the program's compare, the reference's before.
  What a checker remembers, in maps: fresh, takes.
-/
import Derived.Test.YtgdbclgcbbbenaaGreatMGA
import Derived.Test.YtgdbclgcbbbenaaGreatMA
set_option linter.all false
namespace Go.Af.Tryz.Co
open Go Go.Proofs
set_option maxRecDepth 100000
set_option maxHeartbeats 4000000
attribute [local irreducible] awp qo qA qN qI qG isCells qC qw qY ve qM roundEnd

theorem c89 {H:List Blk} {x:Int} {R:Value->List Blk->Prop} (h:R (.bool (decide (x=1\/x=2\/x=5\/x=6))) H):qo Tryz.prog 118 [.int .i64 x] H R:=by
 refine qj tok Tryz.call118 Tryz.func118 rfl Tryz.ntmps118 rfl (by simp) ?_
 have hs:=HS.start H none'
 repeat' (first|refine nX ?_|refine nY (fun K0 hK0=>?_)|refine bH ?_|refine bM ?_|refine iS hs ?_|refine rS hs ?_|refine eI _ (aI rfl ?_)|refine qi ?_|refine qh ?_|refine qf ?_|refine oJ ?_|refine nN hs (fun _ _ hs=>?_)|refine nS hs (fun _ _ hs=>?_)|refine sX hs (fun _ hs=>?_)|(refine dI (fun hc=>?_) (fun hc=>?_) <;> try (exfalso;omega))|(refine hK0 _ _ ?_;clear hK0)|fail)
 all_goals try (rw[decide_eq_true (by omega)] at h;exact h;done)
 rw[show decide (x=1\/x=2\/x=5\/x=6)=decide (x=6) from decide_eq_decide.2 (by omega)] at h
 exact h
def blkF (t:Tk):Int :=
 if t.op=5\/t.op=6\/t.op=7\/t.op=9 then t.pr else if t.op=8 then 2*t.pr else if t.op=11 then 1+2*(t.sz.length:Int) else 1
theorem c88 {H:List Blk} {t:Tk} {b c:Nat} {R:Value->List Blk->Prop} (hl:t.op=11->t.sz.length<=10) (hp:1<=t.pr/\t.pr<=64) (h : ∀ H',HS H none' [] H' -> R (.int .i64 (blkF t)) H'):qo Tryz.prog 98 [tkV t b c] H R:=by
 refine qj tok Tryz.call98 Tryz.func98 rfl Tryz.ntmps98 rfl (by simp) ?_
 refine vO (HS.start H none') (fun H1 b1 e1 l1 hs=>?_)
 refine qZ (fun _ hKs=>hKs _ _ ?_);clear hKs
 replace h:=h H1 (qU hs)
 unfold blkF at h
 repeat' (first|refine nX ?_|refine nY (fun K0 hK0=>?_)|refine bH ?_|refine bM ?_|refine iS hs ?_|refine rS hs ?_|refine eI _ (aI rfl ?_)|refine qi ?_|refine qh ?_|refine qf ?_|refine oJ ?_|refine nN hs (fun _ _ hs=>?_)|refine nS hs (fun _ _ hs=>?_)|refine sX hs (fun _ hs=>?_)|(refine dI (fun hc=>?_) (fun hc=>?_) <;> try (exfalso;omega))|(refine hK0 _ _ ?_;clear hK0)|fail)
 all_goals (
  (repeat (first | rw[if_pos (by omega)] at h | rw[if_neg (by omega)] at h))
  exact h)
theorem blk_facts (t:Tk):(t.op=5\/t.op=6\/t.op=7\/t.op=9->blkF t=t.pr)/\(t.op=8->blkF t=2*t.pr)/\(t.op=11->blkF t=1+2*(t.sz.length:Int))/\(¬ (t.op=5\/t.op=6\/t.op=7\/t.op=9\/t.op=8\/t.op=11)->blkF t=1):=by
 unfold blkF
 refine⟨fun h=>by rw[if_pos h],fun h=>by rw[if_neg (by omega),if_pos h],fun h=>by rw[if_neg (by omega),if_neg (by omega),if_pos h],fun h=>by rw[if_neg (by omega),if_neg (by omega),if_neg (by omega)]⟩
end Go.Af.Tryz.Co
namespace Go.Af.Coll

structure St where
 rd:Int
 fr:Int
 to:Int
 sr:Int
 ds:Int
 jn:Int
deriving DecidableEq

def sgn (a b:Int):Int:=if a<b then -1 else if b<a then 1 else 0
def orF:List Int->Int
 | []=>0
 | x::r=>if x≠0 then x else orF r
def cmpL (a b:St):List Int := [a.rd-b.rd,a.fr-b.fr,a.to-b.to,sgn a.sr b.sr,sgn a.ds b.ds]
def cmpF (a b:St):Int:=orF (cmpL a b)
def keyL (a:St):List Int := [a.rd,a.fr,a.to,a.sr,a.ds]
def befL:List Int->List Int->Bool
 | x::xs,y::ys=>if x≠y then decide (x<y) else befL xs ys
 | _,_=>false
def befF (a b:St):Bool:=befL (keyL a) (keyL b)

def badP (prev:Option St) (x:St):Bool:=match prev with | some p => !befF p x | none=>false
def selfF (procs slots:Int) (prev:Option St) (x:St):Int :=
 if x.rd<0\/256<=x.rd then 3
 else if min x.fr x.to<0\/procs<=max x.fr x.to then 11
 else if min x.sr x.ds<0\/slots<=max x.sr x.ds then 3
 else if x.jn<0\/2<x.jn\/badP prev x=true then 2
 else 0

structure Ck where
 W:List (Int × Int)
 S:List (Int × Int)
 G:List (Int × Int)
def lk:List (Int × Int)->Int->Option Int
 | [],_=>none
 | (k,v)::r,a=>if a=k then some v else lk r a
def upd (l:List (Int × Int)) (k v:Int):List (Int × Int):=match l with
 | []=>[(k,v)]
 | (k',v')::r=>if k=k' then (k,v)::r else (k',v')::upd r k v
def emp:Ck:=⟨[],[],[]⟩
def takesF (c:Ck) (x:St):Bool:=(match lk c.S x.fr with | none=>true | some t=>decide (t=x.to))&&(match lk c.G x.to with | none=>true | some f=>decide (f=x.fr))
def freshF (prev:Option St) (c:Ck) (x:St):Ck:=match prev with
 | some p=>if p.rd≠x.rd then emp else c
 | none=>c
def addF (c:Ck) (x:St):Ck:=⟨c.W ++ [(x.to,x.ds)],if x.fr≠x.to then upd c.S x.fr x.to else c.S,if x.fr≠x.to then upd c.G x.to x.fr else c.G⟩
def roundF (c:Ck) (x:St):Int:=if (x.to,x.ds)∈c.W then 5 else if x.fr≠x.to/\takesF c x=false then 6 else 0
def sndP (procs slots:Int):Option St->Ck->List St->Int
 | _,_,[]=>0
 | prev,c,x::r=>if selfF procs slots prev x≠0 then selfF procs slots prev x else if roundF (freshF prev c x) x≠0 then roundF (freshF prev c x) x else sndP procs slots (some x) (addF (freshF prev c x) x) r

end Go.Af.Coll
namespace Go.Af.Tryz.Co
open Go Go.Proofs
open Go.Af.Coll (St)
set_option maxRecDepth 100000
set_option maxHeartbeats 4000000
attribute [local irreducible] awp qo qA qN qI qG isCells qC qw qY ve qM roundEnd

theorem resK_agg {T' : TT} {sl:List (Nat × Value)} {H:List Blk} {a t b o z:Nat} {w:Bool} {vs:List Value} {r:List ResultVar} {K:List Value->Prop} {i:TI} (ht:tget T' t=some i) (ha:look sl a=some (.pointer (some ⟨b,o,none⟩))) (hb:bget H b=some (.cells w z vs)) (hk:i.kind.agg=true)
 (h:segK vs o i.size (fun seg=>resK T' sl H r (fun us=>K (.agg ⟨seg⟩::us)))):resK T' sl H (.cell a t::r) K:=by
 simp only[resK,ht,ha,hb,hk];exact h
structure TkOk (t:Tk):Prop where
 op:1<=t.op/\t.op<=11
 pr:1<=t.pr/\t.pr<=64
 pa:1<=t.pa/\t.pa<=16
 ro:0<=t.ro/\t.ro<t.pr
 root:t.op=1\/t.op=2\/t.op=5\/t.op=6\/t.ro=0
 bar:t.op=10->t.pa=1
 many:t.op=5\/t.op=6\/t.op=7\/t.op=9\/t.op=8\/t.op=11->t.pr*t.pa<=256
 halo:t.op=11->cntF t.sz t.ws.length=t.pr
theorem tk_ok {t:Tk} (h:chkF t=0):TkOk t:=by
 unfold chkF at h
 split at h
 ·cases h
 ·rename_i h1
  split at h
  ·cases h
  ·rename_i h2
   split at h
   ·cases h
   ·rename_i h3
    split at h
    ·cases h
    ·rename_i h4
     refine⟨by omega,by omega,by omega,by omega,by omega,by omega,fun hm=>by omega,fun h11=>?_⟩
     ·have hn : ¬ (crdE t.sz t.ws.length (t.pr-1)≠0\/crdE t.sz t.ws.length t.pr=0):=fun hc=>h4 ⟨h11,hc⟩
      unfold crdE at hn
      by_cases h0:cntF t.sz t.ws.length=0
      ·simp[h0] at hn
      ·simp only[if_neg h0] at hn
       by_cases ha:t.pr-1<0\/cntF t.sz t.ws.length<=t.pr-1
       ·simp[if_pos ha] at hn
       ·by_cases hb:t.pr<0\/cntF t.sz t.ws.length<=t.pr
        ·omega
        ·simp[if_neg ha,if_neg hb] at hn
theorem TkOk.dims {t:Tk} (k:TkOk t) (h11:t.op=11):t.sz.length<=4:=by
 have:=k.halo h11
 have h1:=k.pr
 unfold cntF at this
 split at this
 ·omega
 ·omega
theorem blk_range {t:Tk} (k:TkOk t):1<=blkF t/\blkF t<=128/\(1<=blkF t*t.pa/\blkF t*t.pa<=2048):=by
 have hb:=blk_facts t
 have h1:=k.pr
 have h2:=k.op
 have h3:=k.dims
 have h4:1<=blkF t/\blkF t<=128:=by omega
 have h5:=k.pa
 have p:1*1<=blkF t*t.pa:=Int.mul_le_mul h4.1 h5.1 (by omega) (by omega)
 have q:blkF t*t.pa<=128*16:=Int.mul_le_mul h4.2 h5.2 (by omega) (by omega)
 omega
def sltF (t:Tk):Int:=if chkF t=0 then blkF t*t.pa else 0
theorem c18 {H:List Blk} {t:Tk} {b c:Nat} {R:Value->List Blk->Prop} (h : ∀ H',HS H none' [] H' -> R (tkV t b c) H'):qo Tryz.prog 26 [tkV t b c] H R:=by
 refine qj tok Tryz.call26 Tryz.func26 rfl Tryz.ntmps26 rfl (by simp) ?_
 refine vO (HS.start H none') (fun H1 b1 e1 l1 hs=>?_)
 refine vO hs (fun H2 b2 e2 l2 hs=>?_)
 repeat' (first|refine nX ?_|refine nY (fun K0 hK0=>?_)|refine bH ?_|refine bM ?_|refine iS hs ?_|refine rS hs ?_|refine eI _ (aI rfl ?_)|refine qi ?_|refine qh ?_|refine qf ?_|refine oJ ?_|refine nN hs (fun _ _ hs=>?_)|refine nS hs (fun _ _ hs=>?_)|refine sX hs (fun _ hs=>?_)|(refine hK0 _ _ ?_;clear hK0)|fail)
 change resK T _ _ _ _
 refine resK_agg (by rfl) (by rfl) (hs.get 0 rfl) (by rfl) ?_
 refine⟨_,rfl,_,rfl,_,rfl,_,rfl,_,rfl,_,rfl, ?_⟩
 exact h _ (qU hs)
end Go.Af.Tryz.Co
namespace Go.Af.Tryz.Co
open Go Go.Proofs
open Go.Af.Coll (St sgn orF cmpL cmpF keyL befL befF)
set_option maxRecDepth 100000
set_option maxHeartbeats 4000000
attribute [local irreducible] awp qo qA qN qI qG isCells qC qw qY ve qM roundEnd

instance:Inhabited St:=⟨⟨0,0,0,0,0,0⟩⟩
abbrev stC (s:St):List Value := [.int .i64 s.rd, .int .i64 s.fr, .int .i64 s.to, .int .i64 s.sr, .int .i64 s.ds, .int .i64 s.jn]
def stsC:List St->List Value
 | []=>[]
 | s::r=>stC s++stsC r
theorem stsC_snoc (x:St) : ∀ l:List St,stsC (l ++ [x])=stsC l++stC x
 | []=>rfl
 | s::r=>by simp only[List.cons_append,stsC,stsC_snoc x r,List.append_assoc]
theorem stsC_get : ∀ (l:List St) (i k:Nat),i<l.length->k<6->(stsC l)[6*i+k]? = (stC l[i]!)[k]?
 | [],i,k,hi,hk=>by simp at hi
 | s::r,0,k,hi,hk=>by
   rw[stsC,List.getElem?_append_left (by simp;omega)]
   simp
 | s::r,i+1,k,hi,hk=>by
   rw[stsC,List.getElem?_append_right (by simp;omega)]
   have e:6*(i+1)+k-(stC s).length=6*i+k:=by simp;omega
   rw[e,stsC_get r i k (by simpa using hi) hk]
   simp
theorem Ld_st {l:List St} {i k:Nat} {v:Value} {K:Value->Prop} (hi:i<l.length) (hk:k<6) (hv:(stC l[i]!)[k]? = some v) (h:K v):Ld (stsC l) (0+i*6+k) K :=
 ⟨v,by rw[show 0+i*6+k=6*i+k by omega,stsC_get l i k hi hk,hv],h⟩
theorem seg_st {l:List St} {i:Nat} {K:List Value->Prop} (hi:i<l.length) (h:K (stC l[i]!)):segK (stsC l) (0+i*6) 6 K :=
 Ld_st (k:=0) hi (by decide) rfl (Ld_st (k:=1) hi (by decide) rfl (Ld_st (k:=2) hi (by decide) rfl (Ld_st (k:=3) hi (by decide) rfl (Ld_st (k:=4) hi (by decide) rfl (Ld_st (k:=5) hi (by decide) rfl h)))))
end Go.Af.Tryz.Co
namespace Go.Af.Tryz.Co
open Go Go.Proofs
open Go.Af.Coll (St Ck lk upd takesF emp)
set_option maxRecDepth 100000
set_option maxHeartbeats 4000000

theorem keq3 {H:List Blk} {a c:Int} {K:Bool->Prop} (h:K (decide (a=c))):keq Tryz.prog T H 3 (.int .i64 a) (.int .i64 c) K:=by
 exact h
theorem keyK3 {a:Int} {K:Prop} (h:K):keyK Tryz.prog T 3 (.int .i64 a) K:=by
 exact h
end Go.Af.Tryz.Co
