/- A part of the proof. -/
import Derived.Test.YtmnjcogpchodhaaGreatMS
import Derived.Test.YtmnjcogpchodhaaGreatMCA
set_option linter.all false
set_option maxHeartbeats 4000000
set_option maxRecDepth 100000
namespace Go.Af.Tryz
open Go Go.Proofs Tryz
attribute [local irreducible] awp qj qI qK qE qm isCells ql qi qB qx qh roundEnd

abbrev none' : Nat->Prop:=fun _=>False
theorem qL {H0 H H' : List Blk} {o:Nat->Prop} {L:List (Bool × Nat × Blk)} (hs:HS H0 o L H) (h:HS H none' [] H'):HS H0 o L H' := hs.ext h.u.1 (fun i hi=>h.u.2 i hi (fun h=>h))
theorem kNo {H0 H:List Blk} {o:Nat->Prop} {L:List (Bool × Nat × Blk)} (hs:HS H0 o L H) {Q:List Blk->Prop} (k : ∀ H',HS H0 o L H' -> Q H') : ∀ H',HS H none' [] H' -> Q H' := fun H' hn=>k H' (qL hs hn)
theorem qc {H0 H:List Blk} {o:Nat->Prop} {L:List (Bool × Nat × Blk)} (h:HS H0 o L H):HS H0 o [] H:=pkH h []
theorem vz {H H' : List Blk} (h:HS H none' [] H') {b:Nat} {B:Blk} (hb:bget H b=some B):bget H' b=some B:=(h.u.2 b (qJ hb) (fun h=>h)).trans hb

structure Tk where
 op:Int
 pr:Int
 ro:Int
 pa:Int
 sz:List Int
 ws:List Bool
abbrev bls (xs:List Bool):List Value:=xs.map Value.bool
abbrev grC (b n c k:Nat):List Value := [sv b n,sv c k]
abbrev grV (b n c k:Nat):Value := .agg ⟨grC b n c k⟩
abbrev tkC (t:Tk) (b c:Nat):List Value := [.int .i64 t.op, .int .i64 t.pr, .int .i64 t.ro, .int .i64 t.pa,sv b t.sz.length,sv c t.ws.length]
abbrev tkV (t:Tk) (b c:Nat):Value := .agg ⟨tkC t b c⟩
structure Gr (H:List Blk) (sz:List Int) (b:Nat):Prop where
 s : ∃ w,bget H b=some (.cells w 1 (ints sz))
theorem Gr.up {H H' : List Blk} {sz:List Int} {b:Nat} (g:Gr H sz b) (h:HS H none' [] H'):Gr H' sz b:=⟨g.s.imp fun _ hb=>vz h hb⟩

/-! ### Grids -/
def mulL:List Int->Int->Int
 | [],n=>n
 | s::r,n=>mulL r (n*s)
theorem Zd (s:Int) : ∀ (l:List Int) (n:Int),mulL (l ++ [s]) n=mulL l n*s
 | [],n=>rfl
 | x::l,n=>by simp only[List.cons_append,mulL];exact Zd s l (n*x)
def okL:List Int->Int->Bool
 | [],_=>true
 | s::r,n=>decide (1<=s)&&decide (s<=64)&&decide (n*s<=64)&&okL r (n*s)
theorem Xv (s:Int) : ∀ (l:List Int) (n:Int),okL (l ++ [s]) n=(okL l n&&(decide (1<=s)&&decide (s<=64)&&decide (mulL l n*s<=64)))
 | [],n=>by
   simp only[List.nil_append,okL,mulL,Bool.and_true,Bool.true_and];rfl
 | x::l,n=>by simp only[List.cons_append,okL,mulL];rw[Xv s l (n*x)];simp only[Bool.and_assoc];rfl
theorem uE0 {l:List Int} {n:Int} {k:Nat} (h:okL l n=true):okL (l.take k) n=true:=by
 induction l generalizing n k with
 | nil=>simpa using h
 | cons s r ih =>
   cases k with
   | zero=>rfl
   | succ k =>
     simp only[okL,Bool.and_eq_true,List.take_succ_cons] at h ⊢;exact⟨h.1,ih h.2⟩
theorem Xy : ∀ {l:List Int} {n:Int} (_:okL l n=true) (_:1<=n) (_:n<=64),1<=mulL l n/\mulL l n<=64
 | [],n,_,h1,h2=>⟨h1,h2⟩
 | s::l,n,h,h1,h2=>by
   simp only[okL,Bool.and_eq_true,decide_eq_true_eq] at h;obtain ⟨⟨⟨a,b⟩,c⟩,d⟩:=h;have:1*1<=n*s:=Int.mul_le_mul h1 a (by omega) (by omega);exact Xy (l:=l) (n:=n*s) d (by omega) c
theorem i64_mul {n s:Int} (h1:1<=n) (h2:n<=64) (h3:1<=s) (h4:s<=64):1<=n*s/\n*s<=4096:=by
 have a:1*1<=n*s:=Int.mul_le_mul h1 h3 (by omega) (by omega);have b:n*s<=64*64:=Int.mul_le_mul h2 h4 (by omega) (by omega);omega
def cntF (sz:List Int) (wl:Nat):Int:=if sz.length<1\/4<sz.length\/wl≠sz.length\/okL sz 1=false then 0 else mulL sz 1
theorem Ux (sz:List Int) (wl:Nat):0<=cntF sz wl/\cntF sz wl<=64:=by
 unfold cntF;split
 ·omega
 ·rename_i h
  have hk:okL sz 1=true:=by
   cases h' : okL sz 1 with
   | true=>rfl
   | false=>exact absurd (.inr (.inr (.inr h'))) h
  have:=Xy hk (by omega) (by omega);omega
theorem vZ0 {sz:List Int} {i:Nat} (hi:i<sz.length) (h:sz[i]! < 1\/64<sz[i]! \/ 64<mulL (sz.take i) 1*sz[i]!):okL sz 1=false:=by
 cases hk:okL sz 1 with
 | false=>rfl
 | true =>
   have:=uE0 (k:=i+1) hk;rw[List.take_succ_eq_append_getElem hi,Xv] at this;rw[getElem!_pos sz i hi] at h;simp only[Bool.and_eq_true,decide_eq_true_eq] at this;omega
theorem xi0 {sz:List Int} {i:Nat} (hi:i<sz.length) (h:okL (sz.take i) 1=true) (h1 : ¬ sz[i]! < 1) (h2 : ¬ 64<sz[i]!) (h3 : ¬ 64<mulL (sz.take i) 1*sz[i]!):okL (sz.take (i+1)) 1=true/\mulL (sz.take (i+1)) 1=mulL (sz.take i) 1*sz[i]! := by
 rw[List.take_succ_eq_append_getElem hi,Xv,Zd];rw[getElem!_pos sz i hi] at h1 h2 h3 ⊢;refine⟨?_,rfl⟩;simp only[Bool.and_eq_true,decide_eq_true_eq];exact⟨h,⟨by omega,by omega⟩,by omega⟩

theorem vM {xs:List Int} {i:Nat} {K:Value->Prop} (hi:i<xs.length) (h:K (.int .i64 xs[i]!)):Ld (ints xs) (0+i*1) K :=
 Vs0 i xs[i]! (by omega) (by simp[hi]) h
theorem c261 {H:List Blk} {sz:List Int} {b c wl:Nat} {R:Value->List Blk->Prop} (g:Gr H sz b) (h : ∀ H',HS H none' [] H' -> R (.int .i64 (cntF sz wl)) H'):qj prog 261 [grV b sz.length c wl] H R:=by
 obtain ⟨w,hb⟩:=g.s;refine avN call261 func261 ntmps261 ?_;refine qo (adH (HS.start H none') hb) (fun H1 b1 e1 l1 hs=>?_);refine qg (fun _ hKs=>hKs _ _ ?_);clear hKs;refine qg (fun K0 hK0=>?_)
 repeat' first|refine iS hs ?_|refine rS hs ?_|refine eI _ (aI rfl ?_)|refine zB ?_|refine zA ?_|refine wG ?_|refine oJ ?_|refine nN hs (fun _ _ hs=>?_)|refine nS hs (fun _ _ hs=>?_)|refine sX hs (fun _ hs=>?_)|(refine dI (fun hc=>?_) (fun hc=>?_) <;> try (exfalso;omega))|refine hK0 _ _ ?_|fail
 all_goals try (
  refine (?_:R (.int .i64 0) H1);have e:cntF sz wl=0:=by unfold cntF;rw[if_pos (by omega)]
  rw[e] at h;exact h _ (qc hs))
 have hsl:sz.length<=4:=by omega
 have hwl:wl=sz.length:=by omega
 refine qf (α := Nat) tok (fun i=>i<=sz.length/\okL (sz.take i) 1=true)
  (fun i=>[(3, .int .i64 (mulL (sz.take i) 1)),(26,sv b sz.length),(27, .int .i64 (sz.length:Int)),(28, .int .i64 (i:Int))]) (fun _=>H1) (fun i=>sz.length-i)
  0 ⟨Nat.zero_le _,by simp[okL]⟩ (Or.inl ⟨⟨rfl,rfl,rfl,rfl,trivial⟩,rfl⟩) ?_
 rintro i ⟨hi,hok⟩;have hm:=Xy hok (by omega) (by omega);generalize hm0:mulL (sz.take i) 1=m at hm;refine And.intro (fun hc=>?_) (fun hc=>?_)
 ·have hlt:i<sz.length:=by simp at hc;omega
  clear hc;have hb1:=vZ0 (i:=i) hlt;have hb2:=xi0 (i:=i) hlt hok;rw[hm0] at hb1 hb2;refine qO (hs.get 1 rfl) ⟨i,rfl,hlt, ?_⟩;refine qF (hs.get 1 rfl) (vM hlt ?_);have hmul:1<=sz[i]! -> sz[i]! <= 64->1<=m*sz[i]! /\ m*sz[i]! <= 4096:=fun a b=>i64_mul hm.1 hm.2 a b
  generalize sz[i]! = x at hb1 hb2 hmul
  repeat' first|refine iS hs ?_|refine rS hs ?_|refine eI _ (aI rfl ?_)|refine zB ?_|refine zA ?_|refine wG ?_|refine oJ ?_|refine nN hs (fun _ _ hs=>?_)|refine nS hs (fun _ _ hs=>?_)|refine sX hs (fun _ hs=>?_)|(refine dI (fun hc=>?_) (fun hc=>?_) <;> try (exfalso;omega))|refine hK0 _ _ ?_|fail
  all_goals try (
   refine (?_:R (.int .i64 0) H1);have e:cntF sz wl=0:=by unfold cntF;rw[if_pos (.inr (.inr (.inr (hb1 (by omega)))))]
   rw[e] at h;exact h _ (qc hs))
  obtain ⟨q1,q2⟩:=hb2 (by omega) (by omega) (by omega);exact⟨i+1,⟨hlt,q1⟩,by omega,Or.inl ⟨⟨by rw[q2];rfl,rfl,rfl,by simp[look],trivial⟩,rfl⟩⟩
 ·have hie:i=sz.length:=by simp at hc;omega
  subst hie;rw[List.take_length] at hok hm0;refine (?_:R (.int .i64 m) H1)
  have e:cntF sz wl=m:=by
   unfold cntF;rw[if_neg,hm0];rintro (h | h | h | h)
   ·omega
   ·omega
   ·omega
   ·rw[hok] at h;cases h
  rw[e] at h;exact h _ (qc hs)
end Go.Af.Tryz
namespace Go.Af.Tryz
open Go Go.Proofs Tryz
attribute [local irreducible] awp qj qI qK qE qm isCells ql qi qB qx qh roundEnd
variable {H:List Blk}
variable {R:Value->List Blk->Prop}

def rngL (l:List Int):Bool:=l.all fun s=>decide (1<=s)&&decide (s<=64)
theorem Zc : ∀ (l:List Int) (n:Int),1<=n->(okL l n=true↔rngL l=true/\(l = []\/mulL l n<=64))/\(rngL l=true->n<=mulL l n)
 | [],n,h=>⟨by simp[okL,rngL],fun _=>Int.le_refl _⟩
 | s::l,n,h=>by
   by_cases hs:1<=s/\s<=64
   ·have hn:n*1<=n*s:=Int.mul_le_mul_of_nonneg_left hs.1 (by omega)
    have ih:=Zc l (n*s) (by omega);have e1:okL (s::l) n=(decide (n*s<=64)&&okL l (n*s)):=by simp only[okL,decide_eq_true hs.1,decide_eq_true hs.2,Bool.true_and]
    have e2:rngL (s::l)=rngL l:=by simp only[rngL,List.all_cons,decide_eq_true hs.1,decide_eq_true hs.2,Bool.true_and]
    rw[e1,e2];refine⟨?_,fun hr=>by have:=ih.2 hr;simp only[mulL];omega⟩;simp only[Bool.and_eq_true,decide_eq_true_eq,ih.1,mulL,reduceCtorEq,false_or];constructor
    ·rintro ⟨h1,h2,h3⟩
     refine⟨h2, ?_⟩;rcases h3 with h3 | h3
     ·subst h3;exact h1
     ·exact h3
    ·rintro ⟨h1,h2⟩
     have:=ih.2 h1;exact⟨by omega,h1, .inr h2⟩
   ·have e1:okL (s::l) n=false:=by
     simp only[okL];by_cases h1:1<=s
     ·rw[decide_eq_false (show ¬ s<=64 by omega)];simp
     ·rw[decide_eq_false h1];simp
    have e2:rngL (s::l)=false:=by
     simp only[rngL,List.all_cons];by_cases h1:1<=s
     ·rw[decide_eq_false (show ¬ s<=64 by omega)];simp
     ·rw[decide_eq_false h1];simp
    rw[e1,e2];simp
theorem xb0 {sz:List Int} {i:Nat} (hi:i<sz.length) (h:sz[i]! < 1\/64<sz[i]!):okL sz 1=false:=vZ0 hi (by omega)
theorem vM0 {sz:List Int} {i:Nat} (hi:i<sz.length) (h:rngL (sz.take i)=true) (h1:1<=sz[i]!) (h2:sz[i]! <= 64):rngL (sz.take (i+1))=true:=by
 rw[List.take_succ_eq_append_getElem hi];rw[getElem!_pos sz i hi] at h1 h2;simp only[rngL,List.all_append,List.all_cons,List.all_nil,Bool.and_true,Bool.and_eq_true,decide_eq_true_eq];exact⟨h,h1,h2⟩
theorem wi0 {sz:List Int} {i:Nat} (hi:i<sz.length):mulL (sz.take (i+1)) 1=mulL (sz.take i) 1*sz[i]! := by
 rw[List.take_succ_eq_append_getElem hi,Zd,getElem!_pos sz i hi]
theorem vL0 {m:Int} {k:Nat} {x:Int} (hk:1<=m/\m<=64 ^ k) (h1:1<=x) (h2:x<=64):1<=m*x/\m*x<=64 ^ (k+1):=by
 have a:1*1<=m*x:=Int.mul_le_mul hk.1 h1 (by omega) (by omega);have b:m*x<=64 ^ k*64:=Int.mul_le_mul hk.2 h2 (by omega) (Int.le_of_lt (Int.pow_pos (by omega)));exact⟨by omega,by rw[Int.pow_succ];exact b⟩
theorem Yg {i:Nat} (h:i<=4):(64:Int) ^ i<=16777216:=by
 obtain rfl | rfl | rfl | rfl | rfl:i=0\/i=1\/i=2\/i=3\/i=4:=by omega
 all_goals decide

theorem c263 {sz:List Int} {b c wl:Nat} (g:Gr H sz b) (h : ∀ H' z,HS H none' [] H' -> (cntF sz wl≠0->z=cntF sz wl)->R (.tuple ⟨[.int .i64 z, .bool (decide (cntF sz wl≠0))]⟩) H'):qj prog 263 [grV b sz.length c wl] H R:=by
 obtain ⟨w,hb⟩:=g.s;refine avN call263 func263 ntmps263 ?_;refine qo (adH (HS.start H none') hb) (fun H1 b1 e1 l1 hs=>?_);refine qg (fun _ hKs=>hKs _ _ ?_);clear hKs
 have bad:cntF sz wl=0->R (.tuple ⟨[.int .i64 0, .bool false]⟩) H1:=fun e=>by
  have:=h H1 0 (qc hs) (fun hn=>absurd e hn);rw[e] at this;exact this
 refine qg (fun K0 hK0=>?_)
 repeat' first|refine iS hs ?_|refine rS hs ?_|refine eI _ (aI rfl ?_)|refine zB ?_|refine zA ?_|refine wG ?_|refine oJ ?_|refine nN hs (fun _ _ hs=>?_)|refine nS hs (fun _ _ hs=>?_)|refine sX hs (fun _ hs=>?_)|(refine dI (fun hc=>?_) (fun hc=>?_) <;> try (exfalso;omega))|refine rd ?_|refine hK0 _ _ ?_|fail
 all_goals try (exact bad (by unfold cntF;rw[if_pos (by omega)]))
 have hsl:sz.length<=4:=by omega
 have hsl0:1<=sz.length:=by omega
 have hwl:wl=sz.length:=by omega
 refine qf (α := Nat) tok (fun i=>i<=sz.length/\rngL (sz.take i)=true/\1<=mulL (sz.take i) 1/\mulL (sz.take i) 1<=64 ^ i)
  (fun i=>[(1, .pointer (some ⟨b1,0,none⟩)),(4, .int .i64 (mulL (sz.take i) 1)),(5, .int .i64 (i:Int))]) (fun _=>H1) (fun i=>sz.length-i)
  0 ⟨Nat.zero_le _,rfl,by simp[mulL],by simp[mulL]⟩ (Or.inl ⟨⟨rfl,rfl,rfl,trivial⟩,rfl⟩) ?_
 rintro i ⟨hi,hok,hm⟩;have hp:=Yg (i:=i+1);refine⟨by decide,qO (hs.get 0 rfl) ?_⟩;refine qF (hs.get 0 rfl) ⟨_,rfl, ?_⟩;refine And.intro (fun hc=>?_) (fun hc=>?_)
 ·have hlt:i<sz.length:=by simp at hc;omega
  clear hc;have hb1:=xb0 (i:=i) hlt;have hb2:=vM0 (i:=i) hlt hok;have hb3:=wi0 (i:=i) hlt;generalize hm0:mulL (sz.take i) 1=m at hm hb3;have hmul:=vL0 (x:=sz[i]!) hm;have hpi:=hp (by omega);refine⟨by decide,qO (hs.get 0 rfl) ?_⟩;refine qF (hs.get 0 rfl) ⟨_,rfl, ?_⟩;refine qO (hs.get 1 rfl) ⟨i,rfl,hlt, ?_⟩;refine qF (hs.get 1 rfl) (vM hlt ?_);generalize hx0:sz[i]! = x at hb1 hb2 hb3 hmul;generalize hpw0:(64:Int) ^ (i+1)=pw at hmul hpi;have rd : ∀ {K:Value->Prop},K (.int .i64 x)->Ld (ints sz) (0+i*1) K:=fun {K} hk=>vM hlt (by rw[hx0];exact hk)
  repeat' first|refine iS hs ?_|refine rS hs ?_|refine eI _ (aI rfl ?_)|refine zB ?_|refine zA ?_|refine wG ?_|refine oJ ?_|refine nN hs (fun _ _ hs=>?_)|refine nS hs (fun _ _ hs=>?_)|refine sX hs (fun _ hs=>?_)|(refine dI (fun hc=>?_) (fun hc=>?_) <;> try (exfalso;omega))|refine rd ?_|refine hK0 _ _ ?_|fail
  all_goals try (exact bad (by unfold cntF;rw[if_pos (.inr (.inr (.inr (hb1 (by omega)))))]))
  have hmm:=hmul (by omega) (by omega)
  repeat' first|refine iS hs ?_|refine rS hs ?_|refine eI _ (aI rfl ?_)|refine zB ?_|refine zA ?_|refine wG ?_|refine oJ ?_|refine nN hs (fun _ _ hs=>?_)|refine nS hs (fun _ _ hs=>?_)|refine sX hs (fun _ hs=>?_)|(refine dI (fun hc=>?_) (fun hc=>?_) <;> try (exfalso;omega))|refine rd ?_|refine hK0 _ _ ?_|fail
  exact⟨i+1,⟨hlt,hb2 (by omega) (by omega),by rw[hb3];omega,by rw[hb3,hpw0];omega⟩,by omega,Or.inl ⟨⟨rfl,by rw[hb3];rfl,rfl,trivial⟩,rfl⟩⟩
 ·have hie:i=sz.length:=by simp at hc;omega
  subst hie;rw[List.take_length] at hok hm;rw[List.take_length];have hiff:=(Zc sz 1 (by omega)).1;have hne:sz≠[]:=fun e=>by subst e;simp at hsl0
  have hpi:=Yg (i:=sz.length) hsl;generalize hpw:(64:Int) ^ sz.length=pw at hm hpi
  have e:cntF sz wl=if mulL sz 1<=64 then mulL sz 1 else 0:=by
   by_cases h64:mulL sz 1<=64
   ·rw[if_pos h64]
    unfold cntF;rw[if_neg];rintro (h | h | h | h)
    ·omega
    ·omega
    ·omega
    ·rw[hiff.2 ⟨hok, .inr h64⟩] at h;cases h
   ·rw[if_neg h64]
    unfold cntF;rw[if_pos];refine .inr (.inr (.inr ?_))
    cases hk:okL sz 1 with
    | false=>rfl
    | true=>exact ((hiff.1 hk).2.elim (fun h=>absurd h hne) (fun h=>absurd h h64))
  have:=h H1 (mulL sz 1) (qc hs) (fun hn=>by
   rw[e] at hn ⊢;by_cases h64:mulL sz 1<=64
   ·rw[if_pos h64]
   ·rw[if_neg h64] at hn;exact absurd rfl hn)
  have e2:decide (cntF sz wl≠0)=decide (mulL sz 1<=64):=by
   rw[e];by_cases h64:mulL sz 1<=64
   ·rw[if_pos h64];simp[h64];omega
   ·rw[if_neg h64];simp[h64]
  rw[e2] at this;exact this

def crdE (sz:List Int) (wl:Nat) (r:Int):Int:=if cntF sz wl=0 then 2 else if r<0\/cntF sz wl<=r then 11 else 0
theorem c166 {sz:List Int} {b c wl:Nat} {r:Int} (g:Gr H sz b) (h : ∀ H',HS H none' [] H' -> R (.int .i64 (crdE sz wl r)) H'):qj prog 166 [grV b sz.length c wl, .int .i64 r] H R:=by
 obtain ⟨w,hb⟩:=g.s;refine avN call166 func166 ntmps166 ?_;refine qo (adH (HS.start H none') hb) (fun H1 b1 e1 l1 hs=>?_);refine qg (fun _ hKs=>hKs _ _ ?_);clear hKs;refine qg (fun K0 hK0=>?_)
 repeat' first|refine iS hs ?_|refine rS hs ?_|refine eI _ (aI rfl ?_)|refine zB ?_|refine zA ?_|refine wG ?_|refine oJ ?_|refine nN hs (fun _ _ hs=>?_)|refine nS hs (fun _ _ hs=>?_)|refine sX hs (fun _ hs=>?_)|refine rd ?_|refine hK0 _ _ ?_|fail
 refine c261 ⟨_,hs.get 1 rfl⟩ (fun H2 hn=>?_);have hs:=qL hs hn;refine hK0 _ _ ?_;clear hK0;have h:=h H2 (qc hs);unfold crdE at h
 repeat' first|refine iS hs ?_|refine rS hs ?_|refine eI _ (aI rfl ?_)|refine zB ?_|refine zA ?_|refine wG ?_|refine oJ ?_|refine nN hs (fun _ _ hs=>?_)|refine nS hs (fun _ _ hs=>?_)|refine sX hs (fun _ hs=>?_)|(refine dI (fun hc=>?_) (fun hc=>?_) <;> try (exfalso;omega))|refine rd ?_|refine hK0 _ _ ?_|fail
 all_goals (
  (repeat (first | rw[if_pos (by omega)] at h | rw[if_neg (by omega)] at h))
  exact h)
theorem c168 {sz:List Int} {b c wl:Nat} {r:Int} (g:Gr H sz b) (h : ∀ H',HS H none' [] H' -> R (.int .i64 (crdE sz wl r)) H'):qj prog 168 [grV b sz.length c wl, .int .i64 r] H R:=by
 obtain ⟨w,hb⟩:=g.s;refine avN call168 func168 ntmps168 ?_;refine qo (adH (HS.start H none') hb) (fun H1 b1 e1 l1 hs=>?_);refine qg (fun _ hKs=>hKs _ _ ?_);clear hKs;refine qg (fun K0 hK0=>?_)
 repeat' first|refine iS hs ?_|refine rS hs ?_|refine eI _ (aI rfl ?_)|refine zB ?_|refine zA ?_|refine wG ?_|refine oJ ?_|refine nN hs (fun _ _ hs=>?_)|refine nS hs (fun _ _ hs=>?_)|refine sX hs (fun _ hs=>?_)|refine rd ?_|refine hK0 _ _ ?_|fail
 refine c263 ⟨_,hs.get 1 rfl⟩ (fun H2 z hn hz=>?_);have hs:=qL hs hn;clear hn;have h:=h H2 (qc hs);unfold crdE at h;by_cases h0:cntF sz wl=0
 ·rw[h0]
  repeat' first|refine iS hs ?_|refine rS hs ?_|refine eI _ (aI rfl ?_)|refine zB ?_|refine zA ?_|refine wG ?_|refine oJ ?_|refine nN hs (fun _ _ hs=>?_)|refine nS hs (fun _ _ hs=>?_)|refine sX hs (fun _ hs=>?_)|refine rd ?_|refine hK0 _ _ ?_|fail
  all_goals (
   (repeat (first | rw[if_pos (by omega)] at h | rw[if_neg (by omega)] at h))
   exact h)
 ·have hz:=hz h0
  subst hz;rw[decide_eq_true (show cntF sz wl≠0 from h0)]
  repeat' first|refine iS hs ?_|refine rS hs ?_|refine eI _ (aI rfl ?_)|refine zB ?_|refine zA ?_|refine wG ?_|refine oJ ?_|refine nN hs (fun _ _ hs=>?_)|refine nS hs (fun _ _ hs=>?_)|refine sX hs (fun _ hs=>?_)|(refine dI (fun hc=>?_) (fun hc=>?_) <;> try (exfalso;omega))|refine rd ?_|refine hK0 _ _ ?_|fail
  all_goals (
   (repeat (first | rw[if_pos (by omega)] at h | rw[if_neg (by omega)] at h))
   exact h)
end Go.Af.Tryz
namespace Go.Af.Tryz
open Go Go.Proofs Tryz
attribute [local irreducible] awp qj qI qK qE qm isCells ql qi qB qx qh roundEnd
variable {H:List Blk}
variable {R:Value->List Blk->Prop}

def quoF (g:List Int) (x:Int):Int:=g.foldr (fun m y=>y.tdiv m) x
def coF:List Int->Int->List Int
 | [],_=>[]
 | m::r,x=>(quoF r x).tmod m::coF r x
theorem zT (g:List Int) (x:Int):(coF g x).length=g.length:=by induction g with
 | nil=>rfl
 | cons m r ih=>simp[coF,ih]
theorem tdiv_le {r s:Int} (h:0<=r) (hs:1<=s):0<=r.tdiv s/\r.tdiv s<=r:=by
 rw[Int.tdiv_eq_ediv_of_nonneg h];exact⟨Int.ediv_nonneg h (by omega),Int.ediv_le_self _ h⟩
theorem UZ {r:Int} (h:0<=r) : ∀ {g:List Int} (_ : ∀ m∈g,1<=m),0<=quoF g r/\quoF g r<=r
 | [],_=>⟨h,Int.le_refl _⟩
 | m::g,hg=>by
   have ih:=UZ h (g:=g) (fun m hm=>hg m (by simp[hm]));have:=tdiv_le ih.1 (hg m (by simp));exact⟨this.1,Int.le_trans this.2 ih.2⟩
theorem yu {sz:List Int} (h:rngL sz=true) : ∀ m∈sz,1<=m/\m<=64:=fun m hm=>by
 have:=List.all_eq_true.1 h m hm
 simpa using this
theorem qq0 {g:List Int} {i:Nat} (hi:i<g.length) (x:Int):(List.replicate (i+1) 0++coF (g.drop (i+1)) x).set i ((quoF (g.drop (i+1)) x).tmod g[i]!)=List.replicate i 0++coF (g.drop i) x:=by
 have hd:g.drop i=g[i]! :: g.drop (i+1):=by rw[getElem!_pos g i hi];exact List.drop_eq_getElem_cons hi
 rw[hd,List.replicate_succ',List.append_assoc,List.set_append_right _ _ (by simp)];simp[coF]
theorem UY {g:List Int} {i:Nat} (hi:i<g.length) (x:Int):quoF (g.drop i) x=(quoF (g.drop (i+1)) x).tdiv g[i]! := by
 have hd:g.drop i=g[i]! :: g.drop (i+1):=by rw[getElem!_pos g i hi];exact List.drop_eq_getElem_cons hi
 rw[hd];rfl

theorem c167 {sz:List Int} {b c wl:Nat} {r:Int} (g:Gr H sz b) (hg:rngL sz=true) (hl:sz.length<=4) (hr:0<=r/\r<=64) (h : ∀ H' k,HS H none' [(true,k,rw' (coF sz r))] H' -> R (sv k sz.length) H'):qj prog 167 [grV b sz.length c wl, .int .i64 r] H R:=by
 obtain ⟨w,hb⟩:=g.s;have ha:=yu hg;refine avN call167 func167 ntmps167 ?_;refine qo (adH (HS.start H none') hb) (fun H1 b1 e1 l1 hs=>?_);refine qo hs (fun H1 b2 e2 l2 hs=>?_);refine qg (fun _ hKs=>hKs _ _ ?_);clear hKs;refine qg (fun K0 hK0=>?_)
 repeat' first|refine iS hs ?_|refine rS hs ?_|refine eI _ (aI rfl ?_)|refine zB ?_|refine zA ?_|refine wG ?_|refine oJ ?_|refine nN hs (fun _ _ hs=>?_)|refine nS hs (fun _ _ hs=>?_)|refine sX hs (fun _ hs=>?_)|refine hK0 _ _ ?_|fail
 refine Exists.intro sz.length (Exists.intro sz.length (And.intro ⟨rfl,rfl⟩ (And.intro ⟨Nat.le_refl _, ?_⟩ (Exists.intro _ (And.intro rfl ?_)))))
 ·show sz.length*9<=_
  omega
 refine qo hs (fun H1 k e3 l3 hs=>?_);refine qo hs (fun H1 b4 e4 l4 hs=>?_);refine vN hs 0 rfl [sv k sz.length] rfl rfl (Nat.le_of_ble_eq_true rfl) rfl (fun H1 e5 hs=>?_);refine hK0 _ _ ?_;clear hK0 K0 e1 l1 e2 l2 e3 l3 e4 l4 e5;refine qg (fun K0 hK0=>?_)
 repeat' first|refine iS hs ?_|refine rS hs ?_|refine eI _ (aI rfl ?_)|refine zB ?_|refine zA ?_|refine wG ?_|refine oJ ?_|refine nN hs (fun _ _ hs=>?_)|refine nS hs (fun _ _ hs=>?_)|refine sX hs (fun _ hs=>?_)|refine hK0 _ _ ?_|fail
 refine avN call262 func262 ntmps262 ?_;refine qo hs (fun H1 b5 e5 l5 hs=>?_);refine qg (fun _ hKs=>hKs _ _ ?_);clear hKs;refine hK0 _ _ ?_;clear hK0 K0 e5 l5;refine qo hs (fun H1 b6 e6 l6 hs=>?_);generalize hlp:Blk.loop LoopState.ready none _ _ _ _ _=lp at hs;refine avN call311 func311 ntmps311 ?_;refine qg (fun K0 hK0=>?_)
 repeat' first|refine iS hs ?_|refine rS hs ?_|refine eI _ (aI rfl ?_)|refine zB ?_|refine zA ?_|refine wG ?_|refine oJ ?_|refine nN hs (fun _ _ hs=>?_)|refine nS hs (fun _ _ hs=>?_)|refine sX hs (fun _ hs=>?_)|refine hK0 _ _ ?_|fail
 clear hK0 K0 e6 l6
 have hs0:HS H none' [(true,b6,lp),(true,b5, .cells true 1 [sv b sz.length]),(true,b4, .cells true 1 [sv k sz.length]),(true,k, .cells true 1 (ints (List.replicate sz.length 0++coF (sz.drop sz.length) r))),(true,b2, .cells true 1 [.int .i64 (quoF (sz.drop sz.length) r)]),(false,b, .cells w 1 (ints sz))] H1:=by
  have e:ints (List.replicate sz.length 0++coF (sz.drop sz.length) r)=vS sz.length [.int .i64 0]:=by
   rw[List.drop_length];simp[coF,vS,ints]
  rw[e,List.drop_length];exact pkH hs [0,1,2,3,4,6]
 clear hs
 refine qf (α := List Blk × Nat) tok (fun z=>HS H none' [(true,b6,lp),(true,b5, .cells true 1 [sv b sz.length]),(true,b4, .cells true 1 [sv k sz.length]),(true,k, .cells true 1 (ints (List.replicate z.2 0++coF (sz.drop z.2) r))),(true,b2, .cells true 1 [.int .i64 (quoF (sz.drop z.2) r)]),(false,b, .cells w 1 (ints sz))] z.1/\z.2<=sz.length)
  (fun z=>[(0, .func (.yield b6) #[] #[]),(1, .pointer (some ⟨b5,0,none⟩)),(3, .int .i64 ((z.2:Int)-1))]) (fun z=>z.1) (fun z=>z.2) (H1,sz.length) ⟨hs0,Nat.le_refl _⟩ (Or.inl ⟨⟨rfl,rfl,rfl,trivial⟩,rfl⟩) ?_
 clear hs0;rintro ⟨H1,j⟩ ⟨hs,hj⟩;simp only at hs hj;refine And.intro (fun hc=>?_) (fun hc=>?_)
 ·have hj0:0<j:=by simp at hc;omega
  clear hc;obtain ⟨i,rfl⟩ : ∃ i,j=i+1:=⟨j-1,by omega⟩;have hi:i<sz.length:=by omega
  have hm:=ha _ (List.getElem_mem hi);rw[<- getElem!_pos sz i hi] at hm;have hq:=UZ hr.1 (g:=sz.drop (i+1)) (fun m hm=>(ha m (List.mem_of_mem_drop hm)).1);have hq2:=tdiv_le hq.1 hm.1;have es:=UY hi r;have ec:=qq0 hi r;generalize quoF (sz.drop (i+1)) r=q at hq hq2 es ec hs;have hm0:sz[i]! ≠ 0:=by omega
  have hq3:I64 (q.tdiv sz[i]!):=by unfold I64;omega
  refine qg (fun K0 hK0=>?_);refine qF (hs.get 1 rfl) ⟨_,rfl, ?_⟩;refine qO (hs.get 5 rfl) ⟨i,by omega,hi, ?_⟩;refine qF (hs.get 5 rfl) (vM hi ?_);subst hlp;refine xE tok (hs.get 0 rfl) ?_;refine wM hs 0 rfl (fun H2 hs=>?_);refine qp tok mx [0,0,0,0,12,0,0,96,31,287,1023] [false,true,true,true,true,true,true,true,false,false,false] (.first 0 (.first 1 (.first 2 (.first 3 (.first 4 (.first 6 (.first 8 (.alt 5 (.first 7 (.first 9 (.first 10 .done))) (.alt 9 (.first 5 (.first 7 (.first 10 .done))) .no))))))))) (by kernel_rfl) ?_;refine qw (fun K1 hK1=>?_);refine qF (hs.get 2 rfl) ⟨_,rfl, ?_⟩;refine qF (hs.get 4 rfl) ⟨_,rfl, ?_⟩;refine⟨hm0,Exists.intro _ (And.intro rfl ?_)⟩;refine qO (hs.get 3 rfl) ⟨i,by omega,hi, ?_⟩
  have e1:(ints (List.replicate (i+1) 0++coF (sz.drop (i+1)) r)).set (0+i*1) (.int .i64 (q.tmod sz[i]!))=ints (List.replicate i 0++coF (sz.drop i) r):=by
   rw[Nat.zero_add,Nat.mul_one,ints_set,ec]
  have e2:0+i*1+1<=(ints (List.replicate (i+1) 0++coF (sz.drop (i+1)) r)).length:=by rw[qU,List.length_append,List.length_replicate,zT,List.length_drop];omega
  refine And.intro ?_ (And.intro ?_ trivial)
  ·refine qF (hs.get 4 rfl) ⟨_,rfl, ?_⟩
   refine⟨hm0,Or.inl ⟨_,rfl,hq3, ?_⟩⟩;refine vN hs 3 rfl (ints (List.replicate i 0++coF (sz.drop i) r)) rfl rfl e2 e1 (fun H3 e3 hs=>?_);refine vN hs 4 rfl [.int .i64 (quoF (sz.drop i) r)] rfl rfl (Nat.le_of_ble_eq_true rfl) (by rw[es];rfl) (fun H4 e4 hs=>?_);refine hK1 _ _ ?_;clear hK1;refine zJ hs 0 rfl (fun H5 hs=>?_);refine hK0 _ _ ?_;clear hK0;refine And.intro (fun h=>absurd h (by decide)) (fun _=>?_);refine Or.inl ⟨(i:Int)-1,by omega,by unfold I64;omega, ?_⟩;exact⟨(H5,i),⟨hs,by simp only;omega⟩,by simp only;omega,Or.inl ⟨⟨rfl,rfl,rfl,trivial⟩,rfl⟩⟩
  ·refine vN hs 3 rfl (ints (List.replicate i 0++coF (sz.drop i) r)) rfl rfl e2 e1 (fun H3 e3 hs=>?_)
   refine qF (hs.get 4 rfl) ⟨_,rfl, ?_⟩;refine⟨hm0,Or.inl ⟨_,rfl,hq3, ?_⟩⟩;refine vN hs 4 rfl [.int .i64 (quoF (sz.drop i) r)] rfl rfl (Nat.le_of_ble_eq_true rfl) (by rw[es];rfl) (fun H4 e4 hs=>?_);refine hK1 _ _ ?_;clear hK1;refine zJ hs 0 rfl (fun H5 hs=>?_);refine hK0 _ _ ?_;clear hK0;refine And.intro (fun h=>absurd h (by decide)) (fun _=>?_);refine Or.inl ⟨(i:Int)-1,by omega,by unfold I64;omega, ?_⟩;exact⟨(H5,i),⟨hs,by simp only;omega⟩,by simp only;omega,Or.inl ⟨⟨rfl,rfl,rfl,trivial⟩,rfl⟩⟩
 ·have hj0:j=0:=by simp at hc;omega
  subst hj0;subst hlp;clear hc;refine zH hs 0 rfl (by intro h;cases h) (fun H2 hs=>?_);refine qF (hs.get 1 rfl) ⟨_,rfl, ?_⟩;exact h H2 k (pkH hs [2])
theorem c169 {sz:List Int} {b c wl:Nat} {r:Int} (g:Gr H sz b) (hg:rngL sz=true) (hl:sz.length<=4) (hr:0<=r/\r<=64) (h : ∀ H' k,HS H none' [(true,k,rw' (coF sz r))] H' -> R (sv k sz.length) H'):qj prog 169 [grV b sz.length c wl, .int .i64 r] H R:=by
 obtain ⟨w,hb⟩:=g.s;have ha:=yu hg;refine avN call169 func169 ntmps169 ?_;refine qo (adH (HS.start H none') hb) (fun H1 b1 e1 l1 hs=>?_);refine qg (fun _ hKs=>hKs _ _ ?_);clear hKs;refine qg (fun K0 hK0=>?_)
 repeat' first|refine iS hs ?_|refine rS hs ?_|refine eI _ (aI rfl ?_)|refine zB ?_|refine zA ?_|refine wG ?_|refine oJ ?_|refine nN hs (fun _ _ hs=>?_)|refine nS hs (fun _ _ hs=>?_)|refine sX hs (fun _ hs=>?_)|refine hK0 _ _ ?_|fail
 refine Exists.intro sz.length (Exists.intro sz.length (And.intro ⟨rfl,rfl⟩ (And.intro ⟨Nat.le_refl _, ?_⟩ (Exists.intro _ (And.intro rfl ?_)))))
 ·show sz.length*9<=_
  omega
 refine qo hs (fun H1 k e3 l3 hs=>?_);refine hK0 _ _ ?_;clear hK0 K0;refine Or.inl ⟨(sz.length:Int)-1,rfl,by unfold I64;omega, ?_⟩
 have hs0:HS H none' [(true,k, .cells true 1 (ints (List.replicate sz.length 0++coF (sz.drop sz.length) r))),(true,b1, .cells true 1 (grC b sz.length c wl)),(false,b, .cells w 1 (ints sz))] H1:=by
  have e:ints (List.replicate sz.length 0++coF (sz.drop sz.length) r)=vS sz.length [.int .i64 0]:=by
   rw[List.drop_length];simp[coF,vS,ints]
  rw[e];exact pkH hs [0,1,2]
 clear hs
 refine qf (α := List Blk × Nat) tok (fun z=>HS H none' [(true,k, .cells true 1 (ints (List.replicate z.2 0++coF (sz.drop z.2) r))),(true,b1, .cells true 1 (grC b sz.length c wl)),(false,b, .cells w 1 (ints sz))] z.1/\z.2<=sz.length)
  (fun z=>[(1, .int .i64 (quoF (sz.drop z.2) r)),(2, .pointer (some ⟨b1,0,none⟩)),(5,sv k sz.length),(6, .int .i64 ((z.2:Int)-1))]) (fun z=>z.1) (fun z=>z.2) (H1,sz.length) ⟨hs0,Nat.le_refl _⟩ (Or.inl ⟨⟨by rw[List.drop_length];rfl,rfl,rfl,rfl,trivial⟩,rfl⟩) ?_
 clear hs0;rintro ⟨H1,j⟩ ⟨hs,hj⟩;simp only at hs hj;refine And.intro (fun hc=>?_) (fun hc=>?_)
 ·have hj0:0<j:=by simp at hc;omega
  clear hc;obtain ⟨i,rfl⟩ : ∃ i,j=i+1:=⟨j-1,by omega⟩;have hi:i<sz.length:=by omega
  have hm:=ha _ (List.getElem_mem hi);rw[<- getElem!_pos sz i hi] at hm;have hq:=UZ hr.1 (g:=sz.drop (i+1)) (fun m hm=>(ha m (List.mem_of_mem_drop hm)).1);have hq2:=tdiv_le hq.1 hm.1;have es:=UY hi r;have ec:=qq0 hi r;simp only;generalize quoF (sz.drop (i+1)) r=q at hq hq2 es ec hs;have hm0:sz[i]! ≠ 0:=by omega
  have hq3:I64 (q.tdiv sz[i]!):=by unfold I64;omega
  refine qg (fun K0 hK0=>?_);refine⟨by decide,qO (hs.get 1 rfl) ?_⟩;refine qF (hs.get 1 rfl) ⟨_,rfl, ?_⟩;refine qO (hs.get 2 rfl) ⟨i,by omega,hi, ?_⟩;refine qF (hs.get 2 rfl) (vM hi ?_);refine⟨hm0,Exists.intro _ (And.intro rfl ?_)⟩;refine qO (hs.get 0 rfl) ⟨i,by omega,hi, ?_⟩;refine vN hs 0 rfl (ints (List.replicate i 0++coF (sz.drop i) r)) rfl rfl (by rw[qU,List.length_append,List.length_replicate,zT,List.length_drop];show 0+i*1+1<=_;omega) ?_ (fun H3 e3 hs=>?_)
  ·show (ints _).set (0+i*1) (.int .i64 (q.tmod sz[i]!))=_
   rw[Nat.zero_add,Nat.mul_one,ints_set,ec]
  refine hK0 _ _ ?_;clear hK0;refine⟨by decide,qO (hs.get 1 rfl) ?_⟩;refine qF (hs.get 1 rfl) ⟨_,rfl, ?_⟩;refine qO (hs.get 2 rfl) ⟨i,by omega,hi, ?_⟩;refine qF (hs.get 2 rfl) (vM hi ?_);refine⟨hm0,Or.inl ⟨_,rfl,hq3, ?_⟩⟩;refine Or.inl ⟨(i:Int)-1,by omega,by unfold I64;omega, ?_⟩;exact⟨(H3,i),⟨hs,by simp only;omega⟩,by simp only;omega,Or.inl ⟨⟨by simp only;rw[es];rfl,rfl,rfl,rfl,trivial⟩,rfl⟩⟩
 ·have hj0:j=0:=by simp at hc;omega
  subst hj0;clear hc;exact h H1 k (pkH hs [0])
theorem c86 {sz:List Int} {b c wl:Nat} {r:Int} (g:Gr H sz b) (h : ∀ H' v,HS H none' [] H' -> R (.tuple ⟨[v, .int .i64 (crdE sz wl r)]⟩) H'):qj prog 86 [grV b sz.length c wl, .int .i64 r] H R:=by
 obtain ⟨w,hb⟩:=g.s;refine avN call86 func86 ntmps86 ?_;refine qo (adH (HS.start H none') hb) (fun H1 b1 e1 l1 hs=>?_);refine qg (fun _ hKs=>hKs _ _ ?_);clear hKs;refine qg (fun K0 hK0=>?_)
 repeat' first|refine iS hs ?_|refine rS hs ?_|refine eI _ (aI rfl ?_)|refine zB ?_|refine zA ?_|refine wG ?_|refine oJ ?_|refine nN hs (fun _ _ hs=>?_)|refine nS hs (fun _ _ hs=>?_)|refine sX hs (fun _ hs=>?_)|refine hK0 _ _ ?_|fail
 refine c166 ⟨_,hs.get 1 rfl⟩ (kNo hs (fun H2 hs=>?_));refine hK0 _ _ ?_;clear hK0;refine And.intro (fun hc=>?_) (fun hc=>?_)
 ·exact h H2 _ (qc hs)
 ·have hc:crdE sz wl r=0:=by simpa using hc
  have hcnt:cntF sz wl≠0/\(0<=r/\r<cntF sz wl):=by
   unfold crdE at hc;split at hc
   ·cases hc
   ·rename_i h0
    split at hc
    ·cases hc
    ·rename_i h1
     exact⟨h0,by omega⟩
  have hle:=(Ux sz wl).2
  obtain ⟨h4,hg⟩:sz.length<=4/\rngL sz=true:=by
   have h0:=hcnt.1;unfold cntF at h0;split at h0
   ·exact absurd rfl h0
   ·rename_i hn
    refine⟨by omega,((Zc sz 1 (by omega)).1.1 ?_).1⟩
    cases hk:okL sz 1 with
    | true=>rfl
    | false=>exact absurd (.inr (.inr (.inr hk))) hn
  rw[hc] at h;refine qg (fun K0 hK0=>?_)
  repeat' first|refine iS hs ?_|refine rS hs ?_|refine eI _ (aI rfl ?_)|refine zB ?_|refine zA ?_|refine wG ?_|refine oJ ?_|refine nN hs (fun _ _ hs=>?_)|refine nS hs (fun _ _ hs=>?_)|refine sX hs (fun _ hs=>?_)|refine hK0 _ _ ?_|fail
  refine c167 ⟨_,hs.get 1 rfl⟩ hg h4 ⟨hcnt.2.1,by omega⟩ (fun H3 k hk=>?_);have hs:=qL hs (qc hk);refine hK0 _ _ ?_;exact h H3 _ (qc hs)
theorem c90 {sz:List Int} {b c wl:Nat} {r:Int} (g:Gr H sz b) (h : ∀ H' v,HS H none' [] H' -> R (.tuple ⟨[v, .int .i64 (crdE sz wl r)]⟩) H'):qj prog 90 [grV b sz.length c wl, .int .i64 r] H R:=by
 obtain ⟨w,hb⟩:=g.s;refine avN call90 func90 ntmps90 ?_;refine qo (adH (HS.start H none') hb) (fun H1 b1 e1 l1 hs=>?_);refine qg (fun _ hKs=>hKs _ _ ?_);clear hKs;refine qg (fun K0 hK0=>?_)
 repeat' first|refine iS hs ?_|refine rS hs ?_|refine eI _ (aI rfl ?_)|refine zB ?_|refine zA ?_|refine wG ?_|refine oJ ?_|refine nN hs (fun _ _ hs=>?_)|refine nS hs (fun _ _ hs=>?_)|refine sX hs (fun _ hs=>?_)|refine hK0 _ _ ?_|fail
 refine c168 ⟨_,hs.get 1 rfl⟩ (kNo hs (fun H2 hs=>?_));refine hK0 _ _ ?_;clear hK0;refine And.intro (fun hc=>?_) (fun hc=>?_)
 ·exact h H2 _ (qc hs)
 ·have hc:crdE sz wl r=0:=by simpa using hc
  have hcnt:cntF sz wl≠0/\(0<=r/\r<cntF sz wl):=by
   unfold crdE at hc;split at hc
   ·cases hc
   ·rename_i h0
    split at hc
    ·cases hc
    ·rename_i h1
     exact⟨h0,by omega⟩
  have hle:=(Ux sz wl).2
  obtain ⟨h4,hg⟩:sz.length<=4/\rngL sz=true:=by
   have h0:=hcnt.1;unfold cntF at h0;split at h0
   ·exact absurd rfl h0
   ·rename_i hn
    refine⟨by omega,((Zc sz 1 (by omega)).1.1 ?_).1⟩
    cases hk:okL sz 1 with
    | true=>rfl
    | false=>exact absurd (.inr (.inr (.inr hk))) hn
  rw[hc] at h;refine qg (fun K0 hK0=>?_)
  repeat' first|refine iS hs ?_|refine rS hs ?_|refine eI _ (aI rfl ?_)|refine zB ?_|refine zA ?_|refine wG ?_|refine oJ ?_|refine nN hs (fun _ _ hs=>?_)|refine nS hs (fun _ _ hs=>?_)|refine sX hs (fun _ hs=>?_)|refine hK0 _ _ ?_|fail
  refine c169 ⟨_,hs.get 1 rfl⟩ hg h4 ⟨hcnt.2.1,by omega⟩ (fun H3 k hk=>?_);have hs:=qL hs (qc hk);refine hK0 _ _ ?_;exact h H3 _ (qc hs)
end Go.Af.Tryz
namespace Go.Af.Tryz
open Go Go.Proofs Tryz
attribute [local irreducible] awp qj qI qK qE qm isCells ql qi qB qx qh roundEnd
variable {H:List Blk}
variable {R:Value->List Blk->Prop}

theorem c108 {b:Nat} {w:Bool} {xs:List Int} {x:Int} (hb:bget H b=some (.cells w 1 (ints xs))) (hl:xs.length<=1000000) (h : ∀ z:Int,decide (0<=z)=decide (x∈xs)->R (.int .i64 z) H):qj prog 108 [sv b xs.length, .int .i64 x] H R:=by
 refine avN call108 func108 ntmps108 ?_;refine qf (α := Nat) tok (fun i=>i<=xs.length/\x ∉ xs.take i) (fun i=>[(0,sv b xs.length),(1, .int .i64 x),(7, .int .i64 (xs.length:Int)),(8, .int .i64 (i:Int))]) (fun _=>H) (fun i=>xs.length-i) 0 ⟨Nat.zero_le _,by simp⟩ (Or.inl ⟨⟨rfl,rfl,rfl,rfl,trivial⟩,rfl⟩) ?_;rintro i ⟨hi,hn⟩;refine And.intro (fun hc=>?_) (fun hc=>?_)
 ·have hlt:i<xs.length:=by simp at hc;omega
  refine qO hb ⟨i,rfl,hlt, ?_⟩;refine qF hb (vM hlt ?_);refine And.intro (fun he=>?_) (fun he=>?_)
  ·have he:x=xs[i]! := by simpa using he
   have hm:x∈xs:=by rw[he,getElem!_pos xs i hlt];exact List.getElem_mem _
   exact h i (by rw[decide_eq_true hm,decide_eq_true (by omega)])
  ·have he : ¬ x=xs[i]! := by simpa using he
   refine Or.inl ⟨((i+1:Nat):Int),by simp,by unfold I64;omega, ?_⟩;refine⟨i+1,⟨hlt, ?_⟩,by omega,Or.inl ⟨⟨rfl,rfl,rfl,rfl,trivial⟩,rfl⟩⟩;rw[List.take_succ_eq_append_getElem hlt,List.mem_append];rintro (h | h)
   ·exact hn h
   ·simp only[List.mem_singleton] at h
    exact he (by rw[h,getElem!_pos xs i hlt])
 ·have hge:i=xs.length:=by simp at hc;omega
  subst hge;rw[List.take_length] at hn;exact h (-1) (by rw[decide_eq_false hn];rfl)
theorem c56 {b:Nat} {w:Bool} {xs:List Int} {x:Int} (hb:bget H b=some (.cells w 1 (ints xs))) (hl:xs.length<=1000000) (h:R (.bool (decide (x∈xs))) H):qj prog 56 [sv b xs.length, .int .i64 x] H R:=by
 refine avN call56 func56 ntmps56 ?_;refine c108 hb hl (fun z hz=>?_);rw[<- hz] at h;exact h

def gzF (t:Tk):Int:=IntKind.i64.wrap ((t.sz.length:Int)+(t.ws.length:Int))
theorem xu0 {t:Tk} (h:t.sz.length+t.ws.length<=9223372036854775807):gzF t=(t.sz.length:Int)+(t.ws.length:Int):=wrap_i64 (by unfold I64;omega)
def chkF (t:Tk):Int :=
 if t.op<1\/11<t.op\/(¬ (t.op=1\/t.op=2\/t.op=5\/t.op=6)/\t.ro≠0)\/(t.op≠11/\0<gzF t) then 2
 else if t.pr<1\/64<t.pr\/t.pa<1\/16<t.pa\/(t.op=10/\t.pa≠1)\/t.ro<0\/t.pr<=t.ro then 3
 else if (t.op=5\/t.op=6\/t.op=7\/t.op=9\/t.op=8\/t.op=11)/\256<t.pr*t.pa then 9
 else if t.op=11/\(crdE t.sz t.ws.length (t.pr-1)≠0\/crdE t.sz t.ws.length t.pr=0) then 26 else 0
theorem Ym (a b:Int):(1<=a->a<=64->1<=b->b<=16->1<=a*b/\a*b<=1024)/\(a=1->a*b=b):=by
 refine⟨fun h1 h2 h3 h4=>?_,fun h=>by subst h;omega⟩;have p:1*1<=a*b:=Int.mul_le_mul h1 h3 (by omega) (by omega);have q:a*b<=64*16:=Int.mul_le_mul h2 h4 (by omega) (by omega);omega
theorem mem_root (x:Int):decide (x∈[(1:Int),2,5,6])=decide (x=1\/x=2\/x=5\/x=6):=by simp
theorem xl0 (x:Int):decide (x∈[(5:Int),6,7,9,8,11])=decide (x=5\/x=6\/x=7\/x=9\/x=8\/x=11):=by simp

theorem c31 {t:Tk} {b c:Nat} (g:Gr H t.sz b) (hl:t.sz.length<=9223372036854775807) (hw:t.ws.length<=9223372036854775807) (h : ∀ H',HS H none' [] H' -> R (.int .i64 (chkF t)) H'):qj prog 31 [tkV t b c] H R:=by
 obtain ⟨w,hb⟩:=g.s;refine avN call31 func31 ntmps31 ?_;refine qo (adH (HS.start H none') hb) (fun H1 b1 e1 l1 hs=>?_);refine qg (fun _ hKs=>hKs _ _ ?_);clear hKs;refine qg (fun K0 hK0=>?_);refine And.intro (by decide) ?_;refine QD hs (fun H2 b2 e2 l2 hs=>?_)
 repeat' first|refine iS hs ?_|refine rS hs ?_|refine eI _ (aI rfl ?_)|refine zB ?_|refine zA ?_|refine wG ?_|refine oJ ?_|refine nN hs (fun _ _ hs=>?_)|refine nS hs (fun _ _ hs=>?_)|refine sX hs (fun _ hs=>?_)|refine hK0 _ _ ?_|fail
 refine c56 (xs := [1,2,5,6]) (hs.get 0 rfl) (by decide) ?_;rw[mem_root];refine hK0 _ _ ?_;clear hK0;refine qg (fun K0 hK0=>?_);refine And.intro (by decide) ?_;refine QD hs (fun H3 b3 e3 l3 hs=>?_)
 repeat' first|refine iS hs ?_|refine rS hs ?_|refine eI _ (aI rfl ?_)|refine zB ?_|refine zA ?_|refine wG ?_|refine oJ ?_|refine nN hs (fun _ _ hs=>?_)|refine nS hs (fun _ _ hs=>?_)|refine sX hs (fun _ hs=>?_)|refine hK0 _ _ ?_|fail
 refine c56 (xs := [5,6,7,9,8,11]) (hs.get 0 rfl) (by decide) ?_;rw[xl0];refine hK0 _ _ ?_;clear hK0 e1 l1 e2 l2 e3 l3;have hs:=pkH hs [2,3] (L' := [(true,b1, .cells true 1 (tkC t b c)),(false,b, .cells w 1 (ints t.sz))]);obtain ⟨hm1,hm2⟩:=Ym t.pr t.pa;obtain ⟨gz,hgz⟩ : ∃ gz,gzF t=gz:=⟨_,rfl⟩;unfold chkF at h;rw[hgz] at h;unfold gzF at hgz;have h' := h
 replace h:=h H3 (qc hs)
 repeat' first|refine zQw ?_|intro _ _ hs|intro K0 hK0|intro hc|refine dI ?_ ?_
 all_goals try (
  (repeat (first | rw[if_pos (by omega)] at h | rw[if_neg (by omega)] at h))
  exact h;done)
 any_goals (
  refine Or.inr ?_;rw[hgz]
  repeat' first|refine zQw ?_|intro _ _ hs|intro K0 hK0|intro hc|refine dI ?_ ?_
  all_goals try (
   (repeat (first | rw[if_pos (by omega)] at h | rw[if_neg (by omega)] at h))
   exact h;done)
  )
 clear h;refine c86 ⟨_,hs.get 1 rfl⟩ (fun H4 v1 hn=>?_);have hs:=qL hs hn;clear hn
 repeat' first|refine zPw ?_|intro _ _ hs|intro K0 hK0
 refine c86 ⟨_,hs.get 1 rfl⟩ (fun H5 v2 hn=>?_);have hs:=qL hs hn;clear hn;have h:=h' H5 (qc hs);clear h'
 repeat' first|refine zQw ?_|intro _ _ hs|intro K0 hK0|intro hc|refine dI ?_ ?_
 all_goals try (
  (repeat (first | rw[if_pos (by omega)] at h | rw[if_neg (by omega)] at h))
  exact h;done)
end Go.Af.Tryz
