/- A part of the proof. -/
import Derived.Test.YtmnjcogpchodhaaGreatMS
import Derived.Test.YtmnjcogpchodhaaGreatMCA
set_option linter.all false
set_option maxHeartbeats 4000000
set_option maxRecDepth 100000
namespace Go.Af.Tryz
open Go Go.Proofs
attribute [local irreducible] awp qj qJ qL qC qo isCells qx qp qA qw qh roundEnd

abbrev none' : Nat->Prop:=fun _=>False
theorem qK {H0 H H' : List Blk} {o:Nat->Prop} {L:List (Bool × Nat × Blk)} (hs:HS H0 o L H) (h:HS H none' [] H'):HS H0 o L H' := hs.ext h.u.1 (fun i hi=>h.u.2 i hi (fun h=>h))
theorem kNo {H0 H:List Blk} {o:Nat->Prop} {L:List (Bool × Nat × Blk)} (hs:HS H0 o L H) {Q:List Blk->Prop} (k : ∀ H',HS H0 o L H' -> Q H') : ∀ H',HS H none' [] H' -> Q H' := fun H' hn=>k H' (qK hs hn)
theorem qc {H0 H:List Blk} {o:Nat->Prop} {L:List (Bool × Nat × Blk)} (h:HS H0 o L H):HS H0 o [] H:=h.pick [] (by decide) rfl
theorem qM {H H' : List Blk} (h:HS H none' [] H') {b:Nat} {B:Blk} (hb:bget H b=some B):bget H' b=some B:=(h.u.2 b (qI hb) (fun h=>h)).trans hb

structure Tk where
 op:Int
 pr:Int
 ro:Int
 pa:Int
 sz:List Int
 ws:List Bool
abbrev bls (xs:List Bool):List Value:=xs.map Value.bool
abbrev grC (b n c k:Nat):List Value := [sv b n,sv c k]
abbrev grV (b n c k:Nat):Value := .agg ⟨grC b n c k⟩
abbrev tkC (t:Tk) (b c:Nat):List Value := [.int .i64 t.op, .int .i64 t.pr, .int .i64 t.ro, .int .i64 t.pa,sv b t.sz.length,sv c t.ws.length]
abbrev tkV (t:Tk) (b c:Nat):Value := .agg ⟨tkC t b c⟩
structure Gr (H:List Blk) (sz:List Int) (b:Nat):Prop where
 s : ∃ w,bget H b=some (.cells w 1 (ints sz))
theorem Gr.up {H H' : List Blk} {sz:List Int} {b:Nat} (g:Gr H sz b) (h:HS H none' [] H'):Gr H' sz b:=⟨g.s.imp fun _ hb=>qM h hb⟩

/-! ### Grids -/
def mulL:List Int->Int->Int
 | [],n=>n
 | s::r,n=>mulL r (n*s)
theorem XD (s:Int) : ∀ (l:List Int) (n:Int),mulL (l ++ [s]) n=mulL l n*s
 | [],n=>rfl
 | x::l,n=>by simp only[List.cons_append,mulL];exact XD s l (n*x)
def okL:List Int->Int->Bool
 | [],_=>true
 | s::r,n=>decide (1<=s)&&decide (s<=64)&&decide (n*s<=64)&&okL r (n*s)
theorem ZI (s:Int) : ∀ (l:List Int) (n:Int),okL (l ++ [s]) n=(okL l n&&(decide (1<=s)&&decide (s<=64)&&decide (mulL l n*s<=64)))
 | [],n=>by
   simp only[List.nil_append,okL,mulL,Bool.and_true,Bool.true_and];rfl
 | x::l,n=>by simp only[List.cons_append,okL,mulL];rw[ZI s l (n*x)];simp only[Bool.and_assoc];rfl
theorem okL_pre {l:List Int} {n:Int} {k:Nat} (h:okL l n=true):okL (l.take k) n=true:=by
 induction l generalizing n k with
 | nil=>simpa using h
 | cons s r ih =>
   cases k with
   | zero=>rfl
   | succ k =>
     simp only[okL,Bool.and_eq_true,List.take_succ_cons] at h ⊢;exact⟨h.1,ih h.2⟩
theorem ZL : ∀ {l:List Int} {n:Int} (_:okL l n=true) (_:1<=n) (_:n<=64),1<=mulL l n/\mulL l n<=64
 | [],n,_,h1,h2=>⟨h1,h2⟩
 | s::l,n,h,h1,h2=>by
   simp only[okL,Bool.and_eq_true,decide_eq_true_eq] at h;obtain ⟨⟨⟨a,b⟩,c⟩,d⟩:=h;have:1*1<=n*s:=Int.mul_le_mul h1 a (by omega) (by omega);exact ZL (l:=l) (n:=n*s) d (by omega) c
theorem i64_mul {n s:Int} (h1:1<=n) (h2:n<=64) (h3:1<=s) (h4:s<=64):1<=n*s/\n*s<=4096:=by
 have a:1*1<=n*s:=Int.mul_le_mul h1 h3 (by omega) (by omega);have b:n*s<=64*64:=Int.mul_le_mul h2 h4 (by omega) (by omega);omega
def cntF (sz:List Int) (wl:Nat):Int:=if sz.length<1\/4<sz.length\/wl≠sz.length\/okL sz 1=false then 0 else mulL sz 1
theorem cntF_le (sz:List Int) (wl:Nat):0<=cntF sz wl/\cntF sz wl<=64:=by
 unfold cntF;split
 ·omega
 ·rename_i h
  have hk:okL sz 1=true:=by
   cases h' : okL sz 1 with
   | true=>rfl
   | false=>exact absurd (.inr (.inr (.inr h'))) h
  have:=ZL hk (by omega) (by omega);omega
theorem okL_bad {sz:List Int} {i:Nat} (hi:i<sz.length) (h:sz[i]! < 1\/64<sz[i]! \/ 64<mulL (sz.take i) 1*sz[i]!):okL sz 1=false:=by
 cases hk:okL sz 1 with
 | false=>rfl
 | true =>
   have:=okL_pre (k:=i+1) hk;rw[List.take_succ_eq_append_getElem hi,ZI] at this;rw[getElem!_pos sz i hi] at h;simp only[Bool.and_eq_true,decide_eq_true_eq] at this;omega
theorem okL_next {sz:List Int} {i:Nat} (hi:i<sz.length) (h:okL (sz.take i) 1=true) (h1 : ¬ sz[i]! < 1) (h2 : ¬ 64<sz[i]!) (h3 : ¬ 64<mulL (sz.take i) 1*sz[i]!):okL (sz.take (i+1)) 1=true/\mulL (sz.take (i+1)) 1=mulL (sz.take i) 1*sz[i]! := by
 rw[List.take_succ_eq_append_getElem hi,ZI,XD];rw[getElem!_pos sz i hi] at h1 h2 h3 ⊢;refine⟨?_,rfl⟩;simp only[Bool.and_eq_true,decide_eq_true_eq];exact⟨h,⟨by omega,by omega⟩,by omega⟩

theorem wI {xs:List Int} {i:Nat} {K:Value->Prop} (hi:i<xs.length) (h:K (.int .i64 xs[i]!)):Ld (ints xs) (0+i*1) K :=
 Ld_ints i xs[i]! (by omega) (by simp[hi]) h
theorem c261 {H:List Blk} {sz:List Int} {b c wl:Nat} {R:Value->List Blk->Prop} (g:Gr H sz b) (h : ∀ H',HS H none' [] H' -> R (.int .i64 (cntF sz wl)) H'):qj Tryz.prog 261 [grV b sz.length c wl] H R:=by
 obtain ⟨w,hb⟩:=g.s;refine qf tok Tryz.call261 Tryz.func261 rfl Tryz.ntmps261 rfl (by simp) ?_;refine qi ((HS.start H none').add (c:=false) hb (fun i p hi=>by simp at hi) (fun h=>by cases h)) (fun H1 b1 e1 l1 hs=>?_);refine qg (fun _ hKs=>hKs _ _ ?_);clear hKs;refine qg (fun K0 hK0=>?_)
 repeat' (first|refine iS hs ?_|refine rS hs ?_|refine eI _ (aI rfl ?_)|refine vH ?_|refine vG ?_|refine qO ?_|refine oJ ?_|refine nN hs (fun _ _ hs=>?_)|refine nS hs (fun _ _ hs=>?_)|refine sX hs (fun _ hs=>?_)|(refine dI (fun hc=>?_) (fun hc=>?_) <;> try (exfalso;omega))|refine hK0 _ _ ?_|fail)
 all_goals try (
  refine (?_:R (.int .i64 0) H1);have e:cntF sz wl=0:=by unfold cntF;rw[if_pos (by omega)]
  rw[e] at h;exact h _ (qc hs))
 have hsl:sz.length<=4:=by omega
 have hwl:wl=sz.length:=by omega
 refine qE (α := Nat) tok (fun i=>i<=sz.length/\okL (sz.take i) 1=true)
  (fun i=>[(3, .int .i64 (mulL (sz.take i) 1)),(26,sv b sz.length),(27, .int .i64 (sz.length:Int)),(28, .int .i64 (i:Int))]) (fun _=>H1) (fun i=>sz.length-i)
  0 ⟨Nat.zero_le _,by simp[okL]⟩ (Or.inl ⟨⟨rfl,rfl,rfl,rfl,trivial⟩,rfl⟩) ?_
 rintro i ⟨hi,hok⟩;have hm:=ZL hok (by omega) (by omega);generalize hm0:mulL (sz.take i) 1=m at hm;refine And.intro (fun hc=>?_) (fun hc=>?_)
 ·have hlt:i<sz.length:=by simp at hc;omega
  clear hc;have hb1:=okL_bad (i:=i) hlt;have hb2:=okL_next (i:=i) hlt hok;rw[hm0] at hb1 hb2;refine qH (hs.get 1 rfl) ⟨i,rfl,hlt, ?_⟩;refine qG (hs.get 1 rfl) (wI hlt ?_);have hmul:1<=sz[i]! -> sz[i]! <= 64->1<=m*sz[i]! /\ m*sz[i]! <= 4096:=fun a b=>i64_mul hm.1 hm.2 a b
  generalize sz[i]! = x at hb1 hb2 hmul
  repeat' (first|refine iS hs ?_|refine rS hs ?_|refine eI _ (aI rfl ?_)|refine vH ?_|refine vG ?_|refine qO ?_|refine oJ ?_|refine nN hs (fun _ _ hs=>?_)|refine nS hs (fun _ _ hs=>?_)|refine sX hs (fun _ hs=>?_)|(refine dI (fun hc=>?_) (fun hc=>?_) <;> try (exfalso;omega))|refine hK0 _ _ ?_|fail)
  all_goals try (
   refine (?_:R (.int .i64 0) H1);have e:cntF sz wl=0:=by unfold cntF;rw[if_pos (.inr (.inr (.inr (hb1 (by omega)))))]
   rw[e] at h;exact h _ (qc hs))
  obtain ⟨q1,q2⟩:=hb2 (by omega) (by omega) (by omega);exact⟨i+1,⟨hlt,q1⟩,by omega,Or.inl ⟨⟨by rw[q2];rfl,rfl,rfl,by simp[look],trivial⟩,rfl⟩⟩
 ·have hie:i=sz.length:=by simp at hc;omega
  subst hie;rw[List.take_length] at hok hm0;refine (?_:R (.int .i64 m) H1)
  have e:cntF sz wl=m:=by
   unfold cntF;rw[if_neg,hm0];rintro (h | h | h | h)
   ·omega
   ·omega
   ·omega
   ·rw[hok] at h;cases h
  rw[e] at h;exact h _ (qc hs)
end Go.Af.Tryz
namespace Go.Af.Tryz
open Go Go.Proofs
attribute [local irreducible] awp qj qJ qL qC qo isCells qx qp qA qw qh roundEnd

def rngL (l:List Int):Bool:=l.all fun s=>decide (1<=s)&&decide (s<=64)
theorem Yy : ∀ (l:List Int) (n:Int),1<=n->(okL l n=true↔rngL l=true/\(l = []\/mulL l n<=64))/\(rngL l=true->n<=mulL l n)
 | [],n,h=>⟨by simp[okL,rngL],fun _=>Int.le_refl _⟩
 | s::l,n,h=>by
   by_cases hs:1<=s/\s<=64
   ·have hn:n*1<=n*s:=Int.mul_le_mul_of_nonneg_left hs.1 (by omega)
    have ih:=Yy l (n*s) (by omega);have e1:okL (s::l) n=(decide (n*s<=64)&&okL l (n*s)):=by simp only[okL,decide_eq_true hs.1,decide_eq_true hs.2,Bool.true_and]
    have e2:rngL (s::l)=rngL l:=by simp only[rngL,List.all_cons,decide_eq_true hs.1,decide_eq_true hs.2,Bool.true_and]
    rw[e1,e2];refine⟨?_,fun hr=>by have:=ih.2 hr;simp only[mulL];omega⟩;simp only[Bool.and_eq_true,decide_eq_true_eq,ih.1,mulL,reduceCtorEq,false_or];constructor
    ·rintro ⟨h1,h2,h3⟩
     refine⟨h2, ?_⟩;rcases h3 with h3 | h3
     ·subst h3;exact h1
     ·exact h3
    ·rintro ⟨h1,h2⟩
     have:=ih.2 h1;exact⟨by omega,h1, .inr h2⟩
   ·have e1:okL (s::l) n=false:=by
     simp only[okL];by_cases h1:1<=s
     ·rw[decide_eq_false (show ¬ s<=64 by omega)];simp
     ·rw[decide_eq_false h1];simp
    have e2:rngL (s::l)=false:=by
     simp only[rngL,List.all_cons];by_cases h1:1<=s
     ·rw[decide_eq_false (show ¬ s<=64 by omega)];simp
     ·rw[decide_eq_false h1];simp
    rw[e1,e2];simp
def crdE (sz:List Int) (wl:Nat) (r:Int):Int:=if cntF sz wl=0 then 2 else if r<0\/cntF sz wl<=r then 11 else 0
theorem c166 {H:List Blk} {sz:List Int} {b c wl:Nat} {r:Int} {R:Value->List Blk->Prop} (g:Gr H sz b) (h : ∀ H',HS H none' [] H' -> R (.int .i64 (crdE sz wl r)) H'):qj Tryz.prog 166 [grV b sz.length c wl, .int .i64 r] H R:=by
 obtain ⟨w,hb⟩:=g.s;refine qf tok Tryz.call166 Tryz.func166 rfl Tryz.ntmps166 rfl (by simp) ?_;refine qi ((HS.start H none').add (c:=false) hb (fun i p hi=>by simp at hi) (fun h=>by cases h)) (fun H1 b1 e1 l1 hs=>?_);refine qg (fun _ hKs=>hKs _ _ ?_);clear hKs;refine qg (fun K0 hK0=>?_)
 repeat' (first|refine iS hs ?_|refine rS hs ?_|refine eI _ (aI rfl ?_)|refine vH ?_|refine vG ?_|refine qO ?_|refine oJ ?_|refine nN hs (fun _ _ hs=>?_)|refine nS hs (fun _ _ hs=>?_)|refine sX hs (fun _ hs=>?_)|refine rd ?_|refine hK0 _ _ ?_|fail)
 refine c261 ⟨_,hs.get 1 rfl⟩ (fun H2 hn=>?_);have hs:=qK hs hn;refine hK0 _ _ ?_;clear hK0;have h:=h H2 (qc hs);unfold crdE at h
 repeat' (first|refine iS hs ?_|refine rS hs ?_|refine eI _ (aI rfl ?_)|refine vH ?_|refine vG ?_|refine qO ?_|refine oJ ?_|refine nN hs (fun _ _ hs=>?_)|refine nS hs (fun _ _ hs=>?_)|refine sX hs (fun _ hs=>?_)|(refine dI (fun hc=>?_) (fun hc=>?_) <;> try (exfalso;omega))|refine rd ?_|refine hK0 _ _ ?_|fail)
 all_goals (
  (repeat (first | rw[if_pos (by omega)] at h | rw[if_neg (by omega)] at h))
  exact h)
end Go.Af.Tryz
namespace Go.Af.Tryz
open Go Go.Proofs
attribute [local irreducible] awp qj qJ qL qC qo isCells qx qp qA qw qh roundEnd

def quoF (g:List Int) (x:Int):Int:=g.foldr (fun m y=>y.tdiv m) x
def coF:List Int->Int->List Int
 | [],_=>[]
 | m::r,x=>(quoF r x).tmod m::coF r x
theorem yR (g:List Int) (x:Int):(coF g x).length=g.length:=by induction g with
 | nil=>rfl
 | cons m r ih=>simp[coF,ih]
theorem tdiv_le {r s:Int} (h:0<=r) (hs:1<=s):0<=r.tdiv s/\r.tdiv s<=r:=by
 rw[Int.tdiv_eq_ediv_of_nonneg h];exact⟨Int.ediv_nonneg h (by omega),Int.ediv_le_self _ h⟩
theorem quo_le {r:Int} (h:0<=r) : ∀ {g:List Int} (_ : ∀ m∈g,1<=m),0<=quoF g r/\quoF g r<=r
 | [],_=>⟨h,Int.le_refl _⟩
 | m::g,hg=>by
   have ih:=quo_le h (g:=g) (fun m hm=>hg m (by simp[hm]));have:=tdiv_le ih.1 (hg m (by simp));exact⟨this.1,Int.le_trans this.2 ih.2⟩
theorem xx {sz:List Int} (h:rngL sz=true) : ∀ m∈sz,1<=m/\m<=64:=fun m hm=>by
 have:=List.all_eq_true.1 h m hm
 simpa using this
theorem coF_step {g:List Int} {i:Nat} (hi:i<g.length) (x:Int):(List.replicate (i+1) 0++coF (g.drop (i+1)) x).set i ((quoF (g.drop (i+1)) x).tmod g[i]!)=List.replicate i 0++coF (g.drop i) x:=by
 have hd:g.drop i=g[i]! :: g.drop (i+1):=by rw[getElem!_pos g i hi];exact List.drop_eq_getElem_cons hi
 rw[hd,List.replicate_succ',List.append_assoc,List.set_append_right _ _ (by simp)];simp[coF]
theorem quo_step {g:List Int} {i:Nat} (hi:i<g.length) (x:Int):quoF (g.drop i) x=(quoF (g.drop (i+1)) x).tdiv g[i]! := by
 have hd:g.drop i=g[i]! :: g.drop (i+1):=by rw[getElem!_pos g i hi];exact List.drop_eq_getElem_cons hi
 rw[hd];rfl

theorem c167 {H:List Blk} {sz:List Int} {b c wl:Nat} {r:Int} {R:Value->List Blk->Prop} (g:Gr H sz b) (hg:rngL sz=true) (hl:sz.length<=4) (hr:0<=r/\r<=64) (h : ∀ H' k,HS H none' [(true,k,rw' (coF sz r))] H' -> R (sv k sz.length) H'):qj Tryz.prog 167 [grV b sz.length c wl, .int .i64 r] H R:=by
 obtain ⟨w,hb⟩:=g.s;have ha:=xx hg;refine qf tok Tryz.call167 Tryz.func167 rfl Tryz.ntmps167 rfl (by simp) ?_;refine qi ((HS.start H none').add (c:=false) hb (fun i p hi=>by simp at hi) (fun h=>by cases h)) (fun H1 b1 e1 l1 hs=>?_);refine qi hs (fun H1 b2 e2 l2 hs=>?_);refine qg (fun _ hKs=>hKs _ _ ?_);clear hKs;refine qg (fun K0 hK0=>?_)
 repeat' (first|refine iS hs ?_|refine rS hs ?_|refine eI _ (aI rfl ?_)|refine vH ?_|refine vG ?_|refine qO ?_|refine oJ ?_|refine nN hs (fun _ _ hs=>?_)|refine nS hs (fun _ _ hs=>?_)|refine sX hs (fun _ hs=>?_)|refine hK0 _ _ ?_|fail)
 refine Exists.intro sz.length (Exists.intro sz.length (And.intro ⟨rfl,rfl⟩ (And.intro ⟨Nat.le_refl _, ?_⟩ (Exists.intro _ (And.intro rfl ?_)))))
 ·show sz.length*9<=_
  omega
 refine qi hs (fun H1 k e3 l3 hs=>?_);refine qi hs (fun H1 b4 e4 l4 hs=>?_);refine vz hs 0 rfl [sv k sz.length] rfl rfl (Nat.le_of_ble_eq_true rfl) rfl (fun H1 e5 hs=>?_);refine hK0 _ _ ?_;clear hK0 K0 e1 l1 e2 l2 e3 l3 e4 l4 e5;refine qg (fun K0 hK0=>?_)
 repeat' (first|refine iS hs ?_|refine rS hs ?_|refine eI _ (aI rfl ?_)|refine vH ?_|refine vG ?_|refine qO ?_|refine oJ ?_|refine nN hs (fun _ _ hs=>?_)|refine nS hs (fun _ _ hs=>?_)|refine sX hs (fun _ hs=>?_)|refine hK0 _ _ ?_|fail)
 refine qf tok Tryz.call262 Tryz.func262 rfl Tryz.ntmps262 rfl (by simp) ?_;refine qi hs (fun H1 b5 e5 l5 hs=>?_);refine qg (fun _ hKs=>hKs _ _ ?_);clear hKs;refine hK0 _ _ ?_;clear hK0 K0 e5 l5;refine qi hs (fun H1 b6 e6 l6 hs=>?_);generalize hlp:Blk.loop LoopState.ready none _ _ _ _ _=lp at hs;refine qf tok Tryz.call311 Tryz.func311 rfl Tryz.ntmps311 rfl (by simp) ?_;refine qg (fun K0 hK0=>?_)
 repeat' (first|refine iS hs ?_|refine rS hs ?_|refine eI _ (aI rfl ?_)|refine vH ?_|refine vG ?_|refine qO ?_|refine oJ ?_|refine nN hs (fun _ _ hs=>?_)|refine nS hs (fun _ _ hs=>?_)|refine sX hs (fun _ hs=>?_)|refine hK0 _ _ ?_|fail)
 clear hK0 K0 e6 l6
 have hs0:HS H none' [(true,b6,lp),(true,b5, .cells true 1 [sv b sz.length]),(true,b4, .cells true 1 [sv k sz.length]),(true,k, .cells true 1 (ints (List.replicate sz.length 0++coF (sz.drop sz.length) r))),(true,b2, .cells true 1 [.int .i64 (quoF (sz.drop sz.length) r)]),(false,b, .cells w 1 (ints sz))] H1:=by
  have e:ints (List.replicate sz.length 0++coF (sz.drop sz.length) r)=vg sz.length [.int .i64 0]:=by
   rw[List.drop_length];simp[coF,vg,ints]
  rw[e,List.drop_length];exact hs.pick [0,1,2,3,4,6] (by decide) rfl
 clear hs
 refine qE (α := List Blk × Nat) tok (fun z=>HS H none' [(true,b6,lp),(true,b5, .cells true 1 [sv b sz.length]),(true,b4, .cells true 1 [sv k sz.length]),(true,k, .cells true 1 (ints (List.replicate z.2 0++coF (sz.drop z.2) r))),(true,b2, .cells true 1 [.int .i64 (quoF (sz.drop z.2) r)]),(false,b, .cells w 1 (ints sz))] z.1/\z.2<=sz.length)
  (fun z=>[(0, .func (.yield b6) #[] #[]),(1, .pointer (some ⟨b5,0,none⟩)),(3, .int .i64 ((z.2:Int)-1))]) (fun z=>z.1) (fun z=>z.2) (H1,sz.length) ⟨hs0,Nat.le_refl _⟩ (Or.inl ⟨⟨rfl,rfl,rfl,trivial⟩,rfl⟩) ?_
 clear hs0;rintro ⟨H1,j⟩ ⟨hs,hj⟩;simp only at hs hj;refine And.intro (fun hc=>?_) (fun hc=>?_)
 ·have hj0:0<j:=by simp at hc;omega
  clear hc;obtain ⟨i,rfl⟩ : ∃ i,j=i+1:=⟨j-1,by omega⟩;have hi:i<sz.length:=by omega
  have hm:=ha _ (List.getElem_mem hi);rw[<- getElem!_pos sz i hi] at hm;have hq:=quo_le hr.1 (g:=sz.drop (i+1)) (fun m hm=>(ha m (List.mem_of_mem_drop hm)).1);have hq2:=tdiv_le hq.1 hm.1;have es:=quo_step hi r;have ec:=coF_step hi r;generalize quoF (sz.drop (i+1)) r=q at hq hq2 es ec hs;have hm0:sz[i]! ≠ 0:=by omega
  have hq3:I64 (q.tdiv sz[i]!):=by unfold I64;omega
  refine qg (fun K0 hK0=>?_);refine qG (hs.get 1 rfl) ⟨_,rfl, ?_⟩;refine qH (hs.get 5 rfl) ⟨i,by omega,hi, ?_⟩;refine qG (hs.get 5 rfl) (wI hi ?_);subst hlp;refine Qc tok (hs.get 0 rfl) ?_;refine xX hs 0 rfl (fun H2 hs=>?_);refine qm tok mx [0,0,0,0,12,0,0,96,31,287,1023] [false,true,true,true,true,true,true,true,false,false,false] (.first 0 (.first 1 (.first 2 (.first 3 (.first 4 (.first 6 (.first 8 (.alt 5 (.first 7 (.first 9 (.first 10 .done))) (.alt 9 (.first 5 (.first 7 (.first 10 .done))) .no))))))))) (by kernel_rfl) ?_;refine ql (fun K1 hK1=>?_);refine qG (hs.get 2 rfl) ⟨_,rfl, ?_⟩;refine qG (hs.get 4 rfl) ⟨_,rfl, ?_⟩;refine⟨hm0,Exists.intro _ (And.intro rfl ?_)⟩;refine qH (hs.get 3 rfl) ⟨i,by omega,hi, ?_⟩
  have e1:(ints (List.replicate (i+1) 0++coF (sz.drop (i+1)) r)).set (0+i*1) (.int .i64 (q.tmod sz[i]!))=ints (List.replicate i 0++coF (sz.drop i) r):=by
   rw[Nat.zero_add,Nat.mul_one,ints_set,ec]
  have e2:0+i*1+1<=(ints (List.replicate (i+1) 0++coF (sz.drop (i+1)) r)).length:=by rw[vN,List.length_append,List.length_replicate,yR,List.length_drop];omega
  refine And.intro ?_ (And.intro ?_ trivial)
  ·refine qG (hs.get 4 rfl) ⟨_,rfl, ?_⟩
   refine⟨hm0,Or.inl ⟨_,rfl,hq3, ?_⟩⟩;refine vz hs 3 rfl (ints (List.replicate i 0++coF (sz.drop i) r)) rfl rfl e2 e1 (fun H3 e3 hs=>?_);refine vz hs 4 rfl [.int .i64 (quoF (sz.drop i) r)] rfl rfl (Nat.le_of_ble_eq_true rfl) (by rw[es];rfl) (fun H4 e4 hs=>?_);refine hK1 _ _ ?_;clear hK1;refine uf hs 0 rfl (fun H5 hs=>?_);refine hK0 _ _ ?_;clear hK0;refine And.intro (fun h=>absurd h (by decide)) (fun _=>?_);refine Or.inl ⟨(i:Int)-1,by omega,by unfold I64;omega, ?_⟩;exact⟨(H5,i),⟨hs,by simp only;omega⟩,by simp only;omega,Or.inl ⟨⟨rfl,rfl,rfl,trivial⟩,rfl⟩⟩
  ·refine vz hs 3 rfl (ints (List.replicate i 0++coF (sz.drop i) r)) rfl rfl e2 e1 (fun H3 e3 hs=>?_)
   refine qG (hs.get 4 rfl) ⟨_,rfl, ?_⟩;refine⟨hm0,Or.inl ⟨_,rfl,hq3, ?_⟩⟩;refine vz hs 4 rfl [.int .i64 (quoF (sz.drop i) r)] rfl rfl (Nat.le_of_ble_eq_true rfl) (by rw[es];rfl) (fun H4 e4 hs=>?_);refine hK1 _ _ ?_;clear hK1;refine uf hs 0 rfl (fun H5 hs=>?_);refine hK0 _ _ ?_;clear hK0;refine And.intro (fun h=>absurd h (by decide)) (fun _=>?_);refine Or.inl ⟨(i:Int)-1,by omega,by unfold I64;omega, ?_⟩;exact⟨(H5,i),⟨hs,by simp only;omega⟩,by simp only;omega,Or.inl ⟨⟨rfl,rfl,rfl,trivial⟩,rfl⟩⟩
 ·have hj0:j=0:=by simp at hc;omega
  subst hj0;subst hlp;clear hc;refine uM hs 0 rfl (by intro h;cases h) (fun H2 hs=>?_);refine qG (hs.get 1 rfl) ⟨_,rfl, ?_⟩;exact h H2 k (hs.pick [2] (by decide) rfl)
theorem c86 {H:List Blk} {sz:List Int} {b c wl:Nat} {r:Int} {R:Value->List Blk->Prop} (g:Gr H sz b) (h : ∀ H' v,HS H none' [] H' -> R (.tuple ⟨[v, .int .i64 (crdE sz wl r)]⟩) H'):qj Tryz.prog 86 [grV b sz.length c wl, .int .i64 r] H R:=by
 obtain ⟨w,hb⟩:=g.s;refine qf tok Tryz.call86 Tryz.func86 rfl Tryz.ntmps86 rfl (by simp) ?_;refine qi ((HS.start H none').add (c:=false) hb (fun i p hi=>by simp at hi) (fun h=>by cases h)) (fun H1 b1 e1 l1 hs=>?_);refine qg (fun _ hKs=>hKs _ _ ?_);clear hKs;refine qg (fun K0 hK0=>?_)
 repeat' (first|refine iS hs ?_|refine rS hs ?_|refine eI _ (aI rfl ?_)|refine vH ?_|refine vG ?_|refine qO ?_|refine oJ ?_|refine nN hs (fun _ _ hs=>?_)|refine nS hs (fun _ _ hs=>?_)|refine sX hs (fun _ hs=>?_)|refine hK0 _ _ ?_|fail)
 refine c166 ⟨_,hs.get 1 rfl⟩ (kNo hs (fun H2 hs=>?_));refine hK0 _ _ ?_;clear hK0;refine And.intro (fun hc=>?_) (fun hc=>?_)
 ·exact h H2 _ (qc hs)
 ·have hc:crdE sz wl r=0:=by simpa using hc
  have hcnt:cntF sz wl≠0/\(0<=r/\r<cntF sz wl):=by
   unfold crdE at hc;split at hc
   ·cases hc
   ·rename_i h0
    split at hc
    ·cases hc
    ·rename_i h1
     exact⟨h0,by omega⟩
  have hle:=(cntF_le sz wl).2
  obtain ⟨h4,hg⟩:sz.length<=4/\rngL sz=true:=by
   have h0:=hcnt.1;unfold cntF at h0;split at h0
   ·exact absurd rfl h0
   ·rename_i hn
    refine⟨by omega,((Yy sz 1 (by omega)).1.1 ?_).1⟩
    cases hk:okL sz 1 with
    | true=>rfl
    | false=>exact absurd (.inr (.inr (.inr hk))) hn
  rw[hc] at h;refine qg (fun K0 hK0=>?_)
  repeat' (first|refine iS hs ?_|refine rS hs ?_|refine eI _ (aI rfl ?_)|refine vH ?_|refine vG ?_|refine qO ?_|refine oJ ?_|refine nN hs (fun _ _ hs=>?_)|refine nS hs (fun _ _ hs=>?_)|refine sX hs (fun _ hs=>?_)|refine hK0 _ _ ?_|fail)
  refine c167 ⟨_,hs.get 1 rfl⟩ hg h4 ⟨hcnt.2.1,by omega⟩ (fun H3 k hk=>?_);have hs:=qK hs (qc hk);refine hK0 _ _ ?_;exact h H3 _ (qc hs)
end Go.Af.Tryz
namespace Go.Af.Tryz
open Go Go.Proofs
attribute [local irreducible] awp qj qJ qL qC qo isCells qx qp qA qw qh roundEnd

theorem c108 {H:List Blk} {b:Nat} {w:Bool} {xs:List Int} {x:Int} {R:Value->List Blk->Prop} (hb:bget H b=some (.cells w 1 (ints xs))) (hl:xs.length<=1000000) (h : ∀ z:Int,decide (0<=z)=decide (x∈xs)->R (.int .i64 z) H):qj Tryz.prog 108 [sv b xs.length, .int .i64 x] H R:=by
 refine qf tok Tryz.call108 Tryz.func108 rfl Tryz.ntmps108 rfl (by simp) ?_;refine qE (α := Nat) tok (fun i=>i<=xs.length/\x ∉ xs.take i) (fun i=>[(0,sv b xs.length),(1, .int .i64 x),(7, .int .i64 (xs.length:Int)),(8, .int .i64 (i:Int))]) (fun _=>H) (fun i=>xs.length-i) 0 ⟨Nat.zero_le _,by simp⟩ (Or.inl ⟨⟨rfl,rfl,rfl,rfl,trivial⟩,rfl⟩) ?_;rintro i ⟨hi,hn⟩;refine And.intro (fun hc=>?_) (fun hc=>?_)
 ·have hlt:i<xs.length:=by simp at hc;omega
  refine qH hb ⟨i,rfl,hlt, ?_⟩;refine qG hb (wI hlt ?_);refine And.intro (fun he=>?_) (fun he=>?_)
  ·have he:x=xs[i]! := by simpa using he
   have hm:x∈xs:=by rw[he,getElem!_pos xs i hlt];exact List.getElem_mem _
   exact h i (by rw[decide_eq_true hm,decide_eq_true (by omega)])
  ·have he : ¬ x=xs[i]! := by simpa using he
   refine Or.inl ⟨((i+1:Nat):Int),by simp,by unfold I64;omega, ?_⟩;refine⟨i+1,⟨hlt, ?_⟩,by omega,Or.inl ⟨⟨rfl,rfl,rfl,rfl,trivial⟩,rfl⟩⟩;rw[List.take_succ_eq_append_getElem hlt,List.mem_append];rintro (h | h)
   ·exact hn h
   ·simp only[List.mem_singleton] at h
    exact he (by rw[h,getElem!_pos xs i hlt])
 ·have hge:i=xs.length:=by simp at hc;omega
  subst hge;rw[List.take_length] at hn;exact h (-1) (by rw[decide_eq_false hn];rfl)
theorem c56 {H:List Blk} {b:Nat} {w:Bool} {xs:List Int} {x:Int} {R:Value->List Blk->Prop} (hb:bget H b=some (.cells w 1 (ints xs))) (hl:xs.length<=1000000) (h:R (.bool (decide (x∈xs))) H):qj Tryz.prog 56 [sv b xs.length, .int .i64 x] H R:=by
 refine qf tok Tryz.call56 Tryz.func56 rfl Tryz.ntmps56 rfl (by simp) ?_;refine c108 hb hl (fun z hz=>?_);rw[<- hz] at h;exact h

def gzF (t:Tk):Int:=IntKind.i64.wrap ((t.sz.length:Int)+(t.ws.length:Int))
theorem gz_small {t:Tk} (h:t.sz.length+t.ws.length<=9223372036854775807):gzF t=(t.sz.length:Int)+(t.ws.length:Int):=wrap_i64 (by unfold I64;omega)
def chkF (t:Tk):Int :=
 if t.op<1\/11<t.op\/(¬ (t.op=1\/t.op=2\/t.op=5\/t.op=6)/\t.ro≠0)\/(t.op≠11/\0<gzF t) then 2
 else if t.pr<1\/64<t.pr\/t.pa<1\/16<t.pa\/(t.op=10/\t.pa≠1)\/t.ro<0\/t.pr<=t.ro then 3
 else if (t.op=5\/t.op=6\/t.op=7\/t.op=9\/t.op=8\/t.op=11)/\256<t.pr*t.pa then 9
 else if t.op=11/\(crdE t.sz t.ws.length (t.pr-1)≠0\/crdE t.sz t.ws.length t.pr=0) then 26 else 0
theorem mul_facts (a b:Int):(1<=a->a<=64->1<=b->b<=16->1<=a*b/\a*b<=1024)/\(a=1->a*b=b):=by
 refine⟨fun h1 h2 h3 h4=>?_,fun h=>by subst h;omega⟩;have p:1*1<=a*b:=Int.mul_le_mul h1 h3 (by omega) (by omega);have q:a*b<=64*16:=Int.mul_le_mul h2 h4 (by omega) (by omega);omega
theorem mem_root (x:Int):decide (x∈[(1:Int),2,5,6])=decide (x=1\/x=2\/x=5\/x=6):=by simp
theorem mem_many (x:Int):decide (x∈[(5:Int),6,7,9,8,11])=decide (x=5\/x=6\/x=7\/x=9\/x=8\/x=11):=by simp

theorem c31 {H:List Blk} {t:Tk} {b c:Nat} {R:Value->List Blk->Prop} (g:Gr H t.sz b) (hl:t.sz.length<=9223372036854775807) (hw:t.ws.length<=9223372036854775807) (h : ∀ H',HS H none' [] H' -> R (.int .i64 (chkF t)) H'):qj Tryz.prog 31 [tkV t b c] H R:=by
 obtain ⟨w,hb⟩:=g.s;refine qf tok Tryz.call31 Tryz.func31 rfl Tryz.ntmps31 rfl (by simp) ?_;refine qi ((HS.start H none').add (c:=false) hb (fun i p hi=>by simp at hi) (fun h=>by cases h)) (fun H1 b1 e1 l1 hs=>?_);refine qg (fun _ hKs=>hKs _ _ ?_);clear hKs;refine qg (fun K0 hK0=>?_);refine And.intro (by decide) ?_;refine Wl hs (fun H2 b2 e2 l2 hs=>?_)
 repeat' (first|refine iS hs ?_|refine rS hs ?_|refine eI _ (aI rfl ?_)|refine vH ?_|refine vG ?_|refine qO ?_|refine oJ ?_|refine nN hs (fun _ _ hs=>?_)|refine nS hs (fun _ _ hs=>?_)|refine sX hs (fun _ hs=>?_)|refine hK0 _ _ ?_|fail)
 refine c56 (xs := [1,2,5,6]) (hs.get 0 rfl) (by decide) ?_;rw[mem_root];refine hK0 _ _ ?_;clear hK0;refine qg (fun K0 hK0=>?_);refine And.intro (by decide) ?_;refine Wl hs (fun H3 b3 e3 l3 hs=>?_)
 repeat' (first|refine iS hs ?_|refine rS hs ?_|refine eI _ (aI rfl ?_)|refine vH ?_|refine vG ?_|refine qO ?_|refine oJ ?_|refine nN hs (fun _ _ hs=>?_)|refine nS hs (fun _ _ hs=>?_)|refine sX hs (fun _ hs=>?_)|refine hK0 _ _ ?_|fail)
 refine c56 (xs := [5,6,7,9,8,11]) (hs.get 0 rfl) (by decide) ?_;rw[mem_many];refine hK0 _ _ ?_;clear hK0 e1 l1 e2 l2 e3 l3;have hs:=hs.pick [2,3] (by decide) rfl (L' := [(true,b1, .cells true 1 (tkC t b c)),(false,b, .cells w 1 (ints t.sz))]);obtain ⟨hm1,hm2⟩:=mul_facts t.pr t.pa;obtain ⟨gz,hgz⟩ : ∃ gz,gzF t=gz:=⟨_,rfl⟩;unfold chkF at h;rw[hgz] at h;unfold gzF at hgz;have h' := h
 replace h:=h H3 (qc hs)
 repeat' (first|refine nY (fun K0 hK0=>?_)|refine zAw ?_|refine zNw (fun _ _ hs=>?_)|(refine dI (fun hc=>?_) (fun hc=>?_) <;> try (exfalso;omega))|fail)
 all_goals try (
  (repeat (first | rw[if_pos (by omega)] at h | rw[if_neg (by omega)] at h))
  exact h;done)
 any_goals (
  refine Or.inr ?_;rw[hgz]
  repeat' (first|refine nY (fun K0 hK0=>?_)|refine zAw ?_|refine zNw (fun _ _ hs=>?_)|(refine dI (fun hc=>?_) (fun hc=>?_) <;> try (exfalso;omega))|fail)
  all_goals try (
   (repeat (first | rw[if_pos (by omega)] at h | rw[if_neg (by omega)] at h))
   exact h;done)
  )
 clear h;refine c86 ⟨_,hs.get 1 rfl⟩ (fun H4 v1 hn=>?_);have hs:=qK hs hn;clear hn
 repeat' (first|refine nY (fun K0 hK0=>?_)|refine zAw ?_|refine zNw (fun _ _ hs=>?_)|fail)
 refine c86 ⟨_,hs.get 1 rfl⟩ (fun H5 v2 hn=>?_);have hs:=qK hs hn;clear hn;have h:=h' H5 (qc hs);clear h'
 repeat' (first|refine nY (fun K0 hK0=>?_)|refine zAw ?_|refine zNw (fun _ _ hs=>?_)|(refine dI (fun hc=>?_) (fun hc=>?_) <;> try (exfalso;omega))|fail)
 all_goals try (
  (repeat (first | rw[if_pos (by omega)] at h | rw[if_neg (by omega)] at h))
  exact h;done)
end Go.Af.Tryz
