/- A part of the proof. -/
import Derived.Test.YtmnjcogpchodhaaGreatMGE
import Derived.Test.YtmnjcogpchodhaaGreatMCA
set_option linter.all false
set_option maxHeartbeats 4000000
set_option maxRecDepth 100000
namespace Go.Af.Tryz
open Go Go.Proofs Tryz
attribute [local irreducible] awp qj qI qK qE qm isCells ql qi qB qx qh roundEnd

theorem qW {Hs H H' : List Blk} {o0:Nat->Prop} {a k k' : Nat} {A A' K K' : Blk} {L:List (Bool × Nat × Blk)} (h:HS Hs o0 ((true,a,A)::(true,k,K)::L) H) (h2:HS H (fun x=>x=a\/x=k) [(true,a,A'),(true,k',K')] H'):HS Hs o0 ((true,a,A')::(true,k',K')::L) H' := by
 have ga:=h.g (i:=0) rfl;have gk:=h.g (i:=1) rfl;have gk' := h2.g (i:=1) rfl
 have neL : ∀ (i:Nat) (p:Bool × Nat × Blk),L[i]? = some p->p.2.1≠a/\p.2.1≠k/\p.2.1<H.length:=fun i p hi=>by
  refine⟨fun e=>?_,fun e=>?_, ?_⟩
  ·have:=h.nd (i:=i+2) (j:=0) (by simpa using hi) rfl e
   omega
  ·have:=h.nd (i:=i+2) (j:=1) (by simpa using hi) rfl e
   omega
  ·obtain ⟨c,b,B⟩:=p
   exact qJ (h.g (i:=i+2) (by simpa using hi)).1
 have hL:=(h.tail.tail).upd h2.u (fun i p hi ho=>by
  have:=neL i p hi;rcases ho with ho | ho
  ·exact this.1 ho
  ·exact this.2.1 ho) (fun b hb=>by
  rcases hb with rfl | rfl
  ·exact ga.2 rfl
  ·exact gk.2 rfl)
 have hk:=hL.add (c:=true) gk'.1 (fun i p hi e=>by
  have:=neL i p hi;rcases gk'.2 rfl with (ho | ho) | ho
  ·exact this.1 (e.trans ho)
  ·exact this.2.1 (e.trans ho)
  ·omega) (fun _=>by
  rcases gk'.2 rfl with (ho | ho) | ho
  ·rw[ho];exact ga.2 rfl
  ·rw[ho];exact gk.2 rfl
  ·exact .inr (by have:=h.le;omega))
 refine hk.add (c:=true) (h2.g (i:=0) rfl).1 (fun i p hi e=>?_) (fun _=>ga.2 rfl);rcases i with _ | i
 ·simp at hi
  subst hi;exact h2.ne 1 0 rfl rfl (by decide) e
 ·exact (neL i p (by simpa using hi)).1 e
structure Fi where
 s:Int
 r:Int
 f:Int
 u:Int
abbrev fiC (x:Fi):List Value := [.int .i64 x.s, .int .i64 x.r, .int .i64 x.f, .int .i64 x.u]
def fisC (l:List Fi):List Value:=l.flatMap fiC
theorem ql0 (l:List Fi):(fisC l).length=l.length*4:=by
 induction l with
 | nil=>rfl
 | cons x r ih =>
   have e:(fisC (x::r)).length=4+(fisC r).length:=by
    show (fiC x++fisC r).length=_;rw[List.length_append];rfl
   rw[e,ih,List.length_cons];omega
theorem Yy (l:List Fi) (x:Fi):fisC (l ++ [x])=fisC l++fiC x:=by simp[fisC]
def cpL (r f:Nat->Int) (xs:List Int):List Fi:=(List.range xs.length).map fun i=>⟨xs[i]!,r i,f i, -1⟩
def jnL (u:Int) (xs:List Int):List Fi:=(List.range xs.length).map fun i=>⟨xs[i]!,0,0,u⟩
theorem UW {α : Type} (g:Nat->α) (n i:Nat) (h:i<n):((List.range n).map g).take (i+1)=((List.range n).map g).take i ++ [g i]:=by
 rw[List.take_succ_eq_append_getElem (by simpa using h)];simp
theorem c155 {H:List Blk} {l:List Fi} {xs:List Int} {a k b:Nat} {w:Bool} {f:FuncId} {caps:Array Value} {fr fs:Nat->Int} {R:Value->List Blk->Prop} (hs:HS H (fun x=>x=a\/x=k) [(true,a, .cells true 1 [sv k l.length]),(true,k, .cells true 4 (fisC l))] H)
 (hb:bget H b=some (.cells w 1 (ints xs))) (hbo:b≠a) (hbk:b≠k) (hx:xs.length<=10000) (hll:l.length<=10000)
 (hf : ∀ (i:Nat) (H' : List Blk) (R' : Value->List Blk->Prop),i<xs.length->HS H (fun x=>x=a\/x=k) [] H' -> (∀ H'',HS H' none' [] H'' -> R' (.agg ⟨[.int .i64 (fr i), .int .i64 (fs i)]⟩) H'')->qj prog f (.int .i64 i::caps.toList) H' R')
 (h : ∀ v H' k',HS H (fun x=>x=a\/x=k) [(true,a, .cells true 1 [sv k' (l.length+xs.length)]),(true,k', .cells true 4 (fisC (l++cpL fr fs xs)))] H' -> R v H'):qj prog 155 [sv b xs.length, .func (.func f) #[] caps, .pointer (some ⟨a,0,none⟩)] H R:=by
 have hs:=hs.add (c:=false) hb (fun i p hi=>by rcases i with _ | _ | i <;> simp at hi <;> subst hi <;> first | exact hbo.symm | exact hbk.symm) (fun h=>by cases h);have hs:=pkH hs [1,2,0] (L' := [(true,a, .cells true 1 [sv k l.length]),(true,k, .cells true 4 (fisC l)),(false,b, .cells w 1 (ints xs))]);refine avN call155 func155 ntmps155 ?_;have htk:=fun i hi=>UW (fun i:Nat=>(⟨xs[i]!,fr i,fs i, -1⟩:Fi)) xs.length i hi
 repeat' first|refine zPw ?_|intro _ _ hs|intro K0 hK0
 refine vC (α := List Blk × Nat × Nat) tok (fun z=>HS H (fun x=>x=a\/x=k) [(true,a, .cells true 1 [sv z.2.1 (l.length+z.2.2)]),(true,z.2.1, .cells true 4 (fisC (l++(cpL fr fs xs).take z.2.2))),(false,b, .cells w 1 (ints xs))] z.1/\z.2.2<=xs.length)
  (fun | ⟨_,k',i⟩=>[(1, .func (.func f) #[] caps),(2, .pointer (some ⟨a,0,none⟩)),(7,sv b xs.length),(8, .int .i64 xs.length),(9, .int .i64 i)]) (fun | ⟨H',_,_⟩=>H') (fun z=>xs.length-z.2.2)
  ⟨H,k,0⟩ ⟨by simpa using hs,Nat.zero_le _⟩ ⟨⟨_,rfl, .rfl⟩,⟨_,rfl, .rfl⟩,⟨_,rfl, .rfl⟩,⟨_,rfl, .rfl⟩,⟨_,rfl, .rfl⟩,trivial⟩ WkH.rfl ?_
 clear hs;rintro ⟨H2,k',i⟩ ⟨hs,hi⟩;dsimp only at hs hi ⊢
 repeat' first|refine zPw ?_|intro _ _ hs|intro K0 hK0
 refine And.intro (fun hc=>?_) (fun hc=>?_)
 ·have hlt:i<xs.length:=by simp at hc;omega
  clear hc;have et:=htk i hlt
  repeat' first|refine zPw ?_|intro _ _ hs|intro K0 hK0
  refine vM hlt ?_
  repeat' first|refine zPw ?_|intro _ _ hs|intro K0 hK0
  refine qp tok mx [0,0,0,0,12,30,62,127,255] [false,false,false,false,false,true,true,false,false] (.first 1 (.first 2 (.first 3 (.alt 0 (.first 4 (.first 5 (.first 6 (.first 7 (.first 8 .done))))) (.alt 4 (.first 0 (.first 5 (.first 6 (.first 7 (.first 8 .done))))) .no))))) (by kernel_rfl) ?_;refine qw (fun K0 hK0=>?_)
  repeat' first|refine zPw ?_|intro _ _ hs|intro K0 hK0
  refine And.intro ?_ (And.intro ?_ trivial)
  all_goals (
   repeat' first|refine zPw ?_|intro _ _ hs|intro K0 hK0
   refine hf i _ _ hlt (qc hs) (kNo hs (fun H3 hs=>?_))
   repeat' first|refine zPw ?_|intro _ _ hs|intro K0 hK0
   refine vZ hs 2 (us:=fiC ⟨xs[i]!,fr i,fs i, -1⟩) rfl (by decide) (hs.get 0 rfl) rfl rfl (by rw[ql0,List.length_append,List.length_take,cpL,List.length_map,List.length_range,Nat.min_eq_left (by omega)]) (by show (l.length+i+1)*(32+1)<=_;omega) (fun H5 k2 e5 l5 hs=>?_);refine vN hs 1 rfl [sv k2 (l.length+(i+1))] rfl rfl (Nat.le_of_ble_eq_true rfl) rfl (fun H6 e6 hs=>?_)
   repeat' first|refine zPw ?_|intro _ _ hs|intro K0 hK0
   have e:fisC (l++(cpL fr fs xs).take i)++fiC ⟨xs[i]!,fr i,fs i, -1⟩=fisC (l++(cpL fr fs xs).take (i+1)):=by
    rw[<- Yy,List.append_assoc];unfold cpL;rw[et]
   have hs:=pkH hs [1,2,3] (L' := [(true,a, .cells true 1 [sv k2 (l.length+(i+1))]),(true,k2, .cells true 4 (fisC (l++(cpL fr fs xs).take i)++fiC ⟨xs[i]!,fr i,fs i, -1⟩)),(false,b, .cells w 1 (ints xs))]);rw[e] at hs
   exact⟨⟨_,k2,i+1⟩,⟨hs,hlt⟩,by dsimp only;omega,Or.inl ⟨⟨rfl,rfl,rfl,rfl,rfl,trivial⟩,rfl⟩⟩)
 ·have hie:i=xs.length:=by simp at hc;omega
  subst hie;rw[List.take_of_length_le (by simp[cpL])] at hs
  repeat' first|refine zPw ?_|intro _ _ hs|intro K0 hK0
  exact h _ _ k' (pkH hs [0,1])
theorem c156 {H:List Blk} {l:List Fi} {xs:List Int} {a k b:Nat} {w:Bool} {u:Int} {R:Value->List Blk->Prop} (hs:HS H (fun x=>x=a\/x=k) [(true,a, .cells true 1 [sv k l.length]),(true,k, .cells true 4 (fisC l))] H)
 (hb:bget H b=some (.cells w 1 (ints xs))) (hbo:b≠a) (hbk:b≠k) (hx:xs.length<=10000) (hll:l.length<=10000)
 (h : ∀ v H' k',HS H (fun x=>x=a\/x=k) [(true,a, .cells true 1 [sv k' (l.length+xs.length)]),(true,k', .cells true 4 (fisC (l++jnL u xs)))] H' -> R v H'):qj prog 156 [sv b xs.length, .int .i64 u, .pointer (some ⟨a,0,none⟩)] H R:=by
 have hs:=hs.add (c:=false) hb (fun i p hi=>by rcases i with _ | _ | i <;> simp at hi <;> subst hi <;> first | exact hbo.symm | exact hbk.symm) (fun h=>by cases h);have hs:=pkH hs [1,2,0] (L' := [(true,a, .cells true 1 [sv k l.length]),(true,k, .cells true 4 (fisC l)),(false,b, .cells w 1 (ints xs))]);refine avN call156 func156 ntmps156 ?_;have htk:=fun i hi=>UW (fun i:Nat=>(⟨xs[i]!,0,0,u⟩:Fi)) xs.length i hi
 repeat' first|refine zPw ?_|intro _ _ hs|intro K0 hK0
 refine vC (α := List Blk × Nat × Nat) tok (fun z=>HS H (fun x=>x=a\/x=k) [(true,a, .cells true 1 [sv z.2.1 (l.length+z.2.2)]),(true,z.2.1, .cells true 4 (fisC (l++(jnL u xs).take z.2.2))),(false,b, .cells w 1 (ints xs))] z.1/\z.2.2<=xs.length)
  (fun | ⟨_,k',i⟩=>[(1, .int .i64 u),(2, .pointer (some ⟨a,0,none⟩)),(7,sv b xs.length),(8, .int .i64 xs.length),(9, .int .i64 i)]) (fun | ⟨H',_,_⟩=>H') (fun z=>xs.length-z.2.2)
  ⟨H,k,0⟩ ⟨by simpa using hs,Nat.zero_le _⟩ ⟨⟨_,rfl, .rfl⟩,⟨_,rfl, .rfl⟩,⟨_,rfl, .rfl⟩,⟨_,rfl, .rfl⟩,⟨_,rfl, .rfl⟩,trivial⟩ WkH.rfl ?_
 clear hs;rintro ⟨H2,k',i⟩ ⟨hs,hi⟩;dsimp only at hs hi ⊢
 repeat' first|refine zPw ?_|intro _ _ hs|intro K0 hK0
 refine And.intro (fun hc=>?_) (fun hc=>?_)
 ·have hlt:i<xs.length:=by simp at hc;omega
  clear hc;have et:=htk i hlt
  repeat' first|refine zPw ?_|intro _ _ hs|intro K0 hK0
  refine vM hlt ?_
  repeat' first|refine zPw ?_|intro _ _ hs|intro K0 hK0
  refine vZ hs 2 (us:=fiC ⟨xs[i]!,0,0,u⟩) rfl (by decide) (hs.get 0 rfl) rfl rfl (by rw[ql0,List.length_append,List.length_take,jnL,List.length_map,List.length_range,Nat.min_eq_left (by omega)]) (by show (l.length+i+1)*(32+1)<=_;omega) (fun H5 k2 e5 l5 hs=>?_);refine vN hs 1 rfl [sv k2 (l.length+(i+1))] rfl rfl (Nat.le_of_ble_eq_true rfl) rfl (fun H6 e6 hs=>?_)
  repeat' first|refine zPw ?_|intro _ _ hs|intro K0 hK0
  have e:fisC (l++(jnL u xs).take i)++fiC ⟨xs[i]!,0,0,u⟩=fisC (l++(jnL u xs).take (i+1)):=by
   rw[<- Yy,List.append_assoc];unfold jnL;rw[et]
  have hs:=pkH hs [1,2,3] (L' := [(true,a, .cells true 1 [sv k2 (l.length+(i+1))]),(true,k2, .cells true 4 (fisC (l++(jnL u xs).take i)++fiC ⟨xs[i]!,0,0,u⟩)),(false,b, .cells w 1 (ints xs))]);rw[e] at hs;exact⟨⟨_,k2,i+1⟩,⟨hs,hlt⟩,by dsimp only;omega,Or.inl ⟨⟨rfl,rfl,rfl,rfl,rfl,trivial⟩,rfl⟩⟩
 ·have hie:i=xs.length:=by simp at hc;omega
  subst hie;rw[List.take_of_length_le (by simp[jnL])] at hs
  repeat' first|refine zPw ?_|intro _ _ hs|intro K0 hK0
  exact h _ _ k' (pkH hs [0,1])
end Go.Af.Tryz
namespace Go.Af.Tryz
open Go Go.Proofs Tryz
attribute [local irreducible] awp qj qI qK qE qm isCells ql qi qB qx qh roundEnd

theorem c158 {H:List Blk} {t:Tk} {x b c:Nat} {w:Bool} {i:Int} {R:Value->List Blk->Prop} (hx:bget H x=some (.cells w 1 (tkC t b c))) (h : ∀ H',HS H none' [] H' -> R (.agg ⟨[.int .i64 t.ro, .int .i64 i]⟩) H'):qj prog 158 [.int .i64 i, .pointer (some ⟨x,0,none⟩)] H R:=by
 have hs:=adH (HS.start H none') hx;refine avN call158 func158 ntmps158 ?_;refine qo hs (fun H1 b1 e1 l1 hs=>?_);refine qg (fun _ hKs=>hKs _ _ ?_);clear hKs;clear e1 l1
 repeat' first|refine zPw ?_|intro _ _ hs|intro K0 hK0
 change resK T _ _ _ _;refine vV (by rfl) (by rfl) (hs.get 0 rfl) (by rfl) ?_;refine⟨_,rfl,_,rfl, ?_⟩;exact h _ (qc hs)
end Go.Af.Tryz
namespace Go.Af.Tryz
open Go Go.Proofs
attribute [local irreducible] awp qj qI qK qE qm isCells ql qi qB qx qh roundEnd

section
variable {P:Program} {T' : TT}
theorem uZ (hT:TOk P T') {f:FuncId} {fn:Func} {c:Code} {args:List Value} {H:List Blk} {R:Value->List Blk->Prop} (hc : ∀ (us:Array Value) (w:World),(callFunc f us).run P w = .ok (.enter f us) w) (hf:P.funcs[f]? = some fn) (hb:fn.body=some c) {n:Nat} (hnt:fn.ntmps=n)
 {rs:Array ResultVar} (hrs:fn.results=rs) (hn:args.length<=n) (h:awp P false H.length c (aft n (endQ T' rs.toList R)) ⟨n,Vp args 0⟩ H):qj P f args H R:=by
 subst hnt;subst hrs;refine qz0 hT hc hf hb hn (wu h ?_);rintro e ⟨n',sl'⟩ H' ⟨h1,hq⟩
 cases e with
 | normal=>exact hq
 | exit i=>exact hq.elim
 | ret=>exact hq
theorem ve (hT:TOk P T') {rd:Bool} {n0 n:Nat} {Q:Ex->List (Nat × Value)->List Blk->Prop} {sl:List (Nat × Value)} {H:List Blk} {x y:Code}
 (hx:vcg P T' rd n0 n x (fun e sl' H' => match e with
   | .normal=>awp P rd n0 y (aft n Q) ⟨n,sl'⟩ H'
   | .exit i=>Q (.exit i) sl' H'
   | .ret=>Q .ret sl' H') sl H):awp P rd n0 (.seq x y) (aft n Q) ⟨n,sl⟩ H:=by
 refine VL (wu (vg hT x hx) ?_);rintro e ⟨n2,sl2⟩ H2 ⟨rfl,hq⟩
 cases e with
 | normal=>exact hq
 | exit i=>exact⟨rfl,hq⟩
 | ret=>exact⟨rfl,hq⟩
end
theorem yD0 {Hs H:List Blk} {o0:Nat->Prop} {a k:Nat} {A K:Blk} {L:List (Bool × Nat × Blk)} (h:HS Hs o0 ((true,a,A)::(true,k,K)::L) H):HS H (fun x=>x=a\/x=k) [(true,a,A),(true,k,K)] H :=
 ((HS.start H _).add (c:=true) (h.get 1 rfl) (fun i p hi=>by simp at hi) (fun _=>.inl (.inr rfl))).add (c:=true) (h.get 0 rfl) (fun i p hi=>by
   rcases i with _ | i
   ·simp at hi
    subst hi;exact h.ne 1 0 rfl rfl (by decide)
   ·simp at hi) (fun _=>.inl (.inl rfl))
theorem uU0 {Hs H H' : List Blk} {o0:Nat->Prop} {a k:Nat} {A K:Blk} {L:List (Bool × Nat × Blk)} (h:HS Hs o0 ((true,a,A)::(true,k,K)::L) H) (h' : HS H (fun x=>x=a\/x=k) [] H') (i:Nat) {c:Bool} {x:Nat} {B:Blk} (hi:L[i]? = some (c,x,B)):bget H' x=some B:=by
 have g:=h.g (i:=i+2) (by simpa using hi);refine (h'.u.2 x (qJ g.1) (fun e=>?_)).trans g.1;rcases e with e | e
 ·have:=h.nd (i:=i+2) (j:=0) (by simpa using hi) rfl e
  omega
 ·have:=h.nd (i:=i+2) (j:=1) (by simpa using hi) rfl e
  omega
def hvL (t:Tk) (r:Int) (d e:Nat):List Fi:=if neF t r d (decide (e=0)) = -2 then [] else cpL (fun _=>neF t r d (decide (e=0))) (fun i=>i) (spnF t (1+2*d+e) (2+2*d+e))
def halF (t:Tk) (r:Int) (d:Nat):List Fi:=(List.range 2).flatMap (hvL t r d)
def finF (t:Tk) (r:Int):List Fi :=
 if t.op=1 then cpL (fun _=>t.ro) (fun i=>i) (spnF t 0 (blkF t))
 else if t.op=6 then cpL (fun _=>t.ro) (fun i=>(spnF t r (r+1))[i]!) (spnF t r (r+1))
 else if t.op=5\/t.op=7 then if t.op=7\/r=t.ro then cpL (fun i=>(i:Int).tdiv t.pa) (fun i=>i) (spnF t 0 (blkF t)) else []
 else if t.op=8 then cpL (fun i=>(i:Int).tdiv t.pa) (fun i=>(spnF t r (r+1))[((i:Int).tmod t.pa).toNat]!) (spnF t t.pr (2*t.pr))
 else if t.op=11 then (List.range t.sz.length).flatMap (halF t r)
 else if t.op=2 then if r=t.ro then jnL (t.pr-1) (spnF t 0 (blkF t)) else []
 else if t.op=4 then jnL r (spnF t 0 (blkF t))
 else if t.op=9 then jnL (t.pr-1) (spnF t r (r+1))
 else jnL (t.pr-1) (spnF t 0 (blkF t))
theorem wX0 (f g:Nat->Int) (xs:List Int):(cpL f g xs).length=xs.length:=by simp[cpL]
theorem wu0 (u:Int) (xs:List Int):(jnL u xs).length=xs.length:=by simp[jnL]
end Go.Af.Tryz
namespace Go.Af.Tryz
open Go Go.Proofs Tryz
attribute [local irreducible] awp qj qI qK qE qm isCells ql qi qB qx qh roundEnd
theorem c77r {H:List Blk} {t:Tk} {r:Int} {b c:Nat} {R:Value->List Blk->Prop} (kt:TkOk t) (h14:t.op=1\/t.op=4) (g:Gr H t.sz b) (gw:Gw H t.ws b c) (hr:0<=r/\r<t.pr) (h : ∀ H' k,HS H none' [(true,k, .cells true 4 (fisC (finF t r)))] H' -> R (sv k (finF t r).length) H'):qj prog 77 [tkV t b c, .int .i64 r] H R:=by
 have hb:=zb0 kt;have hpr:=kt.pr;have hpa:=kt.pa;have hop:=kt.op;have hdm:=kt.dims;refine uZ tok call77 func77 rfl ntmps77 rfl (by simp) ?_;have hs:=HS.start H none';refine ve tok ?_;refine qo hs (fun H1 x e1 l1 hs=>?_)
 repeat' first|refine zPw ?_|intro _ _ hs|intro K0 hK0
 clear e1 l1;refine ve tok ?_;refine qo hs (fun H2 o e1 l1 hs=>?_)
 repeat' first|refine zPw ?_|intro _ _ hs|intro K0 hK0
 clear e1 l1;refine ve tok ?_
 repeat' first|refine zPw ?_|intro _ _ hs|intro K0 hK0
 refine ve tok ?_
 repeat' first|refine zPw ?_|intro _ _ hs|intro K0 hK0
 have hh:WkH H2 ((H2 ++ [Blk.cells true 4 (fisC [])]).set o (Blk.cells true 1 [sv H2.length 0])):=WkH.set (WkH.rfl.app [Blk.cells true 4 (fisC [])]) (hs.get 0 rfl) (vs' := [sv H2.length 0]) rfl (fun i v v' h1 h2=>by
  rcases i with _ | i
  ·cases h1;cases h2;exact .nil _
  ·simp at h1)
 have hs:=((hs.virt (.cells true 4 (fisC []))).vset 1 rfl (B' := .cells true 1 [sv H2.length 0])).pick [1,0,2] (by decide) rfl (L' := [(true,o, .cells true 1 [sv H2.length 0]),(true,H2.length, .cells true 4 (fisC [])),(true,x, .cells true 1 (tkC t b c))]);refine Vo (S := [(1, .int .i64 r),(2, .pointer (some ⟨x,0,none⟩)),(5, .pointer (some ⟨o,0,none⟩)),(6, .func (.func 155) #[] #[.pointer (some ⟨o,0,none⟩)]),(7, .func (.func 156) #[] #[.pointer (some ⟨o,0,none⟩)])]) ⟨⟨_,rfl, .rfl⟩,⟨_,rfl, .rfl⟩,⟨_,rfl, .rfl⟩,⟨_,rfl, .rfl⟩,⟨_,rfl, .rfl⟩,trivial⟩ hh ?_;clear hh;generalize (H2 ++ [Blk.cells true 4 (fisC [])]).set o (.cells true 1 [sv H2.length 0])=H3 at hs ⊢;generalize H2.length=k at hs
 refine wu (UM tok (Q:=endQ T _ R) (α := List Blk × Nat × Nat × Nat) (fun z=>HS H none' [(true,o, .cells true 1 [sv k 0]),(true,k, .cells true 4 (fisC [])),(true,x, .cells true 1 (tkC t b c)),(true,z.2.1,rw' (spnF t 0 (blkF t))),(true,z.2.2.1, .cells true 1 [sv z.2.2.2 (spnF t r (r+1)).length]),(true,z.2.2.2,rw' (spnF t r (r+1)))] z.1)
  (fun z=>[(1, .int .i64 r),(2, .pointer (some ⟨x,0,none⟩)),(5, .pointer (some ⟨o,0,none⟩)),(6, .func (.func 155) #[] #[.pointer (some ⟨o,0,none⟩)]),(7, .func (.func 156) #[] #[.pointer (some ⟨o,0,none⟩)]),(8,sv z.2.1 (spnF t 0 (blkF t)).length),(9, .pointer (some ⟨z.2.2.1,0,none⟩))]) (fun z=>z.1) ?_ ?_) (fun _ _ _ h=>h)
 ·refine qp tok mx [0,0,2,7,0,0,0,64,255,0,1023,2047] [true,false,false,false,true,true,true,true,false,true,false,false] (.first 1 (.first 5 (.first 6 (.first 7 (.alt 0 (.alt 2 (.alt 3 (.first 4 (.alt 8 (.first 9 (.first 10 (.first 11 .done))) (.alt 9 (.first 8 (.first 10 (.first 11 .done))) .no))) (.alt 4 (.alt 3 (.alt 8 (.first 9 (.first 10 (.first 11 .done))) (.alt 9 (.first 8 (.first 10 (.first 11 .done))) .no)) (.alt 9 (.first 3 (.first 8 (.first 10 (.first 11 .done)))) .no)) (.alt 9 (.alt 3 (.first 4 (.first 8 (.first 10 (.first 11 .done)))) (.alt 4 (.first 3 (.first 8 (.first 10 (.first 11 .done)))) .no)) .no))) (.alt 4 (.alt 2 (.alt 3 (.alt 8 (.first 9 (.first 10 (.first 11 .done))) (.alt 9 (.first 8 (.first 10 (.first 11 .done))) .no)) (.alt 9 (.first 3 (.first 8 (.first 10 (.first 11 .done)))) .no)) (.alt 9 (.first 2 (.first 3 (.first 8 (.first 10 (.first 11 .done))))) .no)) (.alt 9 (.alt 2 (.alt 3 (.first 4 (.first 8 (.first 10 (.first 11 .done)))) (.alt 4 (.first 3 (.first 8 (.first 10 (.first 11 .done)))) .no)) (.alt 4 (.first 2 (.first 3 (.first 8 (.first 10 (.first 11 .done))))) .no)) .no))) (.alt 2 (.first 0 (.alt 3 (.first 4 (.alt 8 (.first 9 (.first 10 (.first 11 .done))) (.alt 9 (.first 8 (.first 10 (.first 11 .done))) .no))) (.alt 4 (.alt 3 (.alt 8 (.first 9 (.first 10 (.first 11 .done))) (.alt 9 (.first 8 (.first 10 (.first 11 .done))) .no)) (.alt 9 (.first 3 (.first 8 (.first 10 (.first 11 .done)))) .no)) (.alt 9 (.alt 3 (.first 4 (.first 8 (.first 10 (.first 11 .done)))) (.alt 4 (.first 3 (.first 8 (.first 10 (.first 11 .done)))) .no)) .no)))) (.alt 4 (.alt 0 (.alt 2 (.alt 3 (.alt 8 (.first 9 (.first 10 (.first 11 .done))) (.alt 9 (.first 8 (.first 10 (.first 11 .done))) .no)) (.alt 9 (.first 3 (.first 8 (.first 10 (.first 11 .done)))) .no)) (.alt 9 (.first 2 (.first 3 (.first 8 (.first 10 (.first 11 .done))))) .no)) (.alt 2 (.first 0 (.alt 3 (.alt 8 (.first 9 (.first 10 (.first 11 .done))) (.alt 9 (.first 8 (.first 10 (.first 11 .done))) .no)) (.alt 9 (.first 3 (.first 8 (.first 10 (.first 11 .done)))) .no))) (.alt 9 (.alt 0 (.first 2 (.first 3 (.first 8 (.first 10 (.first 11 .done))))) (.alt 2 (.first 0 (.first 3 (.first 8 (.first 10 (.first 11 .done))))) .no)) .no))) (.alt 9 (.alt 0 (.alt 2 (.alt 3 (.first 4 (.first 8 (.first 10 (.first 11 .done)))) (.alt 4 (.first 3 (.first 8 (.first 10 (.first 11 .done)))) .no)) (.alt 4 (.first 2 (.first 3 (.first 8 (.first 10 (.first 11 .done))))) .no)) (.alt 2 (.first 0 (.alt 3 (.first 4 (.first 8 (.first 10 (.first 11 .done)))) (.alt 4 (.first 3 (.first 8 (.first 10 (.first 11 .done)))) .no))) (.alt 4 (.alt 0 (.first 2 (.first 3 (.first 8 (.first 10 (.first 11 .done))))) (.alt 2 (.first 0 (.first 3 (.first 8 (.first 10 (.first 11 .done))))) .no)) .no))) .no)))))))) (by kernel_rfl) ?_
  refine qw (fun K0 hK0=>?_)
  repeat' first|refine zPw ?_|intro _ _ hs|intro K0 hK0
  iterate 14 (
   all_goals try exact trivial
   all_goals try (refine c87 (by omega) hpr (fun H5 hn=>?_);have hs:=qL hs hn;clear hn)
   all_goals try (refine c157 (by omega) (by omega) (yy0 kt (by omega) (by omega)) (by omega) (fun H5 j hn=>?_);have hs:=hs.call hn rfl;clear hn)
   all_goals try (refine And.intro ?_ ?_)
   all_goals try (
    repeat' first|refine zPw ?_|intro _ _ hs|intro K0 hK0
    ))
  all_goals first
   | exact⟨(_,_,_,_),pkH hs [3,4,5,2,0,1],⟨⟨_,rfl, .rfl⟩,⟨_,rfl, .rfl⟩,⟨_,rfl, .rfl⟩,⟨_,rfl, .rfl⟩,⟨_,rfl, .rfl⟩,⟨_,rfl, .rfl⟩,⟨_,rfl, .rfl⟩,trivial⟩, .rfl⟩
   | exact⟨(_,_,_,_),pkH hs [3,4,5,2,1,0],⟨⟨_,rfl, .rfl⟩,⟨_,rfl, .rfl⟩,⟨_,rfl, .rfl⟩,⟨_,rfl, .rfl⟩,⟨_,rfl, .rfl⟩,⟨_,rfl, .rfl⟩,⟨_,rfl, .rfl⟩,trivial⟩, .rfl⟩
   | exact⟨(_,_,_,_),pkH hs [3,4,5,1,2,0],⟨⟨_,rfl, .rfl⟩,⟨_,rfl, .rfl⟩,⟨_,rfl, .rfl⟩,⟨_,rfl, .rfl⟩,⟨_,rfl, .rfl⟩,⟨_,rfl, .rfl⟩,⟨_,rfl, .rfl⟩,trivial⟩, .rfl⟩
 ·clear hs
  rintro ⟨H4,ka,w,kw⟩ hs;dsimp only at hs ⊢;have hlA:(spnF t 0 (blkF t)).length<=10000:=by rw[yR];omega
  have hlO:(spnF t r (r+1)).length<=10000:=by rw[yR,Int.add_mul];omega
  unfold finF at h
  repeat' first|refine zQw ?_|intro _ _ hs|intro K0 hK0|intro hc|refine dI ?_ ?_
  all_goals (repeat (first | rw[if_pos (by omega)] at h | rw[if_neg (by omega)] at h))
  all_goals try (
   refine c155 (l := []) (yD0 hs) (hs.get 3 rfl) (neH hs 3 0) (neH hs 3 1) hlA (Nat.zero_le _) (fr:=fun _=>t.ro) (fs:=fun i=>i) (fun i H5 R5 hlt h5 hR=>c158 (uU0 hs h5 0 rfl) hR) (fun v H5 k2 h2=>?_);have hs:=qW hs h2;clear h2;rw[List.length_nil,Nat.zero_add] at hs
   first | rw[wX0] at h | rw[wu0] at h
   repeat' first|refine zPw ?_|intro _ _ hs|intro K0 hK0
   exact h _ k2 (pkH hs [1])
   done)
  all_goals try (
   refine c156 (l := []) (yD0 hs) (hs.get 3 rfl) (neH hs 3 0) (neH hs 3 1) hlA (Nat.zero_le _) (fun v H5 k2 h2=>?_);have hs:=qW hs h2;clear h2;rw[List.length_nil,Nat.zero_add] at hs
   first | rw[wX0] at h | rw[wu0] at h
   repeat' first|refine zPw ?_|intro _ _ hs|intro K0 hK0
   exact h _ k2 (pkH hs [1])
   done)
end Go.Af.Tryz
