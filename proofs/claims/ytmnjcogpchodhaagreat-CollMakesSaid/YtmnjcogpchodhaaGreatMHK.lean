/- A part of the proof. -/
import Derived.Test.YtmnjcogpchodhaaGreatMHJ
import Derived.Test.YtmnjcogpchodhaaGreatMGF
import Derived.Test.YtmnjcogpchodhaaGreatMCA
set_option linter.all false
set_option maxHeartbeats 4000000
set_option maxRecDepth 100000
namespace Go.Af.Tryz
open Go Go.Proofs Tryz
open Go.Af.Coll (St befF)
attribute [local irreducible] awp qj qI qK qE qm isCells ql qi qB qx qh roundEnd zG wZ keyK wE
variable {H:List Blk}
variable {R:Value->List Blk->Prop}

abbrev mkL (t:Tk) (b c:Nat) (r:Nat) (k n:Nat):List Value:=tkC t b c ++ [.int .i64 (r:Int),sv k n]
abbrev mkB (t:Tk) (b c:Nat) (r:Nat) (k n:Nat):Blk := .cells true 1 (mkL t b c r k n)
abbrev MkH (H0:List Blk) (o:Nat->Prop) (mb k:Nat) (t:Tk) (b c r:Nat) (S:List St) (L:List (Bool × Nat × Blk)) (H:List Blk):Prop:=HS H0 o ((true,mb,mkB t b c r k S.length)::(true,k, .cells true 6 (stsC S))::L) H
theorem qZ {Hs H:List Blk} {o0:Nat->Prop} {a k:Nat} {A K:Blk} {L:List (Bool × Nat × Blk)} (h:HS Hs o0 ((true,a,A)::(true,k,K)::L) H):HS H (fun x=>x=a\/x=k) [(true,a,A),(true,k,K)] H:=by
 have n:=h.ne 0 1 rfl rfl (by decide)
 exact ((HS.start H _).add (c:=true) (h.get 1 rfl) (fun i p hi=>by simp at hi) (fun _=>.inl (.inr rfl))).add (c:=true) (h.get 0 rfl) (fun i p hi=>by
  match i,hi with
  | 0,hi=>cases hi;exact n.symm) (fun _=>.inl (.inl rfl))
theorem wV {Hs H:List Blk} {o0:Nat->Prop} {a k:Nat} {A K:Blk} {p:Bool × Nat × Blk} {L:List (Bool × Nat × Blk)} (h:HS Hs o0 (p::(true,a,A)::(true,k,K)::L) H):HS H (fun x=>x=a\/x=k) [(true,a,A),(true,k,K)] H:=qZ h.tail
theorem wW {Hs H H' : List Blk} {o0:Nat->Prop} {a k k' : Nat} {A A' K K' : Blk} {p:Bool × Nat × Blk} {L:List (Bool × Nat × Blk)} (h:HS Hs o0 (p::(true,a,A)::(true,k,K)::L) H) (h2:HS H (fun x=>x=a\/x=k) [(true,a,A'),(true,k',K')] H'):HS Hs o0 ((true,a,A')::(true,k',K')::L) H' := qW h.tail h2
def AddV (fn:Nat) (vs:List Value) (t:Tk) (n:Nat) (new:Nat->List St):Prop :=
 ∀ {H:List Blk} {mb k b c r:Nat} {S:List St} {R:Value->List Blk->Prop},MkH H (fun x=>x=mb\/x=k) mb k t b c r S [] H->r+n<=1000000->S.length+(new r).length<=1000000000 ->
   (∀ H' k',MkH H (fun x=>x=mb\/x=k) mb k' t b c (r+n) (S++new r) [] H' -> R (.tuple ⟨[]⟩) H')->qj prog fn (pM mb::vs) H R
structure MdS where
 H:List Blk
 k:Nat
 S:List St
 i:Nat
theorem gmod {a p:Int} (hp:0<p):(a.tmod p+p).tmod p=a % p:=by
 have h1:=Int.emod_nonneg a (show p≠0 by omega);have h2:=Int.emod_lt_of_pos a hp;rcases Int.le_total 0 a with h | h
 ·rw[Int.tmod_eq_emod_of_nonneg h,Int.tmod_eq_emod_of_nonneg (by omega),Int.add_emod_right,Int.emod_emod_of_dvd _ (Int.dvd_refl p)]
 ·have e:a.tmod p = -((-a) % p):=by
   rw[<- Int.tmod_eq_emod_of_nonneg (show 0 <= -a by omega),Int.neg_tmod,Int.neg_neg]
  have h3:=Int.emod_nonneg (-a) (show p≠0 by omega);have h4:=Int.emod_lt_of_pos (-a) hp;rw[e,Int.tmod_eq_emod_of_nonneg (by omega),Int.add_emod_right];have hq:=Int.emod_add_mul_ediv (-a) p
  have e2:a = -(-a % p)+p*(-(-a / p)):=by
   rw[Int.mul_neg];generalize p*(-a / p)=q at *;omega
  conv=>rhs;rw[e2,Int.add_mul_emod_self_left]
theorem c147 {mb:Nat} {w:Bool} {t:Tk} {b c:Nat} {x y:Value} {a:Int} (hb:bget H mb=some (.cells w 1 (tkC t b c ++ [x,y]))) (hp:1<=t.pr/\t.pr<=64) (ha : -1000000<=a/\a<=1000000) (h:R (.int .i64 (a % t.pr)) H):qj prog 147 [pM mb, .int .i64 a] H R:=by
 have hw:=gmod (a:=a) (p:=t.pr) (by omega);have hr:=QQ (x:=a) hp.1;have hs0:t.pr≠0:=by omega
 rw[<- hw] at h;refine avN call147 func147 ntmps147 ?_;have hs:HS H none' [(false,mb, .cells w 1 (tkC t b c ++ [x,y]))] H:=adH (HS.start H none') hb
 repeat' first|refine zPw ?_|intro _ _ hs|intro K0 hK0
 refine qp tok mx [0,0,2,6,14,30,63,0,128,384,896,1920,4095,0,8192,24576,57344,122880,262143,524287] [false,false,false,false,false,false,false,true,true,true,true,true,false,true,true,true,true,true,false,false] (.first 0 (.first 1 (.first 2 (.first 3 (.first 4 (.first 5 (.first 6 (.first 7 (.first 8 (.first 9 (.first 10 (.first 11 (.first 12 (.first 13 (.first 14 (.first 15 (.first 16 (.first 17 (.first 18 (.first 19 .done)))))))))))))))))))) (by kernel_rfl) ?_;refine qw (fun K0 hK0=>?_)
 repeat' first|refine zPw ?_|intro _ _ hs|intro K0 hK0
 exact h
theorem c141 {mb:Nat} {w:Bool} {t:Tk} {b c:Nat} {x y:Value} {a:Int} (hb:bget H mb=some (.cells w 1 (tkC t b c ++ [x,y]))) (hp:1<=t.pr/\t.pr<=64) (hro:0<=t.ro/\t.ro<t.pr) (ha : -100000<=a/\a<=100000) (h:R (.int .i64 (relF t a)) H):qj prog 141 [pM mb, .int .i64 a] H R:=by
 refine avN call141 func141 ntmps141 ?_;have hs:HS H none' [(false,mb, .cells w 1 (tkC t b c ++ [x,y]))] H:=adH (HS.start H none') hb
 repeat' first|refine zPw ?_|intro _ _ hs|intro K0 hK0|refine c147 hb hp (by omega) ?_
 exact h
theorem c142 {mb:Nat} {w:Bool} {t:Tk} {b c:Nat} {x y:Value} (hb:bget H mb=some (.cells w 1 (tkC t b c ++ [x,y]))) (hp:1<=t.pa/\t.pa<=16) (h : ∀ H' k,HS H none' [(true,k,rw' (spnF t 0 1))] H' -> R (sv k (spnF t 0 1).length) H'):qj prog 142 [pM mb] H R:=by
 refine avN call142 func142 ntmps142 ?_;have hs:HS H none' [(false,mb, .cells w 1 (tkC t b c ++ [x,y]))] H:=adH (HS.start H none') hb
 repeat' first|refine zPw ?_|intro _ _ hs|intro K0 hK0|refine c94 (by decide) (by decide) (by omega) (by omega) (fun H2 k hn=>?_)
 exact h _ k hn
theorem c152 {x y:Int} (h:R (.int .i64 (sidF x y)) H):qj prog 152 [.int .i64 x, .int .i64 y] H R:=by
 refine avN call152 func152 ntmps152 ?_;have hs:=HS.start H none';unfold sidF at h
 repeat' first|refine zQw ?_|intro _ _ hs|intro K0 hK0|intro hc|refine dI ?_ ?_
 all_goals (
  (repeat (first | rw[if_pos (by omega)] at h | rw[if_neg (by omega)] at h))
  exact h)
theorem vB0 {i:Nat} {K:Value->Prop} (hi:i<=7) (h:K (.int .i64 ((2:Int) ^ i))):numK .i64 (1*2 ^ (min (i:Int).toNat IntKind.i64.bits)) K:=by
 have e:min (i:Int).toNat IntKind.i64.bits=i:=by
  show min (i:Int).toNat 64=i;omega
 rw[e,Int.one_mul];refine .inl ⟨_,rfl, ?_,h⟩;have : ∀ j,j<8->1<=(2:Int) ^ j/\(2:Int) ^ j<=128:=by decide
 have:=this i (by omega);unfold I64;omega
theorem shl_2 {i:Nat} {K:Value->Prop} (hi:i<=7) (h:K (.int .i64 (2*(2:Int) ^ i))):numK .i64 (2*2 ^ (min (i:Int).toNat IntKind.i64.bits)) K:=by
 have e:min (i:Int).toNat IntKind.i64.bits=i:=by
  show min (i:Int).toNat 64=i;omega
 rw[e];refine .inl ⟨_,rfl, ?_,h⟩;have : ∀ j,j<8->1<=(2:Int) ^ j/\(2:Int) ^ j<=128:=by decide
 have:=this i (by omega);unfold I64;omega
theorem c150 {p:Int} (hp:1<=p/\p<=64) (h:R (.int .i64 (lgF p:Int)) H):qj prog 150 [.int .i64 p] H R:=by
 refine avN call150 func150 ntmps150 ?_;have hs:=HS.start H none';have hlg:=wL p
 repeat' first|refine zPw ?_|intro _ _ hs|intro K0 hK0
 refine qf (α := Nat) tok (fun z=>z<=lgF p) (fun z=>[(0, .int .i64 p),(3, .int .i64 (z:Int))]) (fun _=>H) (fun z=>lgF p-z)
  0 (Nat.zero_le _) (Or.inl ⟨⟨rfl,rfl,trivial⟩,rfl⟩) ?_
 rintro i hi;have hlt:=Wp (p:=p) (i:=i) hp.2 (by omega);have hpw:=zL (i:=i) (by omega)
 repeat' first|refine zQw ?_|intro _ _ hs|intro K0 hK0|intro hc|refine dI ?_ ?_
 refine vB0 (i:=i) (by omega) ?_;by_cases hil:i<lgF p
 ·have:=hlt.2 hil
  repeat' first|refine zQw ?_|intro _ _ hs|intro K0 hK0|intro hc|refine dI ?_ ?_
  exact⟨i+1,hil,by omega,Or.inl ⟨⟨rfl,rfl,trivial⟩,rfl⟩⟩
 ·have : ¬ (2:Int) ^ i<p:=fun e=>hil (hlt.1 e)
  have hie:i=lgF p:=by omega
  subst hie
  repeat' first|refine zQw ?_|intro _ _ hs|intro K0 hK0|intro hc|refine dI ?_ ?_
  exact h
theorem c140 {mb k b c r j:Nat} {w:Bool} {t:Tk} {S:List St} {fr to jn:Int} {xs:List Int} (hm:MkH H (fun x=>x=mb\/x=k) mb k t b c r S [] H) (hr:r<=1000000) (hl:S.length+xs.length<=1000000000)
 (hj:bget H j=some (.cells w 1 (ints xs))) (nj:j≠mb/\j≠k) (h : ∀ H' k',MkH H (fun x=>x=mb\/x=k) mb k' t b c r (S++stM (r:Int) ⟨fr,to,xs,xs,jn⟩) [] H' -> R (.tuple ⟨[]⟩) H') :
 qj prog 140 [pM mb, .int .i64 fr, .int .i64 to,sv j xs.length, .int .i64 jn] H R:=by
 refine avN call140 func140 ntmps140 ?_;have uj : ∀ {L H'},HS H (fun q=>q=mb\/q=k) L H' -> bget H' j=some (.cells w 1 (ints xs)):=fun hs=>(hs.u.2 j (qJ hj) (fun hh=>hh.elim nj.1 nj.2)).trans hj
 have hs:=hm
 repeat' first|refine zPw ?_|intro _ _ hs|intro K0 hK0
 refine qf (α := MdS) tok (fun z=>MkH H (fun x=>x=mb\/x=k) mb z.k t b c r z.S [] z.H/\z.S=S++(stM (r:Int) ⟨fr,to,xs,xs,jn⟩).take z.i/\z.i<=xs.length)
  (fun z=>[(0,pM mb),(1, .int .i64 fr),(2, .int .i64 to),(3,sv j xs.length),(4, .int .i64 jn),(10, .int .i64 (z.i:Int))]) (fun z=>z.H) (fun z=>xs.length-z.i)
  ⟨H,k,S,0⟩ ⟨hm,by simp,Nat.zero_le _⟩ (Or.inl ⟨⟨rfl,rfl,rfl,rfl,rfl,rfl,trivial⟩,rfl⟩) ?_
 clear hs;rintro ⟨H2,k2,S2,i⟩ ⟨hs,hS,hi⟩;dsimp only at hs hS hi ⊢;by_cases hil:i<xs.length
 ·have hl2:S2.length=S.length+i:=by rw[hS,List.length_append,List.length_take,qN];dsimp only;omega
  repeat' first|refine zQw ?_|intro _ _ hs|intro K0 hK0|intro hc|refine dI ?_ ?_
  refine wo tok mx [0,0,2,6,14,0,32,96,224,0,0,0,0,6144,14336,0,0,98304,229376,0,1048544,2097120,4194302,8388607,16777215,33554431] [false,false,false,false,false,true,true,true,true,true,true,true,true,true,true,true,true,true,true,true,true,true,false,false,false,false] [0,1,2,3,4,5,6,7,8,9,10,11,12,13,14,15,16,17,18,19,20,21,22,23,24,25] (by kernel_rfl) ?_;refine vT (fun K0 hK0=>?_)
  repeat' first|refine zQw ?_|intro _ _ hs|intro K0 hK0|intro hc|refine dI ?_ ?_
  refine qO (uj hs) ⟨i,rfl,hil, ?_⟩
  repeat' first|refine zQw ?_|intro _ _ hs|intro K0 hK0|intro hc|refine dI ?_ ?_
  refine qF (uj hs) (vM hil ?_)
  repeat' first|refine zQw ?_|intro _ _ hs|intro K0 hK0|intro hc|refine dI ?_ ?_
  refine qO (uj hs) ⟨i,rfl,hil, ?_⟩
  repeat' first|refine zQw ?_|intro _ _ hs|intro K0 hK0|intro hc|refine dI ?_ ?_
  refine qF (uj hs) (vM hil ?_)
  repeat' first|refine zQw ?_|intro _ _ hs|intro K0 hK0|intro hc|refine dI ?_ ?_
  refine vZ hs 2 (us:=stC ⟨(r:Int),fr,to,xs[i]!,xs[i]!,jn⟩) rfl (by decide) (hs.get 0 rfl) rfl rfl (by rw[xC,Nat.mul_comm]) (by dsimp only;omega) (fun H5 k' _ _ hs=>?_);rw[<- zy] at hs
  repeat' first|refine zQw ?_|intro _ _ hs|intro K0 hK0|intro hc|refine dI ?_ ?_
  have hs:=pkH hs [1,2] (L' := [(true,mb, .cells true 1 (tkC t b c ++ [.int .i64 (r:Int),sv k' (S2.length+1)])),(true,k', .cells true 6 (stsC (S2 ++ [⟨(r:Int),fr,to,xs[i]!,xs[i]!,jn⟩])))]);rw[show S2.length+1=(S2 ++ [(⟨(r:Int),fr,to,xs[i]!,xs[i]!,jn⟩:St)]).length by simp] at hs;exact⟨⟨_,k',_,i+1⟩,⟨hs,by dsimp only;rw[Xn _ _ hil,hS,List.append_assoc],hil⟩,by dsimp only;omega,Or.inl ⟨⟨rfl,rfl,rfl,rfl,rfl,rfl,trivial⟩,rfl⟩⟩
 ·have hie:i=xs.length:=by omega
  repeat' first|refine zQw ?_|intro _ _ hs|intro K0 hK0|intro hc|refine dI ?_ ?_
  refine h _ k2 ?_;rw[List.take_of_length_le (by rw[qN];dsimp only;omega)] at hS;rw[<- hS];exact hs
theorem yt0 {t:Tk} {f:Int} {i:Nat} (hi:(i:Int)<t.pa):(spnF t f (f+1))[i]! = f*t.pa+(i:Int):=by
 have hl:=yR t f (f+1);rw[show (f+1)*t.pa-f*t.pa=t.pa by rw[Int.add_mul];omega] at hl;rw[getElem!_pos _ i (by omega)];unfold spnF;simp
theorem c151 {t:Tk} {fr to sr ds jn:Int} (hp:1<=t.pa/\t.pa<=16) (h1:0<=sr/\sr<=128) (h2:0<=ds/\ds<=128):AddV 151 [.int .i64 fr, .int .i64 to, .int .i64 sr, .int .i64 ds, .int .i64 jn] t 0 (fun r=>stM (r:Int) (blM t fr to sr ds jn)):=by
 intro H mb k b c r S R hm hr hl h;refine avN call151 func151 ntmps151 ?_;have hl1:=yR t sr (sr+1);rw[show (sr+1)*t.pa-sr*t.pa=t.pa by rw[Int.add_mul];omega] at hl1;have hml:(stM (r:Int) (blM t fr to sr ds jn)).length=t.pa.toNat:=by rw[qN];exact hl1
 have m1:0<=sr*t.pa/\sr*t.pa<=128*16:=⟨Int.mul_nonneg h1.1 (by omega),Int.mul_le_mul h1.2 hp.2 (by omega) (by omega)⟩;have m2:0<=ds*t.pa/\ds*t.pa<=128*16:=⟨Int.mul_nonneg h2.1 (by omega),Int.mul_le_mul h2.2 hp.2 (by omega) (by omega)⟩;have hs:=hm
 repeat' first|refine zPw ?_|intro _ _ hs|intro K0 hK0
 refine qf (α := MdS) tok (fun z=>MkH H (fun x=>x=mb\/x=k) mb z.k t b c r z.S [] z.H/\z.S=S++(stM (r:Int) (blM t fr to sr ds jn)).take z.i/\z.i<=t.pa.toNat)
  (fun z=>[(0,pM mb),(1, .int .i64 fr),(2, .int .i64 to),(3, .int .i64 sr),(4, .int .i64 ds),(5, .int .i64 jn),(12, .int .i64 (z.i:Int))]) (fun z=>z.H) (fun z=>t.pa.toNat-z.i)
  ⟨H,k,S,0⟩ ⟨hm,by simp,Nat.zero_le _⟩ (Or.inl ⟨⟨rfl,rfl,rfl,rfl,rfl,rfl,rfl,trivial⟩,rfl⟩) ?_
 clear hs;rintro ⟨H2,k2,S2,i⟩ ⟨hs,hS,hi⟩;dsimp only at hs hS hi ⊢;have hl2:S2.length=S.length+i:=by rw[hS,List.length_append,List.length_take,hml];omega
 by_cases hil:(i:Int)<t.pa
 ·skip
  repeat' first|refine zQw ?_|intro _ _ hs|intro K0 hK0|intro hc|refine dI ?_ ?_
  refine wo tok mx [0,0,2,6,14,0,32,96,224,0,0,0,0,4096,12288,28672,61440,129024,0,522240,0,0,2097152,6291456,14680064,31457280,66060288,0,267386880,0,1073741792,2147483616,4294967294,8589934591,17179869183,34359738367] [false,false,false,false,false,true,true,true,true,true,true,true,true,true,true,true,true,true,true,true,true,true,true,true,true,true,true,true,true,true,true,true,false,false,false,false] [0,1,2,3,4,5,6,7,8,9,10,11,12,13,14,15,16,17,18,19,20,21,22,23,24,25,26,27,28,29,30,31,32,33,34,35] (by kernel_rfl) ?_;refine vT (fun K0 hK0=>?_)
  repeat' first|refine zQw ?_|intro _ _ hs|intro K0 hK0|intro hc|refine dI ?_ ?_
  refine vZ hs 2 (us:=stC ⟨(r:Int),fr,to,sr*t.pa+(i:Int),ds*t.pa+(i:Int),jn⟩) rfl (by decide) (hs.get 0 rfl) rfl rfl (by rw[xC,Nat.mul_comm]) (by dsimp only;omega) (fun H5 k' _ _ hs=>?_);rw[<- zy] at hs
  repeat' first|refine zQw ?_|intro _ _ hs|intro K0 hK0|intro hc|refine dI ?_ ?_
  have hs:=pkH hs [1,2] (L' := [(true,mb, .cells true 1 (tkC t b c ++ [.int .i64 (r:Int),sv k' (S2.length+1)])),(true,k', .cells true 6 (stsC (S2 ++ [⟨(r:Int),fr,to,sr*t.pa+(i:Int),ds*t.pa+(i:Int),jn⟩])))]);rw[show S2.length+1=(S2 ++ [(⟨(r:Int),fr,to,sr*t.pa+(i:Int),ds*t.pa+(i:Int),jn⟩:St)]).length by simp] at hs;refine⟨⟨_,k',_,i+1⟩,⟨hs, ?_,by dsimp only;omega⟩,by dsimp only;omega,Or.inl ⟨⟨rfl,rfl,rfl,rfl,rfl,rfl,rfl,trivial⟩,rfl⟩⟩;dsimp only;rw[Xn _ _ (by dsimp only;omega),hS,List.append_assoc];dsimp only;rw[yt0 hil,yt0 hil]
 ·have hie:i=t.pa.toNat:=by omega
  repeat' first|refine zQw ?_|intro _ _ hs|intro K0 hK0|intro hc|refine dI ?_ ?_
  refine h _ k2 ?_;rw[List.take_of_length_le (by omega)] at hS;rw[<- hS];exact hs
theorem c146 {t:Tk} {i:Int} {mb b c:Nat} {w:Bool} {x y:Value} (hb:bget H mb=some (.cells w 1 (tkC t b c ++ [x,y]))) (kt:TkOk t) (hi:0<=i/\i<t.pr) (h : ∀ H' k,HS H none' [(true,k,rw' (parF t i))] H' -> R (sv k (parF t i).length) H'):qj prog 146 [pM mb, .int .i64 i] H R:=by
 have hpr:=kt.pr;have hpa:=kt.pa;have m1:=zg (x:=i) hpa (by omega);have m2:=zg (x:=i+1) hpa (by omega);have hz:t.pr≠0:=by omega
 have q1:(i*t.pa).tdiv t.pr=i*t.pa / t.pr:=Int.tdiv_eq_ediv_of_nonneg m1.1;have q2:((i+1)*t.pa).tdiv t.pr=(i+1)*t.pa / t.pr:=Int.tdiv_eq_ediv_of_nonneg m2.1;have q3:0<=i*t.pa / t.pr:=Int.ediv_nonneg m1.1 (by omega);have q4:i*t.pa / t.pr<=(i+1)*t.pa / t.pr:=Int.ediv_le_ediv (by omega) (Int.mul_le_mul_of_nonneg_right (by omega) (by omega));have q5:(i+1)*t.pa / t.pr<=100000:=Int.le_trans (Int.ediv_le_self _ m2.1) m2.2;have hlen:=Ui t i;refine avN call146 func146 ntmps146 ?_;have hs:HS H none' [(false,mb, .cells w 1 (tkC t b c ++ [x,y]))] H:=adH (HS.start H none') hb;generalize hn:parF t i=xs at h hlen;have htk:=fun j=>@qc0 t i j
 rw[hn] at htk;rw[<- q1] at q3 q4 hlen htk;rw[<- q2] at q4 q5 hlen
 repeat' first|refine zPw ?_|intro _ _ hs|intro K0 hK0
 refine wo tok mx [0,0,2,6,14,30,63,0,128,384,896,1920,4095,8191] [false,false,false,false,false,false,false,true,true,true,true,true,false,false] [0,1,2,3,4,5,6,7,8,9,10,11,12,13] (by kernel_rfl) ?_;refine vT (fun K0 hK0=>?_)
 repeat' first|refine zPw ?_|intro _ _ hs|intro K0 hK0
 refine vC (α := List Blk × Nat × Nat) tok (fun z=>HS H none' [(true,z.2.1,rw' (xs.take z.2.2)),(false,mb, .cells w 1 (tkC t b c ++ [x,y]))] z.1/\z.2.2<=xs.length)
  (fun | ⟨_,k,j⟩=>[(0,pM mb),(1, .int .i64 i),(5,sv k j),(6, .int .i64 ((i*t.pa).tdiv t.pr+(j:Int)))]) (fun | ⟨H',_,_⟩=>H') (fun z=>xs.length-z.2.2)
  ⟨H ++ [rw' []],H.length,0⟩ ⟨pkH (hs.virt _) [0,1],Nat.zero_le _⟩ ⟨⟨_,rfl, .rfl⟩,⟨_,rfl, .rfl⟩,⟨_,rfl, .nil _⟩,⟨_,rfl,by rw[show (i*t.pa).tdiv t.pr+((0:Nat):Int)=(i*t.pa).tdiv t.pr by omega];exact .rfl⟩,trivial⟩ (WkH.rfl.app _) ?_
 clear hs;rintro ⟨H2,k,j⟩ ⟨hs,hj⟩;dsimp only at hs hj ⊢
 repeat' first|refine zPw ?_|intro _ _ hs|intro K0 hK0
 refine wo tok mx [0,0,2,0,8,24,56,120,254,0,512,1536,3584,7680,16382,32767] [false,false,false,false,false,false,false,false,false,true,true,true,true,true,false,false] [0,1,2,3,4,5,6,7,8,9,10,11,12,13,14,15] (by kernel_rfl) ?_;refine vT (fun K0 hK0=>?_)
 repeat' first|refine zPw ?_|intro _ _ hs|intro K0 hK0
 refine And.intro (fun hc=>?_) (fun hc=>?_)
 ·have hlt:j<xs.length:=by simp at hc;omega
  clear hc;have et:=htk j hlt
  repeat' first|refine zPw ?_|intro _ _ hs|intro K0 hK0
  refine vZ hs 1 (us := [.int .i64 ((i*t.pa).tdiv t.pr+(j:Int))]) rfl (by decide) (hs.get 0 rfl) rfl rfl (by show (ints (xs.take j)).length=j*1;rw[qU,List.length_take];omega) (by show (j+1)*(8+1)<=_;omega) (fun H4 k' e4 l4 hs=>?_)
  repeat' first|refine zPw ?_|intro _ _ hs|intro K0 hK0
  refine⟨⟨H4,k',j+1⟩,⟨?_,hlt⟩,by dsimp only;omega,Or.inl ⟨⟨rfl,rfl,rfl,by rw[show (i*t.pa).tdiv t.pr+((j+1:Nat):Int)=(i*t.pa).tdiv t.pr+(j:Int)+1 by omega];rfl,trivial⟩,rfl⟩⟩;dsimp only;rw[et];have:=pkH hs [1,2] (L' := [(true,k', .cells true 1 (ints (xs.take j) ++ [.int .i64 ((i*t.pa).tdiv t.pr+(j:Int))])),(false,mb, .cells w 1 (tkC t b c ++ [x,y]))]);rw[show ints (xs.take j) ++ [.int .i64 ((i*t.pa).tdiv t.pr+(j:Int))]=ints (xs.take j ++ [(i*t.pa).tdiv t.pr+(j:Int)]) from (by rw[zi];rfl)] at this;exact this
 ·have hie:j=xs.length:=by simp at hc;omega
  subst hie;rw[List.take_length] at hs
  repeat' first|refine zPw ?_|intro _ _ hs|intro K0 hK0
  exact h H2 k (pkH hs [0])
end Go.Af.Tryz
namespace Go.Af.Tryz
open Go Go.Proofs
theorem xor_j {a b:Int} {K:Int->Prop} (h:K (xorF a b)) : ∃ z,IntKind.i64.wrap ((BitVec.ofInt IntKind.i64.bits a ^^^ BitVec.ofInt IntKind.i64.bits b).toNat:Int)=z/\K z:=⟨_,rfl,h⟩
theorem c142h {H0 H:List Blk} {o:Nat->Prop} {L:List (Bool × Nat × Blk)} (hs:HS H0 o L H) {mb:Nat} {w:Bool} {t:Tk} {b c:Nat} {x y:Value} {R:Value->List Blk->Prop} (hb:bget H mb=some (.cells w 1 (tkC t b c ++ [x,y]))) (hp:1<=t.pa/\t.pa<=16) (h : ∀ (k:Nat) (H' : List Blk),HS H0 o ((true,k,rw' (spnF t 0 1))::L) H' -> R (sv k (spnF t 0 1).length) H'):qj Tryz.prog 142 [pM mb] H R:=c142 hb hp (fun H' k hn=>h k H' (hs.call hn rfl))
theorem c146h {H0 H:List Blk} {o:Nat->Prop} {L:List (Bool × Nat × Blk)} (hs:HS H0 o L H) {t:Tk} {i:Int} {mb b c:Nat} {w:Bool} {x y:Value} {R:Value->List Blk->Prop} (hb:bget H mb=some (.cells w 1 (tkC t b c ++ [x,y]))) (kt:TkOk t) (hi:0<=i/\i<t.pr) (h : ∀ (k:Nat) (H' : List Blk),HS H0 o ((true,k,rw' (parF t i))::L) H' -> R (sv k (parF t i).length) H'):qj Tryz.prog 146 [pM mb, .int .i64 i] H R:=c146 hb kt hi (fun H' k hn=>h k H' (hs.call hn rfl))
theorem zLw {G G' : Prop} (h:G') (w:G' -> G:=by first
 | exact fun h=>xor_j h
 | exact fun h=>zRw h
 | exact fun h=>hK0 _ _ h
 | exact fun h=>vB0 (i:=i) (by omega) h
 | exact fun h=>shl_2 (i:=i) (by omega) h
 | exact fun h=>c141 (hs.mem (by repeat (first | exact mH | refine mT ?_))) hpr hro (by omega) h
 | exact fun h=>c147 (hs.mem (by repeat (first | exact mH | refine mT ?_))) hpr (by omega) h
 | exact fun h=>c152 h
 | exact fun h=>c150 hpr h
 | exact fun h=>c142h hs (hs.mem (by repeat (first | exact mH | refine mT ?_))) hpa h
 | exact fun h=>c146h hs (hs.mem (by repeat (first | exact mH | refine mT ?_))) kt (by first | omega | exact wO kt _) h
 | exact fun h=>dF h
 | exact fun h=>dT h):G:=w h
end Go.Af.Tryz
