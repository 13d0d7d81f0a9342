/- A part of the proof. -/
import Derived.Test.YtmnjcogpchodhaaGreatMHK2
import Derived.Test.YtmnjcogpchodhaaGreatMCA
import Derived.Test.YtmnjcogpchodhaaGreatMHK
set_option linter.all false
set_option maxHeartbeats 4000000
set_option maxRecDepth 100000
namespace Go.Af.Tryz
open Go Go.Proofs Tryz
open Go.Af.Coll (St befF)
attribute [local irreducible] awp qj qI qK qE qm isCells ql qi qB qx qh roundEnd zG wZ keyK wE

theorem wX {t:Tk} (kt:TkOk t) (v:Int):0<=relF t v/\relF t v<=128:=by
 have:=QA kt v;have:=kt.pr;omega
theorem wU {t:Tk} (kt:TkOk t) (v:Int):0<=v % t.pr/\v % t.pr<=128:=by
 have:=wO kt v;have:=kt.pr;omega
theorem Vd0 {t:Tk} (kt:TkOk t):AddV 66 [.int .i64 1] t (t.pr-1).toNat (fun r=>stsF r (qM (gaL t) t.pr)):=by
 have hpl:(qM (gaL t) t.pr).length=(t.pr-1).toNat:=by simp[qM]
 intro H mb k b c r S R hm hr hl h;dsimp only at hl h;have hpr:=kt.pr;have hro:=kt.ro;have hpa:=kt.pa;have hlg:=wL t.pr;have hsp:=qX hpa;refine avN call66 func66 ntmps66 ?_;have hs:=hm
 repeat' first|refine zPw ?_|intro _ _ hs|intro K0 hK0
 refine qf (α := MdS) tok (fun z=>MkH H (fun x=>x=mb\/x=k) mb z.k t b c (r+z.i) z.S [] z.H/\z.S++stsF (r+z.i) ((qM (gaL t) t.pr).drop z.i)=S++stsF (r) (qM (gaL t) t.pr)/\z.i<=(t.pr-1).toNat)
  (fun z=>[(0,pM mb),(1, .int .i64 1),(4, .int .i64 t.pr),(5, .int .i64 (z.i:Int))]) (fun z=>z.H) (fun z=>(t.pr-1).toNat-z.i)
  ⟨_,_,_,0⟩ ⟨hs,rfl,Nat.zero_le _⟩ (Or.inl ⟨⟨rfl,rfl,rfl,rfl,trivial⟩,rfl⟩) ?_
 clear hs;rintro ⟨H2,k2,S2,i⟩ ⟨hs,hS,hi⟩;dsimp only at hs hS hi ⊢;by_cases hil:(i:Int)<t.pr-1
 ·skip
  have hD:=qY (r:=r) (i:=i) (L:=qM (gaL t) t.pr) (by omega);rw[xA hil] at hD;rw[hD,<- List.append_assoc] at hS;have hSl:=congrArg List.length hS;simp only[List.length_append] at hSl;generalize hG:S2++stRd ((r+i:Nat):Int) (gaL t (i:Int))=G at hS;have hGl:=congrArg List.length hG;rw[List.length_append] at hGl;rw[show gaL t (i:Int) = [blM t (relF t ((i:Int)+1)) t.ro (relF t ((i:Int)+1)) (relF t ((i:Int)+1)) 0] from rfl] at hG;rw[yl] at hG;have hGl2:=congrArg List.length hG;simp only[List.length_append,qN] at hGl2
  try dsimp only[blM] at hGl2
  repeat' first|refine zLw ?_|intro _ _ hs|intro K0 hK0|intro hc|refine dI ?_ ?_
  refine (c151 hpa (by first | omega | exact wX kt _ | exact wU kt _) (by first | omega | exact wX kt _ | exact wU kt _)) (qZ hs) (by omega) (by simp only[qN];(try dsimp only[blM]);omega) (fun H6 k6 hn=>?_);have hs:=qW hs hn;clear hn;subst hG
  repeat' first|refine zLw ?_|intro _ _ hs|intro K0 hK0|intro hc|refine dI ?_ ?_
  exact⟨⟨_,k6,_,i+1⟩,⟨hs,hS,by dsimp only;omega⟩,by dsimp only;omega,Or.inl ⟨⟨rfl,rfl,rfl,rfl,trivial⟩,rfl⟩⟩
 ·skip
  have hie:i=(t.pr-1).toNat:=by omega
  repeat' first|refine zLw ?_|intro _ _ hs|intro K0 hK0|intro hc|refine dI ?_ ?_
  rw[List.drop_of_length_le (by omega),hie] at hS;refine h _ k2 ?_;rw[<- hS,stsF,List.append_nil,<- hie];exact hs
theorem Vb0 {t:Tk} {a:Int} (kt:TkOk t) (ha:a≠2):AddV 67 [.int .i64 a] t (t.pr-1).toNat (fun r=>stsF r (qM (stL t) t.pr)):=by
 have hpl:(qM (stL t) t.pr).length=(t.pr-1).toNat:=by simp[qM]
 intro H mb k b c r S R hm hr hl h;dsimp only at hl h;have hpr:=kt.pr;have hro:=kt.ro;have hpa:=kt.pa;have hlg:=wL t.pr;have hsp:=qX hpa;refine avN call67 func67 ntmps67 ?_;have hs:=hm
 repeat' first|refine zQw ?_|intro _ _ hs|intro K0 hK0|intro hc|refine dI ?_ ?_
 refine qf (α := MdS) tok (fun z=>MkH H (fun x=>x=mb\/x=k) mb z.k t b c (r+z.i) z.S [] z.H/\z.S++stsF (r+z.i) ((qM (stL t) t.pr).drop z.i)=S++stsF (r) (qM (stL t) t.pr)/\z.i<=(t.pr-1).toNat)
  (fun z=>[(0,pM mb),(4, .int .i64 (z.i:Int))]) (fun z=>z.H) (fun z=>(t.pr-1).toNat-z.i)
  ⟨_,_,_,0⟩ ⟨hs,rfl,Nat.zero_le _⟩ (Or.inl ⟨⟨rfl,rfl,trivial⟩,rfl⟩) ?_
 clear hs;rintro ⟨H2,k2,S2,i⟩ ⟨hs,hS,hi⟩;dsimp only at hs hS hi ⊢;by_cases hil:(i:Int)<t.pr-1
 ·skip
  have hD:=qY (r:=r) (i:=i) (L:=qM (stL t) t.pr) (by omega);rw[xA hil] at hD;rw[hD,<- List.append_assoc] at hS;have hSl:=congrArg List.length hS;simp only[List.length_append] at hSl;generalize hG:S2++stRd ((r+i:Nat):Int) (stL t (i:Int))=G at hS;have hGl:=congrArg List.length hG;rw[List.length_append] at hGl;rw[show stL t (i:Int) = [blM t t.ro (relF t ((i:Int)+1)) (relF t ((i:Int)+1)) (relF t ((i:Int)+1)) 0] from rfl] at hG;rw[yl] at hG;have hGl2:=congrArg List.length hG;simp only[List.length_append,qN] at hGl2
  try dsimp only[blM] at hGl2
  repeat' first|refine zLw ?_|intro _ _ hs|intro K0 hK0|intro hc|refine dI ?_ ?_
  refine (c151 hpa (by first | omega | exact wX kt _ | exact wU kt _) (by first | omega | exact wX kt _ | exact wU kt _)) (qZ hs) (by omega) (by simp only[qN];(try dsimp only[blM]);omega) (fun H6 k6 hn=>?_);have hs:=qW hs hn;clear hn;subst hG
  repeat' first|refine zLw ?_|intro _ _ hs|intro K0 hK0|intro hc|refine dI ?_ ?_
  exact⟨⟨_,k6,_,i+1⟩,⟨hs,hS,by dsimp only;omega⟩,by dsimp only;omega,Or.inl ⟨⟨rfl,rfl,trivial⟩,rfl⟩⟩
 ·skip
  have hie:i=(t.pr-1).toNat:=by omega
  repeat' first|refine zLw ?_|intro _ _ hs|intro K0 hK0|intro hc|refine dI ?_ ?_
  rw[List.drop_of_length_le (by omega),hie] at hS;refine h _ k2 ?_;rw[<- hS,stsF,List.append_nil,<- hie];exact hs
theorem Vc0 {t:Tk} {a:Int} (kt:TkOk t) (ha:a≠1):AddV 66 [.int .i64 a] t (lgF t.pr) (fun r=>stsF r (powF (gaT t) t.pr)):=by
 have hpl:(powF (gaT t) t.pr).length=lgF t.pr:=by simp[powF]
 intro H mb k b c r S R hm hr hl h;dsimp only at hl h;have hpr:=kt.pr;have hro:=kt.ro;have hpa:=kt.pa;have hlg:=wL t.pr;have hsp:=qX hpa;refine avN call66 func66 ntmps66 ?_;have hs:=hm
 repeat' first|refine zQw ?_|intro _ _ hs|intro K0 hK0|intro hc|refine dI ?_ ?_
 refine qf (α := MdS) tok (fun z=>MkH H (fun x=>x=mb\/x=k) mb z.k t b c (r+z.i) z.S [] z.H/\z.S++stsF (r+z.i) ((powF (gaT t) t.pr).drop z.i)=S++stsF (r) (powF (gaT t) t.pr)/\z.i<=lgF t.pr)
  (fun z=>[(0,pM mb),(4, .int .i64 t.pr),(7, .int .i64 (z.i:Int))]) (fun z=>z.H) (fun z=>lgF t.pr-z.i)
  ⟨_,_,_,0⟩ ⟨hs,rfl,Nat.zero_le _⟩ (Or.inl ⟨⟨rfl,rfl,rfl,trivial⟩,rfl⟩) ?_
 clear hs;rintro ⟨H2,k2,S2,i⟩ ⟨hs,hS,hi⟩;dsimp only at hs hS hi ⊢
 repeat' first|refine zPw ?_|intro _ _ hs|intro K0 hK0
 refine c150 hpr ?_;by_cases hil:i<lgF t.pr
 ·skip
  repeat' first|refine zQw ?_|intro _ _ hs|intro K0 hK0|intro hc|refine dI ?_ ?_
  have hp2:=zL (i:=i) (by omega);have hlt:=(Wp (p:=t.pr) (i:=i) hpr.2 (by omega)).2 hil
  have hbc:gaT t ((2:Int) ^ i)=(lpW ((2:Int) ^ i) (2*(2:Int) ^ i) t.pr).flatMap (gaG t ((2:Int) ^ i)):=by
   unfold gaT;rw[uD (by omega) (by omega)]
  have hD:=qY (r:=r) (i:=i) (L:=powF (gaT t) t.pr) (by omega);rw[VT hil] at hD;rw[hD,<- List.append_assoc] at hS;have hSl:=congrArg List.length hS;simp only[List.length_append] at hSl;generalize hG:S2++stRd ((r+i:Nat):Int) (gaT t ((2:Int) ^ i))=G at hS;have hGl:=congrArg List.length hG;rw[List.length_append] at hGl;rw[hbc] at hG
  repeat' first|refine zLw ?_|intro _ _ hs|intro K0 hK0|intro hc|refine dI ?_ ?_
  refine qf (α := MvS) tok (fun z=>MkH H (fun x=>x=mb\/x=k) mb z.k t b c (r+i) z.S [] z.H/\z.S++stRd ((r+i:Nat):Int) ((lpW z.v (2*(2:Int) ^ i) (t.pr)).flatMap (gaG t ((2:Int) ^ i)))=G/\0<=z.v/\z.v<=1000)
   (fun z=>[(0,pM mb),(4, .int .i64 t.pr),(7, .int .i64 (i:Int)),(8, .int .i64 z.v)]) (fun z=>z.H) (fun z=>(1000-z.v).toNat)
   ⟨_,_,_,(2:Int) ^ i⟩ ⟨hs,hG,by dsimp only;omega,by dsimp only;omega⟩ (Or.inl ⟨⟨rfl,rfl,rfl,rfl,trivial⟩,rfl⟩) ?_
  clear hs hG;rintro ⟨H3,k3,S3,v⟩ ⟨hs,hG,hv0,hv⟩;dsimp only at hs hG hv0 hv ⊢;by_cases hvl:v<t.pr
  ·skip
   have hgw:gaG t ((2:Int) ^ i) v=(lpW v 1 (min (v+(2:Int) ^ i) t.pr)).map (gaM t ((2:Int) ^ i) v):=by
    unfold gaG;rw[uD (by omega) (by omega)]
   rw[qQ (by omega) hvl,List.flatMap_cons,Qc,<- List.append_assoc] at hG;have hGl2:=congrArg List.length hG;simp only[List.length_append] at hGl2;generalize hG2:S3++stRd ((r+i:Nat):Int) (gaG t ((2:Int) ^ i) v)=G2 at hG;have hGl3:=congrArg List.length hG2;rw[List.length_append] at hGl3;rw[hgw] at hG2
   repeat' first|refine zLw ?_|intro _ _ hs|intro K0 hK0|intro hc|refine dI ?_ ?_
   refine qf (α := MvS) tok (fun z=>MkH H (fun x=>x=mb\/x=k) mb z.k t b c (r+i) z.S [] z.H/\z.S++stRd ((r+i:Nat):Int) ((lpW z.v (1) (min (v+(2:Int) ^ i) t.pr)).map (gaM t ((2:Int) ^ i) v))=G2/\v<=z.v/\z.v<=1000)
    (fun z=>[(0,pM mb),(4, .int .i64 t.pr),(7, .int .i64 (i:Int)),(8, .int .i64 v),(9, .int .i64 z.v)]) (fun z=>z.H) (fun z=>(1000-z.v).toNat)
    ⟨_,_,_,v⟩ ⟨hs,hG2,by dsimp only;omega,by dsimp only;omega⟩ (Or.inl ⟨⟨rfl,rfl,rfl,rfl,rfl,trivial⟩,rfl⟩) ?_
   clear hs hG2;rintro ⟨H5,k5,S5,w⟩ ⟨hs,hG2,hw0,hw⟩;dsimp only at hs hG2 hw0 hw ⊢;by_cases hwl:w<min (v+(2:Int) ^ i) t.pr
   ·skip
    rw[qQ (by omega) hwl,List.map_cons,qR,<- List.append_assoc] at hG2;have hGl4:=congrArg List.length hG2;simp only[List.length_append,qN] at hGl4
    try dsimp only[gaM,blM] at hGl4
    repeat' first|refine zLw ?_|intro _ _ hs|intro K0 hK0|intro hc|refine dI ?_ ?_
    refine wo tok mx [0,0,0,6,0,0,0,64,224,510,0,0,4094,0,0,32766,65535] [false,false,false,false,false,false,false,false,false,false,false,false,false,false,false,false,false] [0,1,2,4,5,6,7,8,10,11,13,14,3,9,12,15,16] (by kernel_rfl) ?_;refine vT (fun K0 hK0=>?_)
    repeat' first|refine zLw ?_|intro _ _ hs|intro K0 hK0|intro hc|refine dI ?_ ?_|(refine (c151 hpa (by first | omega | exact wX kt _ | exact wU kt _) (by first | omega | exact wX kt _ | exact wU kt _)) (qZ hs) (by omega) (by simp only[qN];(try dsimp only[blM]);omega) (fun H6 k6 hn=>?_);have hs:=qW hs hn;clear hn)
    exact⟨⟨_,k6,_,w+1⟩,⟨hs,hG2,by dsimp only;omega,by dsimp only;omega⟩,by dsimp only;omega,Or.inl ⟨⟨rfl,rfl,rfl,rfl,rfl,trivial⟩,rfl⟩⟩
   ·skip
    rw[vw (by omega),List.map_nil,show stRd ((r+i:Nat):Int) [] = [] from rfl,List.append_nil] at hG2;subst hG2
    repeat' first|refine zLw ?_|intro _ _ hs|intro K0 hK0|intro hc|refine dI ?_ ?_
    all_goals exact⟨⟨_,k5,_,v+2*(2:Int) ^ i⟩,⟨hs,hG,by dsimp only;omega,by dsimp only;omega⟩,by dsimp only;omega,Or.inl ⟨⟨rfl,rfl,rfl,rfl,trivial⟩,rfl⟩⟩
  ·skip
   rw[vw (by omega),List.flatMap_nil,show stRd ((r+i:Nat):Int) [] = [] from rfl,List.append_nil] at hG;subst hG
   repeat' first|refine zLw ?_|intro _ _ hs|intro K0 hK0|intro hc|refine dI ?_ ?_
   all_goals exact⟨⟨_,k3,_,i+1⟩,⟨hs,hS,hil⟩,by dsimp only;omega,Or.inl ⟨⟨rfl,rfl,rfl,trivial⟩,rfl⟩⟩
 ·skip
  have hie:i=lgF t.pr:=by omega
  repeat' first|refine zLw ?_|intro _ _ hs|intro K0 hK0|intro hc|refine dI ?_ ?_
  rw[List.drop_of_length_le (by omega),hie] at hS;refine h _ k2 ?_;rw[<- hS,stsF,List.append_nil,<- hie];exact hs
end Go.Af.Tryz
namespace Go.Af.Tryz
open Go Go.Proofs Tryz
open Go.Af.Coll (St befF)
attribute [local irreducible] awp qj qI qK qE qm isCells ql qi qB qx qh roundEnd zG wZ keyK wE

theorem xor_i {a b:Int} {K:Int->Prop} (h:K (xorF a b)) : ∃ z,IntKind.i64.wrap ((BitVec.ofInt IntKind.i64.bits a ^^^ BitVec.ofInt IntKind.i64.bits b).toNat:Int)=z/\K z:=⟨_,rfl,h⟩
theorem Xo (ρ f to j:Int) (xs:List Int):stM ρ ⟨f,to,xs,xs,j⟩=xs.map (fun x=>⟨ρ,f,to,x,x,j⟩):=by
 unfold stM;refine List.ext_getElem (by simp) (fun n h1 h2=>?_);simp only[List.length_map,List.length_range] at h1;simp only[List.getElem_map,List.getElem_range];rw[getElem!_pos xs n h1]
theorem Wx {α : Type} (ρ f to j:Int) (q : α->List Int) : ∀ l:List α,stM ρ ⟨f,to,l.flatMap q,l.flatMap q,j⟩=stRd ρ (l.map (fun y=>(⟨f,to,q y,q y,j⟩:Msg)))
 | []=>rfl
 | y::l=>by
   rw[List.map_cons,qR,<- Wx ρ f to j q l,Xo,Xo,Xo,List.flatMap_cons,List.map_append]
theorem uA0 (x:Int) (n m:Nat):(List.range (n+m)).map (fun i:Nat=>x+(i:Int))=(List.range n).map (fun i:Nat=>x+(i:Int))++(List.range m).map (fun i:Nat=>x+n+(i:Int)):=by
 rw[List.range_add,List.map_append,List.map_map];congr 1
 apply List.map_congr_left
 intro i _;simp only[Function.comp_apply];omega
theorem um0 {t:Tk} (hp:0<=t.pa) {a b c:Int} (h1:a<=b) (h2:b<=c):spnF t a c=spnF t a b++spnF t b c:=by
 have m1:a*t.pa<=b*t.pa:=Int.mul_le_mul_of_nonneg_right h1 hp;have m2:b*t.pa<=c*t.pa:=Int.mul_le_mul_of_nonneg_right h2 hp;unfold spnF;rw[show (c*t.pa-a*t.pa).toNat=(b*t.pa-a*t.pa).toNat+(c*t.pa-b*t.pa).toNat by omega,uA0];congr 1
 apply List.map_congr_left
 intro i _;omega
theorem qH0 {t:Tk} (hp:0<=t.pa) {a c:Int} (h:a<=c):spnF t a c=(lpW a 1 c).flatMap (fun y=>spnF t y (y+1)):=by
 obtain ⟨n,rfl⟩ : ∃ n:Nat,c=a+n:=⟨(c-a).toNat,by omega⟩;clear h
 induction n generalizing a with
 | zero =>
   rw[vw (by omega)];unfold spnF;rw[show ((a+(0:Nat))*t.pa-a*t.pa).toNat=0 by rw[show a+((0:Nat):Int)=a by omega];omega];rfl
 | succ n ih =>
   rw[qQ (by decide) (by omega),List.flatMap_cons,um0 hp (b:=a+1) (by omega) (by omega)];have:=ih (a:=a+1);rw[show a+1+(n:Int)=a+((n+1:Nat):Int) by omega] at this;rw[this]
theorem ZH {t:Tk} (hp:0<=t.pa) (ρ f to j:Int) {a c:Int} (h:a<=c):stM ρ ⟨f,to,spnF t a c,spnF t a c,j⟩=stRd ρ ((lpW a 1 c).map (fun y=>blM t f to y y j)):=by
 rw[qH0 hp h,Wx]
theorem wn0 {α : Type} (f:Int->α) (a:Int) (n:Nat):(lpW a 1 (a+n)).map f=(lpW 0 1 n).map (fun i=>f (a+i)):=by
 rw[<- WX f n a];have:=WX (fun i=>f (a+i)) n 0;rw[Int.zero_add] at this;rw[<- this]
 apply List.map_congr_left
 intro i _;rw[Int.zero_add]
theorem WY (i:Nat):(2:Int)*2 ^ i=2 ^ (i+1):=by rw[Int.pow_succ,Int.mul_comm]
theorem QZ0 {t:Tk} (kt:TkOk t):AddV 68 [.int .i64 7] t (t.pr-1).toNat (fun r=>stsF r (qM (evF t (Qr t)) t.pr)):=by
 have hpl:(qM (evF t (Qr t)) t.pr).length=(t.pr-1).toNat:=by simp[qM]
 intro H mb k b c r S R hm hr hl h;dsimp only at hl h;have hpr:=kt.pr;have hro:=kt.ro;have hpa:=kt.pa;have hlg:=wL t.pr;have hsp:=qX hpa;refine avN call68 func68 ntmps68 ?_;have hs:=hm
 repeat' first|refine zPw ?_|intro _ _ hs|intro K0 hK0
 refine qf (α := MdS) tok (fun z=>MkH H (fun x=>x=mb\/x=k) mb z.k t b c (r+z.i) z.S [] z.H/\z.S++stsF (r+z.i) ((qM (evF t (Qr t)) t.pr).drop z.i)=S++stsF (r) (qM (evF t (Qr t)) t.pr)/\z.i<=(t.pr-1).toNat)
  (fun z=>[(0,pM mb),(1, .int .i64 7),(4, .int .i64 t.pr),(5, .int .i64 (z.i:Int))]) (fun z=>z.H) (fun z=>(t.pr-1).toNat-z.i)
  ⟨_,_,_,0⟩ ⟨hs,rfl,Nat.zero_le _⟩ (Or.inl ⟨⟨rfl,rfl,rfl,rfl,trivial⟩,rfl⟩) ?_
 clear hs;rintro ⟨H2,k2,S2,i⟩ ⟨hs,hS,hi⟩;dsimp only at hs hS hi ⊢;by_cases hil:(i:Int)<t.pr-1
 ·skip
  have hD:=qY (r:=r) (i:=i) (L:=qM (evF t (Qr t)) t.pr) (by omega);rw[xA hil] at hD;rw[hD,<- List.append_assoc] at hS;have hSl:=congrArg List.length hS;simp only[List.length_append] at hSl;generalize hG:S2++stRd ((r+i:Nat):Int) (evF t (Qr t) (i:Int))=G at hS;have hGl:=congrArg List.length hG;rw[List.length_append] at hGl;rw[ev_W t (Qr t) (i:Int) (by omega)] at hG
  repeat' first|refine zLw ?_|intro _ _ hs|intro K0 hK0|intro hc|refine dI ?_ ?_
  refine qf (α := MvS) tok (fun z=>MkH H (fun x=>x=mb\/x=k) mb z.k t b c (r+i) z.S [] z.H/\z.S++stRd ((r+i:Nat):Int) ((lpW z.v (1) (t.pr)).map (Qr t (i:Int)))=G/\0<=z.v/\z.v<=1000)
   (fun z=>[(0,pM mb),(1, .int .i64 7),(4, .int .i64 t.pr),(5, .int .i64 (i:Int)),(6, .int .i64 z.v)]) (fun z=>z.H) (fun z=>((t.pr)-z.v).toNat)
   ⟨_,_,_,0⟩ ⟨hs,hG,by dsimp only;omega,by dsimp only;omega⟩ (Or.inl ⟨⟨rfl,rfl,rfl,rfl,rfl,trivial⟩,rfl⟩) ?_
  clear hs hG;rintro ⟨H3,k3,S3,v⟩ ⟨hs,hG,hv0,hv⟩;dsimp only at hs hG hv0 hv ⊢;by_cases hvl:v<t.pr
  ·skip
   rw[qQ (by omega) hvl,List.map_cons,qR,<- List.append_assoc] at hG;have hGl2:=congrArg List.length hG;simp only[List.length_append,qN] at hGl2
   try dsimp only[Qr,blM] at hGl2
   repeat' first|refine zLw ?_|intro _ _ hs|intro K0 hK0|intro hc|refine dI ?_ ?_|(refine (c151 hpa (by first | omega | exact wX kt _ | exact wU kt _) (by first | omega | exact wX kt _ | exact wU kt _)) (qZ hs) (by omega) (by simp only[qN];(try dsimp only[blM]);omega) (fun H6 k6 hn=>?_);have hs:=qW hs hn;clear hn)
   exact⟨⟨_,k6,_,v+1⟩,⟨hs,hG,by dsimp only;omega,by dsimp only;omega⟩,by dsimp only;omega,Or.inl ⟨⟨rfl,rfl,rfl,rfl,rfl,trivial⟩,rfl⟩⟩
  ·skip
   rw[vw (by omega),List.map_nil,show stRd ((r+i:Nat):Int) [] = [] from rfl,List.append_nil] at hG;subst hG
   repeat' first|refine zLw ?_|intro _ _ hs|intro K0 hK0|intro hc|refine dI ?_ ?_
   all_goals exact⟨⟨_,k3,_,i+1⟩,⟨hs,hS,by dsimp only;omega⟩,by dsimp only;omega,Or.inl ⟨⟨rfl,rfl,rfl,rfl,trivial⟩,rfl⟩⟩
 ·skip
  have hie:i=(t.pr-1).toNat:=by omega
  repeat' first|refine zLw ?_|intro _ _ hs|intro K0 hK0|intro hc|refine dI ?_ ?_
  rw[List.drop_of_length_le (by omega),hie] at hS;refine h _ k2 ?_;rw[<- hS,stsF,List.append_nil,<- hie];exact hs
theorem QY0 {t:Tk} (kt:TkOk t):AddV 68 [.int .i64 6] t (lgF t.pr) (fun r=>stsF r (powF (evF t (yG t)) t.pr)):=by
 have hpl:(powF (evF t (yG t)) t.pr).length=lgF t.pr:=by simp[powF]
 intro H mb k b c r S R hm hr hl h;dsimp only at hl h;have hpr:=kt.pr;have hro:=kt.ro;have hpa:=kt.pa;have hlg:=wL t.pr;have hsp:=qX hpa;refine avN call68 func68 ntmps68 ?_;have hs:=hm
 repeat' first|refine zQw ?_|intro _ _ hs|intro K0 hK0|intro hc|refine dI ?_ ?_
 refine qf (α := MdS) tok (fun z=>MkH H (fun x=>x=mb\/x=k) mb z.k t b c (r+z.i) z.S [] z.H/\z.S++stsF (r+z.i) ((powF (evF t (yG t)) t.pr).drop z.i)=S++stsF (r) (powF (evF t (yG t)) t.pr)/\z.i<=lgF t.pr)
  (fun z=>[(0,pM mb),(1, .int .i64 6),(4, .int .i64 t.pr),(8, .int .i64 ((2:Int) ^ z.i))]) (fun z=>z.H) (fun z=>lgF t.pr-z.i)
  ⟨_,_,_,0⟩ ⟨hs,rfl,Nat.zero_le _⟩ (Or.inl ⟨⟨rfl,rfl,rfl,rfl,trivial⟩,rfl⟩) ?_
 clear hs;rintro ⟨H2,k2,S2,i⟩ ⟨hs,hS,hi⟩;dsimp only at hs hS hi ⊢;have hp2:=zL (i:=i) (by omega);have hlt:=Wp (p:=t.pr) (i:=i) hpr.2 (by omega);by_cases hil:i<lgF t.pr
 ·have hlt:=hlt.2 hil
  have hD:=qY (r:=r) (i:=i) (L:=powF (evF t (yG t)) t.pr) (by omega);rw[VT hil] at hD;rw[hD,<- List.append_assoc] at hS;have hSl:=congrArg List.length hS;simp only[List.length_append] at hSl;generalize hG:S2++stRd ((r+i:Nat):Int) (evF t (yG t) ((2:Int) ^ i))=G at hS;have hGl:=congrArg List.length hG;rw[List.length_append] at hGl;rw[ev_W t (yG t) ((2:Int) ^ i) (by omega)] at hG
  repeat' first|refine zLw ?_|intro _ _ hs|intro K0 hK0|intro hc|refine dI ?_ ?_
  refine qf (α := MvS) tok (fun z=>MkH H (fun x=>x=mb\/x=k) mb z.k t b c (r+i) z.S [] z.H/\z.S++stRd ((r+i:Nat):Int) ((lpW z.v (1) (t.pr)).map (yG t ((2:Int) ^ i)))=G/\0<=z.v/\z.v<=1000)
   (fun z=>[(0,pM mb),(1, .int .i64 6),(4, .int .i64 t.pr),(8, .int .i64 ((2:Int) ^ i)),(9, .int .i64 z.v)]) (fun z=>z.H) (fun z=>((t.pr)-z.v).toNat)
   ⟨_,_,_,0⟩ ⟨hs,hG,by dsimp only;omega,by dsimp only;omega⟩ (Or.inl ⟨⟨rfl,rfl,rfl,rfl,rfl,trivial⟩,rfl⟩) ?_
  clear hs hG;rintro ⟨H3,k3,S3,v⟩ ⟨hs,hG,hv0,hv⟩;dsimp only at hs hG hv0 hv ⊢;by_cases hvl:v<t.pr
  ·have hq:=yO (r:=v) (i:=(2:Int) ^ i) hv0 hp2.1
   have hx:=xx (a:=v) (b:=(2:Int) ^ i) (by omega) (by omega)
   have hmm:stM ((r+i:Nat):Int) (yG t ((2:Int) ^ i) v)=stRd ((r+i:Nat):Int) ((lpW 0 1 ((2:Int) ^ i)).map (fun j=>blM t v (xorF v ((2:Int) ^ i)) (v.tdiv ((2:Int) ^ i)*(2:Int) ^ i+j) (v.tdiv ((2:Int) ^ i)*(2:Int) ^ i+j) 0)):=by
    unfold yG;rw[<- hq.1,ZH (by omega) _ _ _ _ (by omega)];have:=wn0 (fun y=>blM t v (xorF v ((2:Int) ^ i)) y y 0) (v.tdiv ((2:Int) ^ i)*(2:Int) ^ i) ((2:Int) ^ i).toNat;rw[show (((2:Int) ^ i).toNat:Int)=(2:Int) ^ i by omega] at this;rw[this]
   rw[qQ (by omega) hvl,List.map_cons,qR,<- List.append_assoc] at hG;have hGl2:=congrArg List.length hG;simp only[List.length_append] at hGl2;generalize hG2:S3++stM ((r+i:Nat):Int) (yG t ((2:Int) ^ i) v)=G2 at hG;have hGl3:=congrArg List.length hG2;rw[List.length_append] at hGl3;rw[hmm] at hG2
   repeat' first|refine zLw ?_|intro _ _ hs|intro K0 hK0|intro hc|refine dI ?_ ?_
   refine qf (α := MvS) tok (fun z=>MkH H (fun x=>x=mb\/x=k) mb z.k t b c (r+i) z.S [] z.H/\z.S++stRd ((r+i:Nat):Int) ((lpW z.v (1) ((2:Int) ^ i)).map (fun j=>blM t v (xorF v ((2:Int) ^ i)) (v.tdiv ((2:Int) ^ i)*(2:Int) ^ i+j) (v.tdiv ((2:Int) ^ i)*(2:Int) ^ i+j) 0))=G2/\0<=z.v/\z.v<=1000)
    (fun z=>[(0,pM mb),(1, .int .i64 6),(4, .int .i64 t.pr),(8, .int .i64 ((2:Int) ^ i)),(9, .int .i64 v),(10, .int .i64 z.v)]) (fun z=>z.H) (fun z=>(1000-z.v).toNat)
    ⟨_,_,_,0⟩ ⟨hs,hG2,by dsimp only;omega,by dsimp only;omega⟩ (Or.inl ⟨⟨rfl,rfl,rfl,rfl,rfl,rfl,trivial⟩,rfl⟩) ?_
   clear hs hG2;rintro ⟨H5,k5,S5,w⟩ ⟨hs,hG2,hw0,hw⟩;dsimp only at hs hG2 hw0 hw ⊢;by_cases hwl:w<(2:Int) ^ i
   ·skip
    rw[qQ (by omega) hwl,List.map_cons,qR,<- List.append_assoc] at hG2;have hGl4:=congrArg List.length hG2;simp only[List.length_append,qN] at hGl4
    try dsimp only[blM] at hGl4
    repeat' first|refine zLw ?_|intro _ _ hs|intro K0 hK0|intro hc|refine dI ?_ ?_|(refine (c151 hpa (by first | omega | exact wX kt _ | exact wU kt _) (by first | omega | exact wX kt _ | exact wU kt _)) (qZ hs) (by omega) (by simp only[qN];(try dsimp only[blM]);omega) (fun H6 k6 hn=>?_);have hs:=qW hs hn;clear hn)
    exact⟨⟨_,k6,_,w+1⟩,⟨hs,hG2,by dsimp only;omega,by dsimp only;omega⟩,by dsimp only;omega,Or.inl ⟨⟨rfl,rfl,rfl,rfl,rfl,rfl,trivial⟩,rfl⟩⟩
   ·skip
    rw[vw (by omega),List.map_nil,show stRd ((r+i:Nat):Int) [] = [] from rfl,List.append_nil] at hG2;subst hG2
    repeat' first|refine zLw ?_|intro _ _ hs|intro K0 hK0|intro hc|refine dI ?_ ?_
    all_goals exact⟨⟨_,k5,_,v+1⟩,⟨hs,hG,by dsimp only;omega,by dsimp only;omega⟩,by dsimp only;omega,Or.inl ⟨⟨rfl,rfl,rfl,rfl,rfl,trivial⟩,rfl⟩⟩
  ·skip
   rw[vw (by omega),List.map_nil,show stRd ((r+i:Nat):Int) [] = [] from rfl,List.append_nil] at hG;subst hG
   repeat' first|refine zLw ?_|intro _ _ hs|intro K0 hK0|intro hc|refine dI ?_ ?_
   rw[WY] at *
   all_goals exact⟨⟨_,k3,_,i+1⟩,⟨hs,hS,hil⟩,by dsimp only;omega,Or.inl ⟨⟨rfl,rfl,rfl,rfl,trivial⟩,rfl⟩⟩
 ·have hlt : ¬ (2:Int) ^ i<t.pr:=fun e=>hil (hlt.1 e)
  have hie:i=lgF t.pr:=by omega
  repeat' first|refine zLw ?_|intro _ _ hs|intro K0 hK0|intro hc|refine dI ?_ ?_
  rw[List.drop_of_length_le (by omega),hie] at hS;refine h _ k2 ?_;rw[<- hS,stsF,List.append_nil,<- hie];exact hs
end Go.Af.Tryz
