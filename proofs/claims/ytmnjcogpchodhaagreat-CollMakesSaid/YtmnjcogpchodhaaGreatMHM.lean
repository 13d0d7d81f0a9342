/- A part of the proof. -/
import Derived.Test.YtmnjcogpchodhaaGreatMHL
import Derived.Test.YtmnjcogpchodhaaGreatMCA
import Derived.Test.YtmnjcogpchodhaaGreatMHK
set_option linter.all false
set_option maxHeartbeats 4000000
set_option maxRecDepth 100000
namespace Go.Af.Tryz
open Go Go.Proofs Tryz
open Go.Af.Coll (St befF)
attribute [local irreducible] awp qj qI qK qE qm isCells ql qi qB qx qh roundEnd zG wZ keyK wE

theorem rng0_W {α : Type} (f:Int->α) (n:Nat):(List.range n).map (fun i:Nat=>f (i:Int))=(lpW 0 1 (n:Int)).map f:=by
 have:=WX f n 0;rw[Int.zero_add] at this;rw[<- this]
 apply List.map_congr_left
 intro i _;rw[Int.zero_add]
theorem QX0 {t:Tk} {a:Int} (kt:TkOk t) (h7:a≠7) (h6:a≠6):AddV 68 [.int .i64 a] t (lgF t.pr) (fun r=>stsF r (powF (evF t (yC t)) t.pr)):=by
 have hpl:(powF (evF t (yC t)) t.pr).length=lgF t.pr:=by simp[powF]
 intro H mb k b c r S R hm hr hl h;dsimp only at hl h;have hpr:=kt.pr;have hro:=kt.ro;have hpa:=kt.pa;have hlg:=wL t.pr;have hsp:=qX hpa;refine avN call68 func68 ntmps68 ?_;have hs:=hm
 repeat' first|refine zQw ?_|intro _ _ hs|intro K0 hK0|intro hc|refine dI ?_ ?_
 refine qf (α := MdS) tok (fun z=>MkH H (fun x=>x=mb\/x=k) mb z.k t b c (r+z.i) z.S [] z.H/\z.S++stsF (r+z.i) ((powF (evF t (yC t)) t.pr).drop z.i)=S++stsF (r) (powF (evF t (yC t)) t.pr)/\z.i<=lgF t.pr)
  (fun z=>[(0,pM mb),(1, .int .i64 a),(4, .int .i64 t.pr),(8, .int .i64 ((2:Int) ^ z.i))]) (fun z=>z.H) (fun z=>lgF t.pr-z.i)
  ⟨_,_,_,0⟩ ⟨hs,rfl,Nat.zero_le _⟩ (Or.inl ⟨⟨rfl,rfl,rfl,rfl,trivial⟩,rfl⟩) ?_
 clear hs;rintro ⟨H2,k2,S2,i⟩ ⟨hs,hS,hi⟩;dsimp only at hs hS hi ⊢;have hp2:=zL (i:=i) (by omega);have hlt:=Wp (p:=t.pr) (i:=i) hpr.2 (by omega);by_cases hil:i<lgF t.pr
 ·have hlt:=hlt.2 hil
  have hD:=qY (r:=r) (i:=i) (L:=powF (evF t (yC t)) t.pr) (by omega);rw[VT hil] at hD;rw[hD,<- List.append_assoc] at hS;have hSl:=congrArg List.length hS;simp only[List.length_append] at hSl;generalize hG:S2++stRd ((r+i:Nat):Int) (evF t (yC t) ((2:Int) ^ i))=G at hS;have hGl:=congrArg List.length hG;rw[List.length_append] at hGl;rw[ev_W t (yC t) ((2:Int) ^ i) (by omega)] at hG
  repeat' first|refine zLw ?_|intro _ _ hs|intro K0 hK0|intro hc|refine dI ?_ ?_
  refine qf (α := MvS) tok (fun z=>MkH H (fun x=>x=mb\/x=k) mb z.k t b c (r+i) z.S [] z.H/\z.S++stRd ((r+i:Nat):Int) ((lpW z.v (1) (t.pr)).map (yC t ((2:Int) ^ i)))=G/\0<=z.v/\z.v<=1000)
   (fun z=>[(0,pM mb),(1, .int .i64 a),(4, .int .i64 t.pr),(8, .int .i64 ((2:Int) ^ i)),(9, .int .i64 z.v)]) (fun z=>z.H) (fun z=>((t.pr)-z.v).toNat)
   ⟨_,_,_,0⟩ ⟨hs,hG,by dsimp only;omega,by dsimp only;omega⟩ (Or.inl ⟨⟨rfl,rfl,rfl,rfl,rfl,trivial⟩,rfl⟩) ?_
  clear hs hG;rintro ⟨H3,k3,S3,v⟩ ⟨hs,hG,hv0,hv⟩;dsimp only at hs hG hv0 hv ⊢;by_cases hvl:v<t.pr
  ·have hmm:stM ((r+i:Nat):Int) (yC t ((2:Int) ^ i) v)=stRd ((r+i:Nat):Int) ((lpW 0 1 (min ((2:Int) ^ i) (t.pr-(2:Int) ^ i))).map (fun j=>blM t v ((v-(2:Int) ^ i) % t.pr) ((v+j) % t.pr) ((v+j) % t.pr) 0)):=by
    unfold yC cycF;rw[Wx,rng0_W (fun j=>(⟨v,(v-(2:Int) ^ i) % t.pr,spnF t ((v+j) % t.pr) ((v+j) % t.pr+1),spnF t ((v+j) % t.pr) ((v+j) % t.pr+1),0⟩:Msg)),show ((brkN t ((2:Int) ^ i):Nat):Int)=min ((2:Int) ^ i) (t.pr-(2:Int) ^ i) by unfold brkN;omega]
   rw[qQ (by omega) hvl,List.map_cons,qR,<- List.append_assoc] at hG;have hGl2:=congrArg List.length hG;simp only[List.length_append] at hGl2;generalize hG2:S3++stM ((r+i:Nat):Int) (yC t ((2:Int) ^ i) v)=G2 at hG;have hGl3:=congrArg List.length hG2;rw[List.length_append] at hGl3;rw[hmm] at hG2
   repeat' first|refine zLw ?_|intro _ _ hs|intro K0 hK0|intro hc|refine dI ?_ ?_
   refine qf (α := MvS) tok (fun z=>MkH H (fun x=>x=mb\/x=k) mb z.k t b c (r+i) z.S [] z.H/\z.S++stRd ((r+i:Nat):Int) ((lpW z.v (1) (min ((2:Int) ^ i) (t.pr-(2:Int) ^ i))).map (fun j=>blM t v ((v-(2:Int) ^ i) % t.pr) ((v+j) % t.pr) ((v+j) % t.pr) 0))=G2/\0<=z.v/\z.v<=1000)
    (fun z=>[(0,pM mb),(1, .int .i64 a),(4, .int .i64 t.pr),(8, .int .i64 ((2:Int) ^ i)),(9, .int .i64 v),(10, .int .i64 z.v)]) (fun z=>z.H) (fun z=>(1000-z.v).toNat)
    ⟨_,_,_,0⟩ ⟨hs,hG2,by dsimp only;omega,by dsimp only;omega⟩ (Or.inl ⟨⟨rfl,rfl,rfl,rfl,rfl,rfl,trivial⟩,rfl⟩) ?_
   clear hs hG2;rintro ⟨H5,k5,S5,w⟩ ⟨hs,hG2,hw0,hw⟩;dsimp only at hs hG2 hw0 hw ⊢;by_cases hwl:w<min ((2:Int) ^ i) (t.pr-(2:Int) ^ i)
   ·skip
    rw[qQ (by omega) hwl,List.map_cons,qR,<- List.append_assoc] at hG2;have hGl4:=congrArg List.length hG2;simp only[List.length_append,qN] at hGl4
    try dsimp only[blM] at hGl4
    repeat' first|refine zLw ?_|intro _ _ hs|intro K0 hK0|intro hc|refine dI ?_ ?_|(refine (c151 hpa (by first | omega | exact wX kt _ | exact wU kt _) (by first | omega | exact wX kt _ | exact wU kt _)) (qZ hs) (by omega) (by simp only[qN];(try dsimp only[blM]);omega) (fun H6 k6 hn=>?_);have hs:=qW hs hn;clear hn)
    exact⟨⟨_,k6,_,w+1⟩,⟨hs,hG2,by dsimp only;omega,by dsimp only;omega⟩,by dsimp only;omega,Or.inl ⟨⟨rfl,rfl,rfl,rfl,rfl,rfl,trivial⟩,rfl⟩⟩
   ·by_cases hwh:w<(2:Int) ^ i
    ·skip
     repeat' first|refine zLw ?_|intro _ _ hs|intro K0 hK0|intro hc|refine dI ?_ ?_
     all_goals exact⟨⟨_,k5,_,w+1⟩,⟨hs,by dsimp only;rw[vw (by omega)] at hG2 ⊢; exact hG2,by dsimp only;omega,by dsimp only;omega⟩,by dsimp only;omega,Or.inl ⟨⟨rfl,rfl,rfl,rfl,rfl,rfl,trivial⟩,rfl⟩⟩
    ·skip
     rw[vw (by omega),List.map_nil,show stRd ((r+i:Nat):Int) [] = [] from rfl,List.append_nil] at hG2;subst hG2
     repeat' first|refine zLw ?_|intro _ _ hs|intro K0 hK0|intro hc|refine dI ?_ ?_
     all_goals exact⟨⟨_,k5,_,v+1⟩,⟨hs,hG,by dsimp only;omega,by dsimp only;omega⟩,by dsimp only;omega,Or.inl ⟨⟨rfl,rfl,rfl,rfl,rfl,trivial⟩,rfl⟩⟩
  ·skip
   rw[vw (by omega),List.map_nil,show stRd ((r+i:Nat):Int) [] = [] from rfl,List.append_nil] at hG;subst hG
   repeat' first|refine zLw ?_|intro _ _ hs|intro K0 hK0|intro hc|refine dI ?_ ?_
   rw[WY] at *
   all_goals exact⟨⟨_,k3,_,i+1⟩,⟨hs,hS,hil⟩,by dsimp only;omega,Or.inl ⟨⟨rfl,rfl,rfl,rfl,trivial⟩,rfl⟩⟩
 ·have hlt : ¬ (2:Int) ^ i<t.pr:=fun e=>hil (hlt.1 e)
  have hie:i=lgF t.pr:=by omega
  repeat' first|refine zLw ?_|intro _ _ hs|intro K0 hK0|intro hc|refine dI ?_ ?_
  rw[List.drop_of_length_le (by omega),hie] at hS;refine h _ k2 ?_;rw[<- hS,stsF,List.append_nil,<- hie];exact hs
theorem QS0 {t:Tk} (kt:TkOk t):AddV 70 [.int .i64 7] t (t.pr-1).toNat (fun r=>stsF r (qM (evF t (Qq t)) t.pr)):=by
 have hpl:(qM (evF t (Qq t)) t.pr).length=(t.pr-1).toNat:=by simp[qM]
 intro H mb k b c r S R hm hr hl h;dsimp only at hl h;have hpr:=kt.pr;have hro:=kt.ro;have hpa:=kt.pa;have hlg:=wL t.pr;have hsp:=qX hpa;refine avN call70 func70 ntmps70 ?_;have hs:=hm
 repeat' first|refine zPw ?_|intro _ _ hs|intro K0 hK0
 refine qf (α := MdS) tok (fun z=>MkH H (fun x=>x=mb\/x=k) mb z.k t b c (r+z.i) z.S [] z.H/\z.S++stsF (r+z.i) ((qM (evF t (Qq t)) t.pr).drop z.i)=S++stsF (r) (qM (evF t (Qq t)) t.pr)/\z.i<=(t.pr-1).toNat)
  (fun z=>[(0,pM mb),(1, .int .i64 7),(4, .int .i64 t.pr),(9, .int .i64 (z.i:Int))]) (fun z=>z.H) (fun z=>(t.pr-1).toNat-z.i)
  ⟨_,_,_,0⟩ ⟨hs,rfl,Nat.zero_le _⟩ (Or.inl ⟨⟨rfl,rfl,rfl,rfl,trivial⟩,rfl⟩) ?_
 clear hs;rintro ⟨H2,k2,S2,i⟩ ⟨hs,hS,hi⟩;dsimp only at hs hS hi ⊢;by_cases hil:(i:Int)<t.pr-1
 ·skip
  have hD:=qY (r:=r) (i:=i) (L:=qM (evF t (Qq t)) t.pr) (by omega);rw[xA hil] at hD;rw[hD,<- List.append_assoc] at hS;have hSl:=congrArg List.length hS;simp only[List.length_append] at hSl;generalize hG:S2++stRd ((r+i:Nat):Int) (evF t (Qq t) (i:Int))=G at hS;have hGl:=congrArg List.length hG;rw[List.length_append] at hGl;rw[ev_W t (Qq t) (i:Int) (by omega)] at hG
  repeat' first|refine zLw ?_|intro _ _ hs|intro K0 hK0|intro hc|refine dI ?_ ?_
  refine qf (α := MvS) tok (fun z=>MkH H (fun x=>x=mb\/x=k) mb z.k t b c (r+i) z.S [] z.H/\z.S++stRd ((r+i:Nat):Int) ((lpW z.v (1) (t.pr)).map (Qq t (i:Int)))=G/\0<=z.v/\z.v<=1000)
   (fun z=>[(0,pM mb),(1, .int .i64 7),(4, .int .i64 t.pr),(9, .int .i64 (i:Int)),(10, .int .i64 z.v)]) (fun z=>z.H) (fun z=>((t.pr)-z.v).toNat)
   ⟨_,_,_,0⟩ ⟨hs,hG,by dsimp only;omega,by dsimp only;omega⟩ (Or.inl ⟨⟨rfl,rfl,rfl,rfl,rfl,trivial⟩,rfl⟩) ?_
  clear hs hG;rintro ⟨H3,k3,S3,v⟩ ⟨hs,hG,hv0,hv⟩;dsimp only at hs hG hv0 hv ⊢;by_cases hvl:v<t.pr
  ·skip
   rw[qQ (by omega) hvl,List.map_cons,qR,<- List.append_assoc] at hG;have hGl2:=congrArg List.length hG;simp only[List.length_append,qN] at hGl2
   try dsimp only[Qq,blM] at hGl2
   repeat' first|refine zLw ?_|intro _ _ hs|intro K0 hK0|intro hc|refine dI ?_ ?_|(refine (c151 hpa (by first | omega | exact wX kt _ | exact wU kt _) (by first | omega | exact wX kt _ | exact wU kt _)) (qZ hs) (by omega) (by simp only[qN];(try dsimp only[blM]);omega) (fun H6 k6 hn=>?_);have hs:=qW hs hn;clear hn)
   exact⟨⟨_,k6,_,v+1⟩,⟨hs,hG,by dsimp only;omega,by dsimp only;omega⟩,by dsimp only;omega,Or.inl ⟨⟨rfl,rfl,rfl,rfl,rfl,trivial⟩,rfl⟩⟩
  ·skip
   rw[vw (by omega),List.map_nil,show stRd ((r+i:Nat):Int) [] = [] from rfl,List.append_nil] at hG;subst hG
   repeat' first|refine zLw ?_|intro _ _ hs|intro K0 hK0|intro hc|refine dI ?_ ?_
   all_goals exact⟨⟨_,k3,_,i+1⟩,⟨hs,hS,by dsimp only;omega⟩,by dsimp only;omega,Or.inl ⟨⟨rfl,rfl,rfl,rfl,trivial⟩,rfl⟩⟩
 ·skip
  have hie:i=(t.pr-1).toNat:=by omega
  repeat' first|refine zLw ?_|intro _ _ hs|intro K0 hK0|intro hc|refine dI ?_ ?_
  rw[List.drop_of_length_le (by omega),hie] at hS;refine h _ k2 ?_;rw[<- hS,stsF,List.append_nil,<- hie];exact hs
theorem QR0 {t:Tk} {a:Int} (kt:TkOk t) (h7:a≠7) (h11:a≠11):AddV 70 [.int .i64 a] t (t.pr-1).toNat (fun r=>stsF r (qM (evF t (Qp t)) t.pr)):=by
 have hpl:(qM (evF t (Qp t)) t.pr).length=(t.pr-1).toNat:=by simp[qM]
 intro H mb k b c r S R hm hr hl h;dsimp only at hl h;have hpr:=kt.pr;have hro:=kt.ro;have hpa:=kt.pa;have hlg:=wL t.pr;have hsp:=qX hpa;refine avN call70 func70 ntmps70 ?_;have hs:=hm
 repeat' first|refine zQw ?_|intro _ _ hs|intro K0 hK0|intro hc|refine dI ?_ ?_
 refine qf (α := MdS) tok (fun z=>MkH H (fun x=>x=mb\/x=k) mb z.k t b c (r+z.i) z.S [] z.H/\z.S++stsF (r+z.i) ((qM (evF t (Qp t)) t.pr).drop z.i)=S++stsF (r) (qM (evF t (Qp t)) t.pr)/\z.i<=(t.pr-1).toNat)
  (fun z=>[(0,pM mb),(1, .int .i64 a),(4, .int .i64 t.pr),(9, .int .i64 (z.i:Int))]) (fun z=>z.H) (fun z=>(t.pr-1).toNat-z.i)
  ⟨_,_,_,0⟩ ⟨hs,rfl,Nat.zero_le _⟩ (Or.inl ⟨⟨rfl,rfl,rfl,rfl,trivial⟩,rfl⟩) ?_
 clear hs;rintro ⟨H2,k2,S2,i⟩ ⟨hs,hS,hi⟩;dsimp only at hs hS hi ⊢;by_cases hil:(i:Int)<t.pr-1
 ·skip
  have hD:=qY (r:=r) (i:=i) (L:=qM (evF t (Qp t)) t.pr) (by omega);rw[xA hil] at hD;rw[hD,<- List.append_assoc] at hS;have hSl:=congrArg List.length hS;simp only[List.length_append] at hSl;generalize hG:S2++stRd ((r+i:Nat):Int) (evF t (Qp t) (i:Int))=G at hS;have hGl:=congrArg List.length hG;rw[List.length_append] at hGl;rw[ev_W t (Qp t) (i:Int) (by omega)] at hG
  repeat' first|refine zLw ?_|intro _ _ hs|intro K0 hK0|intro hc|refine dI ?_ ?_
  refine qf (α := MvS) tok (fun z=>MkH H (fun x=>x=mb\/x=k) mb z.k t b c (r+i) z.S [] z.H/\z.S++stRd ((r+i:Nat):Int) ((lpW z.v (1) (t.pr)).map (Qp t (i:Int)))=G/\0<=z.v/\z.v<=1000)
   (fun z=>[(0,pM mb),(1, .int .i64 a),(4, .int .i64 t.pr),(9, .int .i64 (i:Int)),(10, .int .i64 z.v)]) (fun z=>z.H) (fun z=>((t.pr)-z.v).toNat)
   ⟨_,_,_,0⟩ ⟨hs,hG,by dsimp only;omega,by dsimp only;omega⟩ (Or.inl ⟨⟨rfl,rfl,rfl,rfl,rfl,trivial⟩,rfl⟩) ?_
  clear hs hG;rintro ⟨H3,k3,S3,v⟩ ⟨hs,hG,hv0,hv⟩;dsimp only at hs hG hv0 hv ⊢;by_cases hvl:v<t.pr
  ·skip
   rw[qQ (by omega) hvl,List.map_cons,qR,<- List.append_assoc] at hG;have hGl2:=congrArg List.length hG;simp only[List.length_append,qN] at hGl2
   try dsimp only[Qp,blM] at hGl2
   repeat' first|refine zLw ?_|intro _ _ hs|intro K0 hK0|intro hc|refine dI ?_ ?_|(refine (c151 hpa (by first | omega | exact wX kt _ | exact wU kt _) (by first | omega | exact wX kt _ | exact wU kt _)) (qZ hs) (by omega) (by simp only[qN];(try dsimp only[blM]);omega) (fun H6 k6 hn=>?_);have hs:=qW hs hn;clear hn)
   exact⟨⟨_,k6,_,v+1⟩,⟨hs,hG,by dsimp only;omega,by dsimp only;omega⟩,by dsimp only;omega,Or.inl ⟨⟨rfl,rfl,rfl,rfl,rfl,trivial⟩,rfl⟩⟩
  ·skip
   rw[vw (by omega),List.map_nil,show stRd ((r+i:Nat):Int) [] = [] from rfl,List.append_nil] at hG;subst hG
   repeat' first|refine zLw ?_|intro _ _ hs|intro K0 hK0|intro hc|refine dI ?_ ?_
   all_goals exact⟨⟨_,k3,_,i+1⟩,⟨hs,hS,by dsimp only;omega⟩,by dsimp only;omega,Or.inl ⟨⟨rfl,rfl,rfl,rfl,trivial⟩,rfl⟩⟩
 ·skip
  have hie:i=(t.pr-1).toNat:=by omega
  repeat' first|refine zLw ?_|intro _ _ hs|intro K0 hK0|intro hc|refine dI ?_ ?_
  rw[List.drop_of_length_le (by omega),hie] at hS;refine h _ k2 ?_;rw[<- hS,stsF,List.append_nil,<- hie];exact hs
theorem QQ0 {t:Tk} (kt:TkOk t):AddV 71 [.int .i64 5] t (lgF t.pr+lgF t.pr) (fun r=>stsF r (powF (rdT t) t.pr++powF (bcT t) t.pr)):=by
 have hpl:(powF (rdT t) t.pr).length=lgF t.pr:=by simp[powF]
 intro H mb k b c r S R hm hr hl h;dsimp only at hl h;have hpr:=kt.pr;have hro:=kt.ro;have hpa:=kt.pa;have hlg:=wL t.pr;have hsp:=qX hpa;refine avN call71 func71 ntmps71 ?_;have hs:=hm;rw[xg,hpl,List.length_append] at hl
 repeat' first|refine zPw ?_|intro _ _ hs|intro K0 hK0
 refine (UC kt) (qZ hs) (by omega) (by dsimp only;omega) (fun H2 k2 hn=>?_);have hs:=qW hs hn;clear hn
 repeat' first|refine zPw ?_|intro _ _ hs|intro K0 hK0
 refine (UD kt) (qZ hs) (by omega) (by dsimp only;rw[List.length_append];omega) (fun H3 k3 hn=>?_);have hs:=qW hs hn;clear hn
 repeat' first|refine zPw ?_|intro _ _ hs|intro K0 hK0
 refine h _ k3 ?_;rw[xg,hpl,<- List.append_assoc,<- Nat.add_assoc];exact hs
theorem QP0 {t:Tk} {a:Int} (kt:TkOk t) (ha:a≠5):AddV 71 [.int .i64 a] t (lgF t.pr) (fun r=>stsF r (powF (evF t (Qn t)) t.pr)):=by
 have hpl:(powF (evF t (Qn t)) t.pr).length=lgF t.pr:=by simp[powF]
 intro H mb k b c r S R hm hr hl h;dsimp only at hl h;have hpr:=kt.pr;have hro:=kt.ro;have hpa:=kt.pa;have hlg:=wL t.pr;have hsp:=qX hpa;refine avN call71 func71 ntmps71 ?_;have hs:=hm
 repeat' first|refine zQw ?_|intro _ _ hs|intro K0 hK0|intro hc|refine dI ?_ ?_
 refine qf (α := MdS) tok (fun z=>MkH H (fun x=>x=mb\/x=k) mb z.k t b c (r+z.i) z.S [] z.H/\z.S++stsF (r+z.i) ((powF (evF t (Qn t)) t.pr).drop z.i)=S++stsF (r) (powF (evF t (Qn t)) t.pr)/\z.i<=lgF t.pr)
  (fun z=>[(0,pM mb),(4, .int .i64 ((2:Int) ^ z.i))]) (fun z=>z.H) (fun z=>lgF t.pr-z.i)
  ⟨_,_,_,0⟩ ⟨hs,rfl,Nat.zero_le _⟩ (Or.inl ⟨⟨rfl,rfl,trivial⟩,rfl⟩) ?_
 clear hs;rintro ⟨H2,k2,S2,i⟩ ⟨hs,hS,hi⟩;dsimp only at hs hS hi ⊢;have hp2:=zL (i:=i) (by omega);have hlt:=Wp (p:=t.pr) (i:=i) hpr.2 (by omega);by_cases hil:i<lgF t.pr
 ·have hlt:=hlt.2 hil
  have hD:=qY (r:=r) (i:=i) (L:=powF (evF t (Qn t)) t.pr) (by omega);rw[VT hil] at hD;rw[hD,<- List.append_assoc] at hS;have hSl:=congrArg List.length hS;simp only[List.length_append] at hSl;generalize hG:S2++stRd ((r+i:Nat):Int) (evF t (Qn t) ((2:Int) ^ i))=G at hS;have hGl:=congrArg List.length hG;rw[List.length_append] at hGl;rw[ev_W t (Qn t) ((2:Int) ^ i) (by omega)] at hG
  repeat' first|refine zLw ?_|intro _ _ hs|intro K0 hK0|intro hc|refine dI ?_ ?_
  refine qf (α := MvS) tok (fun z=>MkH H (fun x=>x=mb\/x=k) mb z.k t b c (r+i) z.S [] z.H/\z.S++stRd ((r+i:Nat):Int) ((lpW z.v (1) (t.pr)).map (Qn t ((2:Int) ^ i)))=G/\0<=z.v/\z.v<=1000)
   (fun z=>[(0,pM mb),(4, .int .i64 ((2:Int) ^ i)),(5, .int .i64 z.v)]) (fun z=>z.H) (fun z=>((t.pr)-z.v).toNat)
   ⟨_,_,_,0⟩ ⟨hs,hG,by dsimp only;omega,by dsimp only;omega⟩ (Or.inl ⟨⟨rfl,rfl,rfl,trivial⟩,rfl⟩) ?_
  clear hs hG;rintro ⟨H3,k3,S3,v⟩ ⟨hs,hG,hv0,hv⟩;dsimp only at hs hG hv0 hv ⊢;by_cases hvl:v<t.pr
  ·skip
   rw[qQ (by omega) hvl,List.map_cons,qR,<- List.append_assoc] at hG;have hGl2:=congrArg List.length hG;simp only[List.length_append,qN] at hGl2
   try dsimp only[Qn,smM] at hGl2
   repeat' first|refine zLw ?_|intro _ _ hs|intro K0 hK0|intro hc|refine dI ?_ ?_|(refine c140 (wV hs) (by omega) (by omega) (hs.get 0 rfl) ⟨neH hs 0 1,neH hs 0 2⟩ (fun H4 k4 hn=>?_);have hs:=wW hs hn;clear hn)
   exact⟨⟨_,k4,_,v+1⟩,⟨hs,hG,by dsimp only;omega,by dsimp only;omega⟩,by dsimp only;omega,Or.inl ⟨⟨rfl,rfl,rfl,trivial⟩,rfl⟩⟩
  ·skip
   rw[vw (by omega),List.map_nil,show stRd ((r+i:Nat):Int) [] = [] from rfl,List.append_nil] at hG;subst hG
   repeat' first|refine zLw ?_|intro _ _ hs|intro K0 hK0|intro hc|refine dI ?_ ?_
   rw[WY] at *
   all_goals exact⟨⟨_,k3,_,i+1⟩,⟨hs,hS,hil⟩,by dsimp only;omega,Or.inl ⟨⟨rfl,rfl,trivial⟩,rfl⟩⟩
 ·have hlt : ¬ (2:Int) ^ i<t.pr:=fun e=>hil (hlt.1 e)
  have hie:i=lgF t.pr:=by omega
  repeat' first|refine zLw ?_|intro _ _ hs|intro K0 hK0|intro hc|refine dI ?_ ?_
  rw[List.drop_of_length_le (by omega),hie] at hS;refine h _ k2 ?_;rw[<- hS,stsF,List.append_nil,<- hie];exact hs
end Go.Af.Tryz
namespace Go.Af.Tryz
open Go Go.Proofs Tryz
open Go.Af.Coll (St befF)
attribute [local irreducible] awp qj qI qK qE qm isCells ql qi qB qx qh roundEnd zG wZ keyK wE

theorem Vl0 {t:Tk} (kt:TkOk t):AddV 63 [.int .i64 1] t (t.pr-1).toNat (fun r=>stsF r (qM (rdL t) t.pr)):=by
 have hpl:(qM (rdL t) t.pr).length=(t.pr-1).toNat:=by simp[qM]
 intro H mb k b c r S R hm hr hl h;dsimp only at hl h;have hpr:=kt.pr;have hro:=kt.ro;have hpa:=kt.pa;have hlg:=wL t.pr;have hsp:=qX hpa;refine avN call63 func63 ntmps63 ?_;have hs:=hm
 repeat' first|refine zPw ?_|intro _ _ hs|intro K0 hK0
 refine wo tok mx [0,1,3,7,15,0,32,96,224,480,31,2047] [false,false,false,false,false,true,true,true,true,true,true,false] [0,1,2,3,4,5,6,7,8,9,10,11] (by kernel_rfl) ?_;refine vT (fun K0 hK0=>?_)
 repeat' first|refine zPw ?_|intro _ _ hs|intro K0 hK0
 refine qf (α := MdS) tok (fun z=>MkH H (fun x=>x=mb\/x=k) mb z.k t b c (r+z.i) z.S [] z.H/\z.S++stsF (r+z.i) ((qM (rdL t) t.pr).drop z.i)=S++stsF (r) (qM (rdL t) t.pr)/\z.i<=(t.pr-1).toNat)
  (fun z=>[(0,pM mb),(4, .int .i64 t.pr),(5, .int .i64 t.ro),(6, .int .i64 (z.i:Int))]) (fun z=>z.H) (fun z=>(t.pr-1).toNat-z.i)
  ⟨_,_,_,0⟩ ⟨hs,rfl,Nat.zero_le _⟩ (Or.inl ⟨⟨rfl,rfl,rfl,rfl,trivial⟩,rfl⟩) ?_
 clear hs;rintro ⟨H2,k2,S2,i⟩ ⟨hs,hS,hi⟩;dsimp only at hs hS hi ⊢;by_cases hil:(i:Int)<t.pr-1
 ·by_cases hro2:(i:Int)<t.ro
  ·skip
   have hD:=qY (r:=r) (i:=i) (L:=qM (rdL t) t.pr) (by omega);rw[xA hil] at hD;rw[hD,<- List.append_assoc] at hS;have hSl:=congrArg List.length hS;simp only[List.length_append] at hSl;generalize hG:S2++stRd ((r+i:Nat):Int) (rdL t (i:Int))=G at hS;have hGl:=congrArg List.length hG;rw[List.length_append] at hGl;rw[show rdL t (i:Int) = [smM t (t.ro-1-(i:Int)) t.ro 1] from if_pos hro2] at hG;rw[yl] at hG;have hGl2:=congrArg List.length hG;simp only[List.length_append,qN] at hGl2
   try dsimp only[smM] at hGl2
   repeat' first|refine zLw ?_|intro _ _ hs|intro K0 hK0|intro hc|refine dI ?_ ?_
   refine c140 (wV hs) (by omega) (by omega) (hs.get 0 rfl) ⟨neH hs 0 1,neH hs 0 2⟩ (fun H4 k4 hn=>?_);have hs:=wW hs hn;clear hn;subst hG
   repeat' first|refine zLw ?_|intro _ _ hs|intro K0 hK0|intro hc|refine dI ?_ ?_
   exact⟨⟨_,k4,_,i+1⟩,⟨hs,hS,by dsimp only;omega⟩,by dsimp only;omega,Or.inl ⟨⟨rfl,rfl,rfl,rfl,trivial⟩,rfl⟩⟩
  ·skip
   have hD:=qY (r:=r) (i:=i) (L:=qM (rdL t) t.pr) (by omega);rw[xA hil] at hD;rw[hD,<- List.append_assoc] at hS;have hSl:=congrArg List.length hS;simp only[List.length_append] at hSl;generalize hG:S2++stRd ((r+i:Nat):Int) (rdL t (i:Int))=G at hS;have hGl:=congrArg List.length hG;rw[List.length_append] at hGl;rw[show rdL t (i:Int) = [smM t ((i:Int)+1) t.ro 2] from if_neg hro2] at hG;rw[yl] at hG;have hGl2:=congrArg List.length hG;simp only[List.length_append,qN] at hGl2
   try dsimp only[smM] at hGl2
   repeat' first|refine zLw ?_|intro _ _ hs|intro K0 hK0|intro hc|refine dI ?_ ?_
   refine c140 (wV hs) (by omega) (by omega) (hs.get 0 rfl) ⟨neH hs 0 1,neH hs 0 2⟩ (fun H4 k4 hn=>?_);have hs:=wW hs hn;clear hn;subst hG
   repeat' first|refine zLw ?_|intro _ _ hs|intro K0 hK0|intro hc|refine dI ?_ ?_
   exact⟨⟨_,k4,_,i+1⟩,⟨hs,hS,by dsimp only;omega⟩,by dsimp only;omega,Or.inl ⟨⟨rfl,rfl,rfl,rfl,trivial⟩,rfl⟩⟩
 ·skip
  have hie:i=(t.pr-1).toNat:=by omega
  repeat' first|refine zLw ?_|intro _ _ hs|intro K0 hK0|intro hc|refine dI ?_ ?_
  rw[List.drop_of_length_le (by omega),hie] at hS;refine h _ k2 ?_;rw[<- hS,stsF,List.append_nil,<- hie];exact hs
theorem Vk0 {t:Tk} (kt:TkOk t):AddV 63 [.int .i64 2] t (lgF t.pr) (fun r=>stsF r (powF (rdT t) t.pr)):=by
 intro H mb k b c r S R hm hr hl h;dsimp only at hl h;have hpr:=kt.pr;have hro:=kt.ro;have hpa:=kt.pa;have hlg:=wL t.pr;have hsp:=qX hpa;refine avN call63 func63 ntmps63 ?_;have hs:=hm
 repeat' first|refine zPw ?_|intro _ _ hs|intro K0 hK0
 refine wo tok mx [0,1,3,7,15,0,32,96,224,480,31,2047] [false,false,false,false,false,true,true,true,true,true,true,false] [0,1,2,3,4,5,6,7,8,9,10,11] (by kernel_rfl) ?_;refine vT (fun K0 hK0=>?_)
 repeat' first|refine zPw ?_|intro _ _ hs|intro K0 hK0
 refine (UC kt) (qZ hs) (by omega) (by dsimp only;omega) (fun H2 k2 hn=>?_);have hs:=qW hs hn;clear hn
 repeat' first|refine zPw ?_|intro _ _ hs|intro K0 hK0
 exact h _ k2 hs
theorem Vp0 {t:Tk} (kt:TkOk t):AddV 62 [.int .i64 1] t (t.pr-1).toNat (fun r=>stsF r (qM (bcL t) t.pr)):=by
 have hpl:(qM (bcL t) t.pr).length=(t.pr-1).toNat:=by simp[qM]
 intro H mb k b c r S R hm hr hl h;dsimp only at hl h;have hpr:=kt.pr;have hro:=kt.ro;have hpa:=kt.pa;have hlg:=wL t.pr;have hsp:=qX hpa;refine avN call62 func62 ntmps62 ?_;have hs:=hm
 repeat' first|refine zPw ?_|intro _ _ hs|intro K0 hK0
 refine qf (α := MdS) tok (fun z=>MkH H (fun x=>x=mb\/x=k) mb z.k t b c (r+z.i) z.S [] z.H/\z.S++stsF (r+z.i) ((qM (bcL t) t.pr).drop z.i)=S++stsF (r) (qM (bcL t) t.pr)/\z.i<=(t.pr-1).toNat)
  (fun z=>[(0,pM mb),(4, .int .i64 t.pr),(5, .int .i64 (z.i:Int))]) (fun z=>z.H) (fun z=>(t.pr-1).toNat-z.i)
  ⟨_,_,_,0⟩ ⟨hs,rfl,Nat.zero_le _⟩ (Or.inl ⟨⟨rfl,rfl,rfl,trivial⟩,rfl⟩) ?_
 clear hs;rintro ⟨H2,k2,S2,i⟩ ⟨hs,hS,hi⟩;dsimp only at hs hS hi ⊢;by_cases hil:(i:Int)<t.pr-1
 ·skip
  have hD:=qY (r:=r) (i:=i) (L:=qM (bcL t) t.pr) (by omega);rw[xA hil] at hD;rw[hD,<- List.append_assoc] at hS;have hSl:=congrArg List.length hS;simp only[List.length_append] at hSl;generalize hG:S2++stRd ((r+i:Nat):Int) (bcL t (i:Int))=G at hS;have hGl:=congrArg List.length hG;rw[List.length_append] at hGl;rw[show bcL t (i:Int) = [smM t (relF t 0) (relF t ((i:Int)+1)) 0] from rfl] at hG;rw[yl] at hG;have hGl2:=congrArg List.length hG;simp only[List.length_append,qN] at hGl2
  try dsimp only[smM] at hGl2
  repeat' first|refine zLw ?_|intro _ _ hs|intro K0 hK0|intro hc|refine dI ?_ ?_
  refine c140 (wV hs) (by omega) (by omega) (hs.get 0 rfl) ⟨neH hs 0 1,neH hs 0 2⟩ (fun H4 k4 hn=>?_);have hs:=wW hs hn;clear hn;subst hG
  repeat' first|refine zLw ?_|intro _ _ hs|intro K0 hK0|intro hc|refine dI ?_ ?_
  exact⟨⟨_,k4,_,i+1⟩,⟨hs,hS,by dsimp only;omega⟩,by dsimp only;omega,Or.inl ⟨⟨rfl,rfl,rfl,trivial⟩,rfl⟩⟩
 ·skip
  have hie:i=(t.pr-1).toNat:=by omega
  repeat' first|refine zLw ?_|intro _ _ hs|intro K0 hK0|intro hc|refine dI ?_ ?_
  rw[List.drop_of_length_le (by omega),hie] at hS;refine h _ k2 ?_;rw[<- hS,stsF,List.append_nil,<- hie];exact hs
theorem Vo0 {t:Tk} (kt:TkOk t):AddV 62 [.int .i64 2] t (lgF t.pr) (fun r=>stsF r (powF (bcT t) t.pr)):=by
 intro H mb k b c r S R hm hr hl h;dsimp only at hl h;have hpr:=kt.pr;have hro:=kt.ro;have hpa:=kt.pa;have hlg:=wL t.pr;have hsp:=qX hpa;refine avN call62 func62 ntmps62 ?_;have hs:=hm
 repeat' first|refine zPw ?_|intro _ _ hs|intro K0 hK0
 refine (UD kt) (qZ hs) (by omega) (by dsimp only;omega) (fun H2 k2 hn=>?_);have hs:=qW hs hn;clear hn
 repeat' first|refine zPw ?_|intro _ _ hs|intro K0 hK0
 exact h _ k2 hs
theorem yG0 {lg i:Nat} (hl:lg<7) (hi:i<lg):1<=hgF lg i/\hgF lg i<=32:=⟨(VI lg hl i hi).2.1,(VI lg hl i hi).2.2.1⟩
theorem wU0 {t:Tk} {of:Int->List Int} {i:Nat} (h:i<lgF t.pr):(wC t of)[i]! = deR t of (hgF (lgF t.pr) i):=by
 rw[getElem!_pos _ i (by simp[wC];exact h)];simp[wC]
theorem yk0 {t:Tk} (kt:TkOk t):AddV 145 [.bool false] t (lgF t.pr) (fun r=>stsF r (wC t (parF t))):=by
 have hpl:(wC t (parF t)).length=lgF t.pr:=by simp[wC]
 intro H mb k b c r S R hm hr hl h;dsimp only at hl h;have hpr:=kt.pr;have hro:=kt.ro;have hpa:=kt.pa;have hlg:=wL t.pr;have hsp:=qX hpa;refine avN call145 func145 ntmps145 ?_;have hs:=hm
 repeat' first|refine zPw ?_|intro _ _ hs|intro K0 hK0|refine c150 hpr ?_
 refine vB0 (i:=lgF t.pr) (by omega) ?_;have hz:=XF (lgF t.pr) (by omega)
 repeat' first|refine zPw ?_|intro _ _ hs|intro K0 hK0
 rw[hz.1]
 refine qf (α := MdS) tok (fun z=>MkH H (fun x=>x=mb\/x=k) mb z.k t b c (r+z.i) z.S [] z.H/\z.S++stsF (r+z.i) ((wC t (parF t)).drop z.i)=S++stsF (r) (wC t (parF t))/\z.i<=lgF t.pr)
  (fun z=>[(0,pM mb),(1, .bool false),(4, .int .i64 t.pr),(5, .int .i64 (hgF (lgF t.pr) z.i))]) (fun z=>z.H) (fun z=>lgF t.pr-z.i)
  ⟨_,_,_,0⟩ ⟨hs,rfl,Nat.zero_le _⟩ (Or.inl ⟨⟨rfl,rfl,rfl,rfl,trivial⟩,rfl⟩) ?_
 clear hs;rintro ⟨H2,k2,S2,i⟩ ⟨hs,hS,hi⟩;dsimp only at hs hS hi ⊢;by_cases hil:i<lgF t.pr
 ·have hp2:=yG0 (by omega) hil
  have hh2:=VI _ (show lgF t.pr<7 by omega) i hil;have hD:=qY (r:=r) (i:=i) (L:=wC t (parF t)) (by omega);rw[wU0 hil] at hD;rw[hD,<- List.append_assoc] at hS;have hSl:=congrArg List.length hS;simp only[List.length_append] at hSl;generalize hG:S2++stRd ((r+i:Nat):Int) (deR t (parF t) (hgF (lgF t.pr) i))=G at hS;have hGl:=congrArg List.length hG;rw[List.length_append] at hGl;rw[show deR t (parF t) (hgF (lgF t.pr) i)=(lpW 0 (2*hgF (lgF t.pr) i) (t.pr-hgF (lgF t.pr) i)).flatMap (deG t (parF t) (hgF (lgF t.pr) i)) by unfold deR;rw[uD (by omega) (by omega)]] at hG;have hn1:=hh2.1;generalize hgF (lgF t.pr) i=hg at *
  repeat' first|refine zLw ?_|intro _ _ hs|intro K0 hK0|intro hc|refine dI ?_ ?_
  refine qf (α := MvS) tok (fun z=>MkH H (fun x=>x=mb\/x=k) mb z.k t b c (r+i) z.S [] z.H/\z.S++stRd ((r+i:Nat):Int) ((lpW z.v (2*hg) (t.pr-hg)).flatMap (deG t (parF t) hg))=G/\0<=z.v/\z.v<=1000)
   (fun z=>[(0,pM mb),(1, .bool false),(4, .int .i64 t.pr),(5, .int .i64 hg),(6, .int .i64 z.v)]) (fun z=>z.H) (fun z=>(1000-z.v).toNat)
   ⟨_,_,_,0⟩ ⟨hs,hG,by dsimp only;omega,by dsimp only;omega⟩ (Or.inl ⟨⟨rfl,rfl,rfl,rfl,rfl,trivial⟩,rfl⟩) ?_
  clear hs hG;rintro ⟨H3,k3,S3,v⟩ ⟨hs,hG,hv0,hv⟩;dsimp only at hs hG hv0 hv ⊢;by_cases hvl:v<t.pr-hg
  ·skip
   have hgw:deG t (parF t) hg v=(lpW (v+hg) 1 (min (v+2*hg) t.pr)).map (deM t (parF t) hg v):=by
    unfold deG;rw[uD (by omega) (by omega)]
   rw[qQ (by omega) hvl,List.flatMap_cons,Qc,<- List.append_assoc] at hG;have hGl2:=congrArg List.length hG;simp only[List.length_append] at hGl2;generalize hG2:S3++stRd ((r+i:Nat):Int) (deG t (parF t) hg v)=G2 at hG;have hGl3:=congrArg List.length hG2;rw[List.length_append] at hGl3;rw[hgw] at hG2
   repeat' first|refine zLw ?_|intro _ _ hs|intro K0 hK0|intro hc|refine dI ?_ ?_
   refine qf (α := MvS) tok (fun z=>MkH H (fun x=>x=mb\/x=k) mb z.k t b c (r+i) z.S [] z.H/\z.S++stRd ((r+i:Nat):Int) ((lpW z.v (1) (min (v+2*hg) t.pr)).map (deM t (parF t) hg v))=G2/\v+hg<=z.v/\z.v<=1000)
    (fun z=>[(0,pM mb),(1, .bool false),(4, .int .i64 t.pr),(5, .int .i64 hg),(6, .int .i64 v),(7, .int .i64 z.v)]) (fun z=>z.H) (fun z=>(1000-z.v).toNat)
    ⟨_,_,_,v+hg⟩ ⟨hs,hG2,by dsimp only;omega,by dsimp only;omega⟩ (Or.inl ⟨⟨rfl,rfl,rfl,rfl,rfl,rfl,trivial⟩,rfl⟩) ?_
   clear hs hG2;rintro ⟨H5,k5,S5,w⟩ ⟨hs,hG2,hw0,hw⟩;dsimp only at hs hG2 hw0 hw ⊢;by_cases hwl:w<min (v+2*hg) t.pr
   ·skip
    rw[qQ (by omega) hwl,List.map_cons,qR,<- List.append_assoc] at hG2;have hGl4:=congrArg List.length hG2;simp only[List.length_append,qN] at hGl4
    try dsimp only[deM] at hGl4
    repeat' first|refine zLw ?_|intro _ _ hs|intro K0 hK0|intro hc|refine dI ?_ ?_
    skip
    all_goals (
     refine c140 (wV hs) (by omega) (by omega) (hs.get 0 rfl) ⟨neH hs 0 1,neH hs 0 2⟩ (fun H4 k4 hn=>?_);have hs:=wW hs hn;clear hn
     repeat' first|refine zLw ?_|intro _ _ hs|intro K0 hK0|intro hc|refine dI ?_ ?_
     exact⟨⟨_,k4,_,w+1⟩,⟨hs,hG2,by dsimp only;omega,by dsimp only;omega⟩,by dsimp only;omega,Or.inl ⟨⟨rfl,rfl,rfl,rfl,rfl,rfl,trivial⟩,rfl⟩⟩
     )
   ·skip
    rw[vw (by omega),List.map_nil,show stRd ((r+i:Nat):Int) [] = [] from rfl,List.append_nil] at hG2;subst hG2
    repeat' first|refine zLw ?_|intro _ _ hs|intro K0 hK0|intro hc|refine dI ?_ ?_
    all_goals exact⟨⟨_,k5,_,v+2*hg⟩,⟨hs,hG,by dsimp only;omega,by dsimp only;omega⟩,by dsimp only;omega,Or.inl ⟨⟨rfl,rfl,rfl,rfl,rfl,trivial⟩,rfl⟩⟩
  ·skip
   rw[vw (by omega),List.flatMap_nil,show stRd ((r+i:Nat):Int) [] = [] from rfl,List.append_nil] at hG;subst hG
   repeat' first|refine zLw ?_|intro _ _ hs|intro K0 hK0|intro hc|refine dI ?_ ?_
   rw[hn1]
   all_goals exact⟨⟨_,k3,_,i+1⟩,⟨hs,hS,hil⟩,by dsimp only;omega,Or.inl ⟨⟨rfl,rfl,rfl,rfl,trivial⟩,rfl⟩⟩
 ·have hz:hgF (lgF t.pr) i=0:=by unfold hgF;rw[if_neg hil]
  rw[hz];have hie:i=lgF t.pr:=by omega
  repeat' first|refine zLw ?_|intro _ _ hs|intro K0 hK0|intro hc|refine dI ?_ ?_
  rw[List.drop_of_length_le (by omega),hie] at hS;refine h _ k2 ?_;rw[<- hS,stsF,List.append_nil,<- hie];exact hs
end Go.Af.Tryz
