/- A part of the proof. -/
import Derived.Test.YtmnjcogpchodhaaGreatMHM
import Derived.Test.YtmnjcogpchodhaaGreatMCA
import Derived.Test.YtmnjcogpchodhaaGreatMHK
set_option linter.all false
set_option maxHeartbeats 4000000
set_option maxRecDepth 100000
namespace Go.Af.Tryz
open Go Go.Proofs Tryz
open Go.Af.Coll (St befF)
attribute [local irreducible] awp qj qI qK qE qm isCells ql qi qB qx qh roundEnd zG wZ keyK wE

theorem yj0 {t:Tk} (kt:TkOk t):AddV 145 [.bool true] t (lgF t.pr) (fun r=>stsF r (wC t (stF t))):=by
 have hpl:(wC t (stF t)).length=lgF t.pr:=by simp[wC]
 intro H mb k b c r S R hm hr hl h;dsimp only at hl h;have hpr:=kt.pr;have hro:=kt.ro;have hpa:=kt.pa;have hlg:=wL t.pr;have hsp:=qX hpa;refine avN call145 func145 ntmps145 ?_;have hs:=hm
 repeat' first|refine zPw ?_|intro _ _ hs|intro K0 hK0|refine c150 hpr ?_
 refine vB0 (i:=lgF t.pr) (by omega) ?_;have hz:=XF (lgF t.pr) (by omega)
 repeat' first|refine zPw ?_|intro _ _ hs|intro K0 hK0
 rw[hz.1]
 refine qf (α := MdS) tok (fun z=>MkH H (fun x=>x=mb\/x=k) mb z.k t b c (r+z.i) z.S [] z.H/\z.S++stsF (r+z.i) ((wC t (stF t)).drop z.i)=S++stsF (r) (wC t (stF t))/\z.i<=lgF t.pr)
  (fun z=>[(0,pM mb),(1, .bool true),(4, .int .i64 t.pr),(5, .int .i64 (hgF (lgF t.pr) z.i))]) (fun z=>z.H) (fun z=>lgF t.pr-z.i)
  ⟨_,_,_,0⟩ ⟨hs,rfl,Nat.zero_le _⟩ (Or.inl ⟨⟨rfl,rfl,rfl,rfl,trivial⟩,rfl⟩) ?_
 clear hs;rintro ⟨H2,k2,S2,i⟩ ⟨hs,hS,hi⟩;dsimp only at hs hS hi ⊢;by_cases hil:i<lgF t.pr
 ·have hp2:=yG0 (by omega) hil
  have hh2:=VI _ (show lgF t.pr<7 by omega) i hil;have hD:=qY (r:=r) (i:=i) (L:=wC t (stF t)) (by omega);rw[wU0 hil] at hD;rw[hD,<- List.append_assoc] at hS;have hSl:=congrArg List.length hS;simp only[List.length_append] at hSl;generalize hG:S2++stRd ((r+i:Nat):Int) (deR t (stF t) (hgF (lgF t.pr) i))=G at hS;have hGl:=congrArg List.length hG;rw[List.length_append] at hGl;rw[show deR t (stF t) (hgF (lgF t.pr) i)=(lpW 0 (2*hgF (lgF t.pr) i) (t.pr-hgF (lgF t.pr) i)).flatMap (deG t (stF t) (hgF (lgF t.pr) i)) by unfold deR;rw[uD (by omega) (by omega)]] at hG;have hn1:=hh2.1;generalize hgF (lgF t.pr) i=hg at *
  repeat' first|refine zLw ?_|intro _ _ hs|intro K0 hK0|intro hc|refine dI ?_ ?_
  refine qf (α := MvS) tok (fun z=>MkH H (fun x=>x=mb\/x=k) mb z.k t b c (r+i) z.S [] z.H/\z.S++stRd ((r+i:Nat):Int) ((lpW z.v (2*hg) (t.pr-hg)).flatMap (deG t (stF t) hg))=G/\0<=z.v/\z.v<=1000)
   (fun z=>[(0,pM mb),(1, .bool true),(4, .int .i64 t.pr),(5, .int .i64 hg),(6, .int .i64 z.v)]) (fun z=>z.H) (fun z=>(1000-z.v).toNat)
   ⟨_,_,_,0⟩ ⟨hs,hG,by dsimp only;omega,by dsimp only;omega⟩ (Or.inl ⟨⟨rfl,rfl,rfl,rfl,rfl,trivial⟩,rfl⟩) ?_
  clear hs hG;rintro ⟨H3,k3,S3,v⟩ ⟨hs,hG,hv0,hv⟩;dsimp only at hs hG hv0 hv ⊢;by_cases hvl:v<t.pr-hg
  ·skip
   have hgw:deG t (stF t) hg v=(lpW (v+hg) 1 (min (v+2*hg) t.pr)).map (deM t (stF t) hg v):=by
    unfold deG;rw[uD (by omega) (by omega)]
   rw[qQ (by omega) hvl,List.flatMap_cons,Qc,<- List.append_assoc] at hG;have hGl2:=congrArg List.length hG;simp only[List.length_append] at hGl2;generalize hG2:S3++stRd ((r+i:Nat):Int) (deG t (stF t) hg v)=G2 at hG;have hGl3:=congrArg List.length hG2;rw[List.length_append] at hGl3;rw[hgw] at hG2
   repeat' first|refine zLw ?_|intro _ _ hs|intro K0 hK0|intro hc|refine dI ?_ ?_
   refine qf (α := MvS) tok (fun z=>MkH H (fun x=>x=mb\/x=k) mb z.k t b c (r+i) z.S [] z.H/\z.S++stRd ((r+i:Nat):Int) ((lpW z.v (1) (min (v+2*hg) t.pr)).map (deM t (stF t) hg v))=G2/\v+hg<=z.v/\z.v<=1000)
    (fun z=>[(0,pM mb),(1, .bool true),(4, .int .i64 t.pr),(5, .int .i64 hg),(6, .int .i64 v),(7, .int .i64 z.v)]) (fun z=>z.H) (fun z=>(1000-z.v).toNat)
    ⟨_,_,_,v+hg⟩ ⟨hs,hG2,by dsimp only;omega,by dsimp only;omega⟩ (Or.inl ⟨⟨rfl,rfl,rfl,rfl,rfl,rfl,trivial⟩,rfl⟩) ?_
   clear hs hG2;rintro ⟨H5,k5,S5,w⟩ ⟨hs,hG2,hw0,hw⟩;dsimp only at hs hG2 hw0 hw ⊢;by_cases hwl:w<min (v+2*hg) t.pr
   ·skip
    rw[qQ (by omega) hwl,List.map_cons,qR,<- List.append_assoc] at hG2;have hGl4:=congrArg List.length hG2;simp only[List.length_append,qN] at hGl4
    try dsimp only[deM,stF] at hGl4
    repeat' first|refine zLw ?_|intro _ _ hs|intro K0 hK0|intro hc|refine dI ?_ ?_
    refine qp tok mx [0,0,0,6,0,0,0,96,254,0,512,1536,3584,0,0,25086,0,0,254462,516606,1048574,2097151] [false,false,false,false,false,false,false,false,false,false,false,false,false,false,false,false,false,false,false,true,false,false] (.first 0 (.first 1 (.first 2 (.first 4 (.first 5 (.first 6 (.first 7 (.first 9 (.first 10 (.first 11 (.first 13 (.first 14 (.first 16 (.first 17 (.alt 3 (.alt 8 (.alt 12 (.first 15 (.first 18 (.first 19 (.first 20 (.first 21 .done))))) (.alt 15 (.alt 12 (.first 18 (.first 19 (.first 20 (.first 21 .done)))) (.alt 18 (.first 12 (.first 19 (.first 20 (.first 21 .done)))) .no)) .no)) (.alt 12 (.first 8 (.first 15 (.first 18 (.first 19 (.first 20 (.first 21 .done)))))) .no)) (.alt 12 (.first 3 (.first 8 (.first 15 (.first 18 (.first 19 (.first 20 (.first 21 .done))))))) .no)))))))))))))))) (by kernel_rfl) ?_;refine qw (fun K0 hK0=>?_);have hrw:=QA kt w
    repeat' first|refine zLw ?_|intro _ _ hs|intro K0 hK0|intro hc|refine dI ?_ ?_
    iterate 6 (
     all_goals try (first | refine And.intro ?_ trivial | refine And.intro ?_ (And.intro ?_ trivial) | refine And.intro ?_ (And.intro ?_ (And.intro ?_ trivial)))
     all_goals try (
      repeat' first|refine zLw ?_|intro _ _ hs|intro K0 hK0|intro hc|refine dI ?_ ?_
      )
     )
    all_goals (
     refine c94 (f:=relF t w) (g:=relF t w+1) hrw.1 (by omega) (yy0 kt (by omega) (by omega)) hpa.1 (fun _ _ hn=>?_);have hs:=hs.call hn rfl;clear hn
     repeat' first|refine zLw ?_|intro _ _ hs|intro K0 hK0|intro hc|refine dI ?_ ?_
     )
    all_goals (
     refine c140 (wV hs) (by omega) (by omega) (hs.get 0 rfl) ⟨neH hs 0 1,neH hs 0 2⟩ (fun H4 k4 hn=>?_);have hs:=wW hs hn;clear hn
     repeat' first|refine zLw ?_|intro _ _ hs|intro K0 hK0|intro hc|refine dI ?_ ?_
     exact⟨⟨_,k4,_,w+1⟩,⟨hs,hG2,by dsimp only;omega,by dsimp only;omega⟩,by dsimp only;omega,Or.inl ⟨⟨rfl,rfl,rfl,rfl,rfl,rfl,trivial⟩,rfl⟩⟩
     )
   ·skip
    rw[vw (by omega),List.map_nil,show stRd ((r+i:Nat):Int) [] = [] from rfl,List.append_nil] at hG2;subst hG2
    repeat' first|refine zLw ?_|intro _ _ hs|intro K0 hK0|intro hc|refine dI ?_ ?_
    all_goals exact⟨⟨_,k5,_,v+2*hg⟩,⟨hs,hG,by dsimp only;omega,by dsimp only;omega⟩,by dsimp only;omega,Or.inl ⟨⟨rfl,rfl,rfl,rfl,rfl,trivial⟩,rfl⟩⟩
  ·skip
   rw[vw (by omega),List.flatMap_nil,show stRd ((r+i:Nat):Int) [] = [] from rfl,List.append_nil] at hG;subst hG
   repeat' first|refine zLw ?_|intro _ _ hs|intro K0 hK0|intro hc|refine dI ?_ ?_
   rw[hn1]
   all_goals exact⟨⟨_,k3,_,i+1⟩,⟨hs,hS,hil⟩,by dsimp only;omega,Or.inl ⟨⟨rfl,rfl,rfl,rfl,trivial⟩,rfl⟩⟩
 ·have hz:hgF (lgF t.pr) i=0:=by unfold hgF;rw[if_neg hil]
  rw[hz];have hie:i=lgF t.pr:=by omega
  repeat' first|refine zLw ?_|intro _ _ hs|intro K0 hK0|intro hc|refine dI ?_ ?_
  rw[List.drop_of_length_le (by omega),hie] at hS;refine h _ k2 ?_;rw[<- hS,stsF,List.append_nil,<- hie];exact hs
theorem Va0 {t:Tk} (kt:TkOk t):AddV 67 [.int .i64 2] t (lgF t.pr) (fun r=>stsF r (wC t (stF t))):=by
 intro H mb k b c r S R hm hr hl h;dsimp only at hl h;have hpr:=kt.pr;have hro:=kt.ro;have hpa:=kt.pa;have hlg:=wL t.pr;have hsp:=qX hpa;refine avN call67 func67 ntmps67 ?_;have hs:=hm
 repeat' first|refine zPw ?_|intro _ _ hs|intro K0 hK0
 refine (yj0 kt) (qZ hs) (by omega) (by dsimp only;omega) (fun H2 k2 hn=>?_);have hs:=qW hs hn;clear hn
 repeat' first|refine zPw ?_|intro _ _ hs|intro K0 hK0
 exact h _ k2 hs
theorem Vm0 {t:Tk} {a:Int} (kt:TkOk t) (h1:a≠1) (h2:a≠2) (h3:a≠3):AddV 62 [.int .i64 a] t (lgF t.pr+(t.pr-1).toNat) (fun r=>stsF r (wC t (parF t)++qM (evF t (uP t)) t.pr)):=by
 have hpd:(wC t (parF t)).length=lgF t.pr:=by simp[wC]
 have hpl:(qM (evF t (uP t)) t.pr).length=(t.pr-1).toNat:=by simp[qM]
 intro H mb k b c r S R hm hr hl h;dsimp only at hl h;have hpr:=kt.pr;have hro:=kt.ro;have hpa:=kt.pa;have hlg:=wL t.pr;have hsp:=qX hpa;refine avN call62 func62 ntmps62 ?_;have hs:=hm;rw[xg,hpd] at hl;rw[List.length_append] at hl
 repeat' first|refine zQw ?_|intro _ _ hs|intro K0 hK0|intro hc|refine dI ?_ ?_
 refine (yk0 kt) (qZ hs) (by omega) (by dsimp only;omega) (fun H2 k2 hn=>?_);have hs:=qW hs hn;clear hn
 repeat' first|refine zPw ?_|intro _ _ hs|intro K0 hK0
 refine qf (α := MdS) tok (fun z=>MkH H (fun x=>x=mb\/x=k) mb z.k t b c (r+lgF t.pr+z.i) z.S [] z.H/\z.S++stsF (r+lgF t.pr+z.i) ((qM (evF t (uP t)) t.pr).drop z.i)=(S++stsF r (wC t (parF t)))++stsF (r+lgF t.pr) (qM (evF t (uP t)) t.pr)/\z.i<=(t.pr-1).toNat)
  (fun z=>[(0,pM mb),(4, .int .i64 t.pr),(6, .int .i64 (z.i:Int))]) (fun z=>z.H) (fun z=>(t.pr-1).toNat-z.i)
  ⟨_,_,_,0⟩ ⟨hs,rfl,Nat.zero_le _⟩ (Or.inl ⟨⟨rfl,rfl,rfl,trivial⟩,rfl⟩) ?_
 clear hs;rintro ⟨H2,k2,S2,i⟩ ⟨hs,hS,hi⟩;dsimp only at hs hS hi ⊢;by_cases hil:(i:Int)<t.pr-1
 ·skip
  have hD:=qY (r:=r+lgF t.pr) (i:=i) (L:=qM (evF t (uP t)) t.pr) (by omega);rw[xA hil] at hD;rw[hD,<- List.append_assoc] at hS;have hSl:=congrArg List.length hS;simp only[List.length_append] at hSl;generalize hG:S2++stRd ((r+lgF t.pr+i:Nat):Int) (evF t (uP t) (i:Int))=G at hS;have hGl:=congrArg List.length hG;rw[List.length_append] at hGl;rw[ev_W t (uP t) (i:Int) (by omega)] at hG
  repeat' first|refine zLw ?_|intro _ _ hs|intro K0 hK0|intro hc|refine dI ?_ ?_
  refine qf (α := MvS) tok (fun z=>MkH H (fun x=>x=mb\/x=k) mb z.k t b c (r+lgF t.pr+i) z.S [] z.H/\z.S++stRd ((r+lgF t.pr+i:Nat):Int) ((lpW z.v (1) (t.pr)).map (uP t (i:Int)))=G/\0<=z.v/\z.v<=1000)
   (fun z=>[(0,pM mb),(4, .int .i64 t.pr),(6, .int .i64 (i:Int)),(7, .int .i64 z.v)]) (fun z=>z.H) (fun z=>((t.pr)-z.v).toNat)
   ⟨_,_,_,0⟩ ⟨hs,hG,by dsimp only;omega,by dsimp only;omega⟩ (Or.inl ⟨⟨rfl,rfl,rfl,rfl,trivial⟩,rfl⟩) ?_
  clear hs hG;rintro ⟨H3,k3,S3,v⟩ ⟨hs,hG,hv0,hv⟩;dsimp only at hs hG hv0 hv ⊢;by_cases hvl:v<t.pr
  ·skip
   rw[qQ (by omega) hvl,List.map_cons,qR,<- List.append_assoc] at hG;have hGl2:=congrArg List.length hG;simp only[List.length_append,qN] at hGl2
   try dsimp only[uP] at hGl2
   repeat' first|refine zLw ?_|intro _ _ hs|intro K0 hK0|intro hc|refine dI ?_ ?_|(refine c140 (wV hs) (by omega) (by omega) (hs.get 0 rfl) ⟨neH hs 0 1,neH hs 0 2⟩ (fun H4 k4 hn=>?_);have hs:=wW hs hn;clear hn)
   exact⟨⟨_,k4,_,v+1⟩,⟨hs,hG,by dsimp only;omega,by dsimp only;omega⟩,by dsimp only;omega,Or.inl ⟨⟨rfl,rfl,rfl,rfl,trivial⟩,rfl⟩⟩
  ·skip
   rw[vw (by omega),List.map_nil,show stRd ((r+lgF t.pr+i:Nat):Int) [] = [] from rfl,List.append_nil] at hG;subst hG
   repeat' first|refine zLw ?_|intro _ _ hs|intro K0 hK0|intro hc|refine dI ?_ ?_
   all_goals exact⟨⟨_,k3,_,i+1⟩,⟨hs,hS,by dsimp only;omega⟩,by dsimp only;omega,Or.inl ⟨⟨rfl,rfl,rfl,trivial⟩,rfl⟩⟩
 ·have hie:i=(t.pr-1).toNat:=by omega
  repeat' first|refine zLw ?_|intro _ _ hs|intro K0 hK0|intro hc|refine dI ?_ ?_
  rw[List.drop_of_length_le (by omega),hie] at hS;refine h _ k2 ?_;rw[xg,hpd,<- List.append_assoc,<- hS,stsF,List.append_nil,<- hie,<- Nat.add_assoc];exact hs
theorem Vi0 {t:Tk} (kt:TkOk t):AddV 64 [.int .i64 5] t (lgF t.pr+lgF t.pr) (fun r=>stsF r (powF (rdT t) t.pr++powF (bcT t) t.pr)):=by
 have hpl:(powF (rdT t) t.pr).length=lgF t.pr:=by simp[powF]
 intro H mb k b c r S R hm hr hl h;dsimp only at hl h;have hpr:=kt.pr;have hro:=kt.ro;have hpa:=kt.pa;have hlg:=wL t.pr;have hsp:=qX hpa;refine avN call64 func64 ntmps64 ?_;have hs:=hm;rw[xg,hpl,List.length_append] at hl
 repeat' first|refine zPw ?_|intro _ _ hs|intro K0 hK0
 refine (UC kt) (qZ hs) (by omega) (by dsimp only;omega) (fun H2 k2 hn=>?_);have hs:=qW hs hn;clear hn
 repeat' first|refine zPw ?_|intro _ _ hs|intro K0 hK0
 refine (UD kt) (qZ hs) (by omega) (by dsimp only;rw[List.length_append];omega) (fun H3 k3 hn=>?_);have hs:=qW hs hn;clear hn
 repeat' first|refine zPw ?_|intro _ _ hs|intro K0 hK0
 refine h _ k3 ?_;rw[xg,hpl,<- List.append_assoc,<- Nat.add_assoc];exact hs
theorem app_l {α : Type} [Inhabited α] {a b:List α} {i:Nat} (h:i<a.length):(a++b)[i]! = a[i]! := by
 rw[getElem!_pos (a++b) i (by rw[List.length_append];omega),getElem!_pos a i h,List.getElem_append_left h]
theorem app_r {α : Type} [Inhabited α] {a b:List α} {i:Nat} (h:a.length<=i) (h2:i<a.length+b.length):(a++b)[i]! = b[i-a.length]! := by
 rw[getElem!_pos (a++b) i (by rw[List.length_append];omega),getElem!_pos b (i-a.length) (by omega),List.getElem_append_right h]
theorem Vg0 {t:Tk} {a:Int} (kt:TkOk t) (h5:a≠5) (h6:a≠6):AddV 64 [.int .i64 a] t ((t.pr-1).toNat+(t.pr-1).toNat) (fun r=>stsF r (qM (evF t (yH t)) t.pr++qM (evF t (yD t)) t.pr)):=by
 have hpa1:(qM (evF t (yH t)) t.pr).length=(t.pr-1).toNat:=by simp[qM]
 have hpa2:(qM (evF t (yD t)) t.pr).length=(t.pr-1).toNat:=by simp[qM]
 have hpl:(qM (evF t (yH t)) t.pr++qM (evF t (yD t)) t.pr).length=(t.pr-1).toNat+(t.pr-1).toNat:=by rw[List.length_append];omega
 intro H mb k b c r S R hm hr hl h;dsimp only at hl h;have hpr:=kt.pr;have hro:=kt.ro;have hpa:=kt.pa;have hlg:=wL t.pr;have hsp:=qX hpa;refine avN call64 func64 ntmps64 ?_;have hs:=hm
 repeat' first|refine zQw ?_|intro _ _ hs|intro K0 hK0|intro hc|refine dI ?_ ?_
 refine qf (α := MdS) tok (fun z=>MkH H (fun x=>x=mb\/x=k) mb z.k t b c (r+z.i) z.S [] z.H/\z.S++stsF (r+z.i) ((qM (evF t (yH t)) t.pr++qM (evF t (yD t)) t.pr).drop z.i)=S++stsF (r) (qM (evF t (yH t)) t.pr++qM (evF t (yD t)) t.pr)/\z.i<=(t.pr-1).toNat+(t.pr-1).toNat)
  (fun z=>[(0,pM mb),(4, .int .i64 t.pr),(5, .int .i64 (z.i:Int))]) (fun z=>z.H) (fun z=>(t.pr-1).toNat+(t.pr-1).toNat-z.i)
  ⟨_,_,_,0⟩ ⟨hs,rfl,Nat.zero_le _⟩ (Or.inl ⟨⟨rfl,rfl,rfl,trivial⟩,rfl⟩) ?_
 clear hs;rintro ⟨H2,k2,S2,i⟩ ⟨hs,hS,hi⟩;dsimp only at hs hS hi ⊢;by_cases hil:(i:Int)<t.pr-1
 ·skip
  have hD:=qY (r:=r) (i:=i) (L:=qM (evF t (yH t)) t.pr++qM (evF t (yD t)) t.pr) (by omega);rw[(app_l (by omega)).trans (xA hil)] at hD;rw[hD,<- List.append_assoc] at hS;have hSl:=congrArg List.length hS;simp only[List.length_append] at hSl;generalize hG:S2++stRd ((r+i:Nat):Int) (evF t (yH t) (i:Int))=G at hS;have hGl:=congrArg List.length hG;rw[List.length_append] at hGl;rw[ev_W t (yH t) (i:Int) (by omega)] at hG
  repeat' first|refine zLw ?_|intro _ _ hs|intro K0 hK0|intro hc|refine dI ?_ ?_
  refine qf (α := MvS) tok (fun z=>MkH H (fun x=>x=mb\/x=k) mb z.k t b c (r+i) z.S [] z.H/\z.S++stRd ((r+i:Nat):Int) ((lpW z.v (1) (t.pr)).map (yH t (i:Int)))=G/\0<=z.v/\z.v<=1000)
   (fun z=>[(0,pM mb),(4, .int .i64 t.pr),(5, .int .i64 (i:Int)),(6, .int .i64 z.v)]) (fun z=>z.H) (fun z=>((t.pr)-z.v).toNat)
   ⟨_,_,_,0⟩ ⟨hs,hG,by dsimp only;omega,by dsimp only;omega⟩ (Or.inl ⟨⟨rfl,rfl,rfl,rfl,trivial⟩,rfl⟩) ?_
  clear hs hG;rintro ⟨H3,k3,S3,v⟩ ⟨hs,hG,hv0,hv⟩;dsimp only at hs hG hv0 hv ⊢;by_cases hvl:v<t.pr
  ·skip
   rw[qQ (by omega) hvl,List.map_cons,qR,<- List.append_assoc] at hG;have hGl2:=congrArg List.length hG;simp only[List.length_append,qN] at hGl2
   try dsimp only[yH] at hGl2
   repeat' first|refine zLw ?_|intro _ _ hs|intro K0 hK0|intro hc|refine dI ?_ ?_
   refine c140 (wV hs) (by omega) (by omega) (hs.get 0 rfl) ⟨neH hs 0 1,neH hs 0 2⟩ (fun H4 k4 hn=>?_);have hs:=wW hs hn;clear hn
   repeat' first|refine zLw ?_|intro _ _ hs|intro K0 hK0|intro hc|refine dI ?_ ?_
   exact⟨⟨_,k4,_,v+1⟩,⟨hs,hG,by dsimp only;omega,by dsimp only;omega⟩,by dsimp only;omega,Or.inl ⟨⟨rfl,rfl,rfl,rfl,trivial⟩,rfl⟩⟩
  ·skip
   rw[vw (by omega),List.map_nil,show stRd ((r+i:Nat):Int) [] = [] from rfl,List.append_nil] at hG;subst hG
   repeat' first|refine zLw ?_|intro _ _ hs|intro K0 hK0|intro hc|refine dI ?_ ?_
   all_goals exact⟨⟨_,k3,_,i+1⟩,⟨hs,hS,by dsimp only;omega⟩,by dsimp only;omega,Or.inl ⟨⟨rfl,rfl,rfl,trivial⟩,rfl⟩⟩
 ·by_cases hil2:(i:Int)<(t.pr-1)+(t.pr-1)
  ·have e:((i-(t.pr-1).toNat:Nat):Int)=(i:Int)-t.pr+1:=by omega
   have hat:(qM (evF t (yH t)) t.pr++qM (evF t (yD t)) t.pr)[i]! = evF t (yD t) ((i:Int)-t.pr+1):=by
    rw[app_r (by omega) (by omega),hpa1,xA (by omega),e]
   have hD:=qY (r:=r) (i:=i) (L:=qM (evF t (yH t)) t.pr++qM (evF t (yD t)) t.pr) (by omega);rw[hat] at hD;rw[hD,<- List.append_assoc] at hS;have hSl:=congrArg List.length hS;simp only[List.length_append] at hSl;generalize hG:S2++stRd ((r+i:Nat):Int) (evF t (yD t) ((i:Int)-t.pr+1))=G at hS;have hGl:=congrArg List.length hG;rw[List.length_append] at hGl;rw[ev_W t (yD t) ((i:Int)-t.pr+1) (by omega)] at hG
   repeat' first|refine zLw ?_|intro _ _ hs|intro K0 hK0|intro hc|refine dI ?_ ?_
   refine qf (α := MvS) tok (fun z=>MkH H (fun x=>x=mb\/x=k) mb z.k t b c (r+i) z.S [] z.H/\z.S++stRd ((r+i:Nat):Int) ((lpW z.v (1) (t.pr)).map (yD t ((i:Int)-t.pr+1)))=G/\0<=z.v/\z.v<=1000)
    (fun z=>[(0,pM mb),(4, .int .i64 t.pr),(5, .int .i64 (i:Int)),(6, .int .i64 z.v)]) (fun z=>z.H) (fun z=>((t.pr)-z.v).toNat)
    ⟨_,_,_,0⟩ ⟨hs,hG,by dsimp only;omega,by dsimp only;omega⟩ (Or.inl ⟨⟨rfl,rfl,rfl,rfl,trivial⟩,rfl⟩) ?_
   clear hs hG;rintro ⟨H3,k3,S3,v⟩ ⟨hs,hG,hv0,hv⟩;dsimp only at hs hG hv0 hv ⊢;by_cases hvl:v<t.pr
   ·skip
    rw[qQ (by omega) hvl,List.map_cons,qR,<- List.append_assoc] at hG;have hGl2:=congrArg List.length hG;simp only[List.length_append,qN] at hGl2
    try dsimp only[yD] at hGl2
    repeat' first|refine zLw ?_|intro _ _ hs|intro K0 hK0|intro hc|refine dI ?_ ?_|(refine c140 (wV hs) (by omega) (by omega) (hs.get 0 rfl) ⟨neH hs 0 1,neH hs 0 2⟩ (fun H4 k4 hn=>?_);have hs:=wW hs hn;clear hn)
    exact⟨⟨_,k4,_,v+1⟩,⟨hs,hG,by dsimp only;omega,by dsimp only;omega⟩,by dsimp only;omega,Or.inl ⟨⟨rfl,rfl,rfl,rfl,trivial⟩,rfl⟩⟩
   ·skip
    rw[vw (by omega),List.map_nil,show stRd ((r+i:Nat):Int) [] = [] from rfl,List.append_nil] at hG;subst hG
    repeat' first|refine zLw ?_|intro _ _ hs|intro K0 hK0|intro hc|refine dI ?_ ?_
    all_goals exact⟨⟨_,k3,_,i+1⟩,⟨hs,hS,by dsimp only;omega⟩,by dsimp only;omega,Or.inl ⟨⟨rfl,rfl,rfl,trivial⟩,rfl⟩⟩
  ·have hie:i=(t.pr-1).toNat+(t.pr-1).toNat:=by omega
   repeat' first|refine zLw ?_|intro _ _ hs|intro K0 hK0|intro hc|refine dI ?_ ?_
   rw[List.drop_of_length_le (by omega),hie] at hS;refine h _ k2 ?_;rw[<- hS,stsF,List.append_nil,<- hie];exact hs
end Go.Af.Tryz
namespace Go.Af.Tryz
open Go Go.Proofs Tryz
open Go.Af.Coll (St befF)
attribute [local irreducible] awp qj qI qK qE qm isCells ql qi qB qx qh roundEnd zG wZ keyK wE

theorem yw0 {t:Tk} {pf:Int->Int->Int} {i:Nat} (h:(i:Int)<t.pr):(prsF t pf)[i]! = evF t (prM t pf) (i:Int):=by
 unfold prsF;rw[getElem!_pos _ i (by simp;omega)];simp
theorem QW0 {t:Tk} {a:Int} (kt:TkOk t) (h8:a≠8) (h10:a≠10):AddV 69 [.int .i64 a] t t.pr.toNat (fun r=>stsF r (prsF t (pwF t))):=by
 have hpl:(prsF t (pwF t)).length=t.pr.toNat:=by simp[prsF]
 intro H mb k b c r S R hm hr hl h;dsimp only at hl h;have hpr:=kt.pr;have hro:=kt.ro;have hpa:=kt.pa;have hlg:=wL t.pr;have hsp:=qX hpa;refine avN call69 func69 ntmps69 ?_;have hs:=hm
 repeat' first|refine zQw ?_|intro _ _ hs|intro K0 hK0|intro hc|refine dI ?_ ?_
 refine qf (α := MdS) tok (fun z=>MkH H (fun x=>x=mb\/x=k) mb z.k t b c (r+z.i) z.S [] z.H/\z.S++stsF (r+z.i) ((prsF t (pwF t)).drop z.i)=S++stsF (r) (prsF t (pwF t))/\z.i<=t.pr.toNat)
  (fun z=>[(0,pM mb),(1, .int .i64 a),(4, .int .i64 t.pr),(5, .int .i64 (z.i:Int))]) (fun z=>z.H) (fun z=>t.pr.toNat-z.i)
  ⟨_,_,_,0⟩ ⟨hs,rfl,Nat.zero_le _⟩ (Or.inl ⟨⟨rfl,rfl,rfl,rfl,trivial⟩,rfl⟩) ?_
 clear hs;rintro ⟨H2,k2,S2,i⟩ ⟨hs,hS,hi⟩;dsimp only at hs hS hi ⊢;by_cases hil:(i:Int)<t.pr
 ·skip
  have hD:=qY (r:=r) (i:=i) (L:=prsF t (pwF t)) (by omega);rw[yw0 hil] at hD;rw[hD,<- List.append_assoc] at hS;have hSl:=congrArg List.length hS;simp only[List.length_append] at hSl;generalize hG:S2++stRd ((r+i:Nat):Int) (evF t (prM t (pwF t)) (i:Int))=G at hS;have hGl:=congrArg List.length hG;rw[List.length_append] at hGl;rw[ev_W t (prM t (pwF t)) (i:Int) (by omega)] at hG
  repeat' first|refine zLw ?_|intro _ _ hs|intro K0 hK0|intro hc|refine dI ?_ ?_
  refine qf (α := MvS) tok (fun z=>MkH H (fun x=>x=mb\/x=k) mb z.k t b c (r+i) z.S [] z.H/\z.S++stRd ((r+i:Nat):Int) ((lpW z.v (1) (t.pr)).map (prM t (pwF t) (i:Int)))=G/\0<=z.v/\z.v<=1000)
   (fun z=>[(0,pM mb),(1, .int .i64 a),(4, .int .i64 t.pr),(5, .int .i64 (i:Int)),(6, .int .i64 z.v)]) (fun z=>z.H) (fun z=>((t.pr)-z.v).toNat)
   ⟨_,_,_,0⟩ ⟨hs,hG,by dsimp only;omega,by dsimp only;omega⟩ (Or.inl ⟨⟨rfl,rfl,rfl,rfl,rfl,trivial⟩,rfl⟩) ?_
  clear hs hG;rintro ⟨H3,k3,S3,v⟩ ⟨hs,hG,hv0,hv⟩;dsimp only at hs hG hv0 hv ⊢;by_cases hvl:v<t.pr
  ·have hx:=xx (a:=v) (b:=(i:Int)) (by omega) (by omega)
   have hm:=wO kt (v+(i:Int));rw[qQ (by omega) hvl,List.map_cons,qR,<- List.append_assoc] at hG;have hGl2:=congrArg List.length hG;simp only[List.length_append,qN] at hGl2
   try dsimp only[prM,blM,pwF] at hGl2
   repeat' first|refine zLw ?_|intro _ _ hs|intro K0 hK0|intro hc|refine dI ?_ ?_|(refine (c151 hpa (sr:=(pwF t) v (i:Int)) (ds:=t.pr+v) (by (try dsimp only[pwF]);omega) (by omega)) (qZ hs) (by omega) (by simp only[qN];(try dsimp only[blM,pwF]);omega) (fun H6 k6 hn=>?_);have hs:=qW hs hn;clear hn)
   exact⟨⟨_,k6,_,v+1⟩,⟨hs,hG,by dsimp only;omega,by dsimp only;omega⟩,by dsimp only;omega,Or.inl ⟨⟨rfl,rfl,rfl,rfl,rfl,trivial⟩,rfl⟩⟩
  ·skip
   rw[vw (by omega),List.map_nil,show stRd ((r+i:Nat):Int) [] = [] from rfl,List.append_nil] at hG;subst hG
   repeat' first|refine zLw ?_|intro _ _ hs|intro K0 hK0|intro hc|refine dI ?_ ?_
   all_goals exact⟨⟨_,k3,_,i+1⟩,⟨hs,hS,by dsimp only;omega⟩,by dsimp only;omega,Or.inl ⟨⟨rfl,rfl,rfl,rfl,trivial⟩,rfl⟩⟩
 ·have hie:i=t.pr.toNat:=by omega
  repeat' first|refine zLw ?_|intro _ _ hs|intro K0 hK0|intro hc|refine dI ?_ ?_
  rw[List.drop_of_length_le (by omega),hie] at hS;refine h _ k2 ?_;rw[<- hS,stsF,List.append_nil,<- hie];exact hs
theorem QV0 {t:Tk} {a:Int} (kt:TkOk t) (h8:a≠8) (h10:a=10):AddV 69 [.int .i64 a] t t.pr.toNat (fun r=>stsF r (prsF t (xorF))):=by
 have hpl:(prsF t (xorF)).length=t.pr.toNat:=by simp[prsF]
 intro H mb k b c r S R hm hr hl h;dsimp only at hl h;have hpr:=kt.pr;have hro:=kt.ro;have hpa:=kt.pa;have hlg:=wL t.pr;have hsp:=qX hpa;refine avN call69 func69 ntmps69 ?_;have hs:=hm
 repeat' first|refine zQw ?_|intro _ _ hs|intro K0 hK0|intro hc|refine dI ?_ ?_
 refine qf (α := MdS) tok (fun z=>MkH H (fun x=>x=mb\/x=k) mb z.k t b c (r+z.i) z.S [] z.H/\z.S++stsF (r+z.i) ((prsF t (xorF)).drop z.i)=S++stsF (r) (prsF t (xorF))/\z.i<=t.pr.toNat)
  (fun z=>[(0,pM mb),(1, .int .i64 a),(4, .int .i64 t.pr),(5, .int .i64 (z.i:Int))]) (fun z=>z.H) (fun z=>t.pr.toNat-z.i)
  ⟨_,_,_,0⟩ ⟨hs,rfl,Nat.zero_le _⟩ (Or.inl ⟨⟨rfl,rfl,rfl,rfl,trivial⟩,rfl⟩) ?_
 clear hs;rintro ⟨H2,k2,S2,i⟩ ⟨hs,hS,hi⟩;dsimp only at hs hS hi ⊢;by_cases hil:(i:Int)<t.pr
 ·skip
  have hD:=qY (r:=r) (i:=i) (L:=prsF t (xorF)) (by omega);rw[yw0 hil] at hD;rw[hD,<- List.append_assoc] at hS;have hSl:=congrArg List.length hS;simp only[List.length_append] at hSl;generalize hG:S2++stRd ((r+i:Nat):Int) (evF t (prM t (xorF)) (i:Int))=G at hS;have hGl:=congrArg List.length hG;rw[List.length_append] at hGl;rw[ev_W t (prM t (xorF)) (i:Int) (by omega)] at hG
  repeat' first|refine zLw ?_|intro _ _ hs|intro K0 hK0|intro hc|refine dI ?_ ?_
  refine qf (α := MvS) tok (fun z=>MkH H (fun x=>x=mb\/x=k) mb z.k t b c (r+i) z.S [] z.H/\z.S++stRd ((r+i:Nat):Int) ((lpW z.v (1) (t.pr)).map (prM t (xorF) (i:Int)))=G/\0<=z.v/\z.v<=1000)
   (fun z=>[(0,pM mb),(1, .int .i64 a),(4, .int .i64 t.pr),(5, .int .i64 (i:Int)),(6, .int .i64 z.v)]) (fun z=>z.H) (fun z=>((t.pr)-z.v).toNat)
   ⟨_,_,_,0⟩ ⟨hs,hG,by dsimp only;omega,by dsimp only;omega⟩ (Or.inl ⟨⟨rfl,rfl,rfl,rfl,rfl,trivial⟩,rfl⟩) ?_
  clear hs hG;rintro ⟨H3,k3,S3,v⟩ ⟨hs,hG,hv0,hv⟩;dsimp only at hs hG hv0 hv ⊢;by_cases hvl:v<t.pr
  ·have hx:=xx (a:=v) (b:=(i:Int)) (by omega) (by omega)
   have hm:=wO kt (v+(i:Int));rw[qQ (by omega) hvl,List.map_cons,qR,<- List.append_assoc] at hG;have hGl2:=congrArg List.length hG;simp only[List.length_append,qN] at hGl2
   try dsimp only[prM,blM,pwF] at hGl2
   repeat' first|refine zLw ?_|intro _ _ hs|intro K0 hK0|intro hc|refine dI ?_ ?_|(refine (c151 hpa (sr:=(xorF) v (i:Int)) (ds:=t.pr+v) (by (try dsimp only[pwF]);omega) (by omega)) (qZ hs) (by omega) (by simp only[qN];(try dsimp only[blM,pwF]);omega) (fun H6 k6 hn=>?_);have hs:=qW hs hn;clear hn)
   exact⟨⟨_,k6,_,v+1⟩,⟨hs,hG,by dsimp only;omega,by dsimp only;omega⟩,by dsimp only;omega,Or.inl ⟨⟨rfl,rfl,rfl,rfl,rfl,trivial⟩,rfl⟩⟩
  ·skip
   rw[vw (by omega),List.map_nil,show stRd ((r+i:Nat):Int) [] = [] from rfl,List.append_nil] at hG;subst hG
   repeat' first|refine zLw ?_|intro _ _ hs|intro K0 hK0|intro hc|refine dI ?_ ?_
   all_goals exact⟨⟨_,k3,_,i+1⟩,⟨hs,hS,by dsimp only;omega⟩,by dsimp only;omega,Or.inl ⟨⟨rfl,rfl,rfl,rfl,trivial⟩,rfl⟩⟩
 ·have hie:i=t.pr.toNat:=by omega
  repeat' first|refine zLw ?_|intro _ _ hs|intro K0 hK0|intro hc|refine dI ?_ ?_
  rw[List.drop_of_length_le (by omega),hie] at hS;refine h _ k2 ?_;rw[<- hS,stsF,List.append_nil,<- hie];exact hs
end Go.Af.Tryz
