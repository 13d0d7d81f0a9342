/- A part of the proof. -/
import Derived.Test.YtmnjcogpchodhaaGreatMHM
import Derived.Test.YtmnjcogpchodhaaGreatMCA
import Derived.Test.YtmnjcogpchodhaaGreatMHK
set_option linter.all false
set_option maxHeartbeats 4000000
set_option maxRecDepth 100000
namespace Go.Af.Tryz
open Go Go.Proofs Tryz
open Go.Af.Coll (St befF)
attribute [local irreducible] awp qj qI qK qE qm isCells ql qi qB qx qh roundEnd zG wZ keyK wE

theorem yM0 {t:Tk} {i:Nat} (hp:t.pr≠1) (h:(i:Int)<t.pa+t.pr-2):(chnF t)[i]! = chR t (i:Int):=by
 unfold chnF;rw[if_neg hp,getElem!_pos _ i (by simp;omega)];simp
theorem yl0 {t:Tk} (kt:TkOk t) (hop:t.op≠2):AddV 144 [.bool true] t (chnF t).length (fun r=>stsF r (chnF t)):=by
 have hpl:(chnF t).length=if t.pr=1 then 0 else (t.pa+t.pr-2).toNat:=by unfold chnF;split <;> simp
 intro H mb k b c r S R hm hr hl h;dsimp only at hl h;have hpr:=kt.pr;have hro:=kt.ro;have hpa:=kt.pa;have hlg:=wL t.pr;have hsp:=qX hpa;refine avN call144 func144 ntmps144 ?_;have hs:=hm
 repeat' first|refine zPw ?_|intro _ _ hs|intro K0 hK0
 refine wo tok mx [0,1,3,7,15,0,32,96,224,480,31,2047] [false,false,false,false,false,true,true,true,true,true,true,false] [0,1,2,3,4,5,6,7,8,9,10,11] (by kernel_rfl) ?_;refine vT (fun K0 hK0=>?_)
 repeat' first|refine zPw ?_|intro _ _ hs|intro K0 hK0
 refine qf (α := MdS) tok (fun z=>MkH H (fun x=>x=mb\/x=k) mb z.k t b c (r+z.i) z.S [] z.H/\z.S++stsF (r+z.i) ((chnF t).drop z.i)=S++stsF (r) (chnF t)/\z.i<=(chnF t).length)
  (fun z=>[(0,pM mb),(1, .bool true),(4, .int .i64 t.pr),(5, .int .i64 t.pa),(6, .int .i64 (z.i:Int))]) (fun z=>z.H) (fun z=>(chnF t).length-z.i)
  ⟨_,_,_,0⟩ ⟨hs,rfl,Nat.zero_le _⟩ (Or.inl ⟨⟨rfl,rfl,rfl,rfl,rfl,trivial⟩,rfl⟩) ?_
 clear hs;rintro ⟨H2,k2,S2,i⟩ ⟨hs,hS,hi⟩;dsimp only at hs hS hi ⊢;by_cases hp1:t.pr=1
 ·rw[if_pos hp1] at hpl
  have hi0:i=0:=by omega
  have hc0:chnF t = []:=List.eq_nil_of_length_eq_zero hpl;by_cases hil:(i:Int)<t.pa+t.pr-2
  all_goals (
   repeat' first|refine zLw ?_|intro _ _ hs|intro K0 hK0|intro hc|refine dI ?_ ?_
   refine h _ k2 ?_;rw[hc0] at hS ⊢;subst hi0;rw[List.drop_nil,stsF,List.append_nil,stsF,List.append_nil] at hS;rw[stsF,List.append_nil,<- hS];exact hs
   )
 ·rw[if_neg hp1] at hpl
  by_cases hil:(i:Int)<t.pa+t.pr-2
  ·have hbc:chR t (i:Int)=(lpW 0 1 (t.pr-1)).flatMap (chG t (i:Int)):=by
    unfold chR;rw[uD (by omega) (by omega)]
   have hD:=qY (r:=r) (i:=i) (L:=chnF t) (by omega);rw[yM0 hp1 hil] at hD;rw[hD,<- List.append_assoc] at hS;have hSl:=congrArg List.length hS;simp only[List.length_append] at hSl;generalize hG:S2++stRd ((r+i:Nat):Int) (chR t (i:Int))=G at hS;have hGl:=congrArg List.length hG;rw[List.length_append] at hGl;rw[hbc] at hG
   repeat' first|refine zLw ?_|intro _ _ hs|intro K0 hK0|intro hc|refine dI ?_ ?_
   refine qf (α := MvS) tok (fun z=>MkH H (fun x=>x=mb\/x=k) mb z.k t b c (r+i) z.S [] z.H/\z.S++stRd ((r+i:Nat):Int) ((lpW z.v (1) (t.pr-1)).flatMap (chG t (i:Int)))=G/\0<=z.v/\z.v<=1000)
    (fun z=>[(0,pM mb),(1, .bool true),(4, .int .i64 t.pr),(5, .int .i64 t.pa),(6, .int .i64 (i:Int)),(7, .int .i64 z.v)]) (fun z=>z.H) (fun z=>(1000-z.v).toNat)
    ⟨_,_,_,0⟩ ⟨hs,hG,by dsimp only;omega,by dsimp only;omega⟩ (Or.inl ⟨⟨rfl,rfl,rfl,rfl,rfl,rfl,trivial⟩,rfl⟩) ?_
   clear hs hG;rintro ⟨H3,k3,S3,v⟩ ⟨hs,hG,hv0,hv⟩;dsimp only at hs hG hv0 hv ⊢;by_cases hvl:v<t.pr-1
   ·rw[qQ (by omega) hvl,List.flatMap_cons] at hG
    by_cases hg:0<=(i:Int)-v/\(i:Int)-v<t.pa
    ·have hcg:chG t (i:Int) v = [⟨relF t v,relF t (v+1),[(i:Int)-v],[(i:Int)-v],0⟩]:=by
      unfold chG chM chS;rw[if_neg hop,if_pos hg,if_neg hop]
     rw[hcg,List.singleton_append,qR,<- List.append_assoc] at hG;have hGl2:=congrArg List.length hG;simp only[List.length_append,qN,List.length_singleton] at hGl2
     repeat' first|refine zLw ?_|intro _ _ hs|intro K0 hK0|intro hc|refine dI ?_ ?_|(refine c140 (xs := [(i:Int)-v]) (wV hs) (by omega) (by simp only[List.length_singleton];omega) (hs.get 0 rfl) ⟨neH hs 0 1,neH hs 0 2⟩ (fun H4 k4 hn=>?_);have hs:=wW hs hn;clear hn)
     all_goals exact⟨⟨_,k4,_,v+1⟩,⟨hs,hG,by dsimp only;omega,by dsimp only;omega⟩,by dsimp only;omega,Or.inl ⟨⟨rfl,rfl,rfl,rfl,rfl,rfl,trivial⟩,rfl⟩⟩
    ·have hcg:chG t (i:Int) v = []:=by
      unfold chG chS;rw[if_neg hop,if_neg hg]
     rw[hcg,List.nil_append] at hG
     repeat' first|refine zLw ?_|intro _ _ hs|intro K0 hK0|intro hc|refine dI ?_ ?_
     all_goals exact⟨⟨_,k3,_,v+1⟩,⟨hs,hG,by dsimp only;omega,by dsimp only;omega⟩,by dsimp only;omega,Or.inl ⟨⟨rfl,rfl,rfl,rfl,rfl,rfl,trivial⟩,rfl⟩⟩
   ·by_cases hvp:v<t.pr
    ·skip
     repeat' first|refine zLw ?_|intro _ _ hs|intro K0 hK0|intro hc|refine dI ?_ ?_
     all_goals exact⟨⟨_,k3,_,v+1⟩,⟨hs,by dsimp only;rw[vw (by omega)] at hG ⊢; exact hG,by dsimp only;omega,by dsimp only;omega⟩,by dsimp only;omega,Or.inl ⟨⟨rfl,rfl,rfl,rfl,rfl,rfl,trivial⟩,rfl⟩⟩
    ·skip
     rw[vw (by omega),List.flatMap_nil,show stRd ((r+i:Nat):Int) [] = [] from rfl,List.append_nil] at hG;subst hG
     repeat' first|refine zLw ?_|intro _ _ hs|intro K0 hK0|intro hc|refine dI ?_ ?_
     all_goals exact⟨⟨_,k3,_,i+1⟩,⟨hs,hS,by dsimp only;omega⟩,by dsimp only;omega,Or.inl ⟨⟨rfl,rfl,rfl,rfl,rfl,trivial⟩,rfl⟩⟩
  ·have hie:i=(chnF t).length:=by omega
   repeat' first|refine zLw ?_|intro _ _ hs|intro K0 hK0|intro hc|refine dI ?_ ?_
   rw[List.drop_of_length_le (by omega)] at hS;refine h _ k2 ?_;rw[<- hS,stsF,List.append_nil,<- hie];exact hs
theorem ym0 {t:Tk} (kt:TkOk t) (hop:t.op=2):AddV 144 [.bool false] t (chnF t).length (fun r=>stsF r (chnF t)):=by
 have hpl:(chnF t).length=if t.pr=1 then 0 else (t.pa+t.pr-2).toNat:=by unfold chnF;split <;> simp
 intro H mb k b c r S R hm hr hl h;dsimp only at hl h;have hpr:=kt.pr;have hro:=kt.ro;have hpa:=kt.pa;have hlg:=wL t.pr;have hsp:=qX hpa;refine avN call144 func144 ntmps144 ?_;have hs:=hm
 repeat' first|refine zPw ?_|intro _ _ hs|intro K0 hK0
 refine wo tok mx [0,1,3,7,15,0,32,96,224,480,31,2047] [false,false,false,false,false,true,true,true,true,true,true,false] [0,1,2,3,4,5,6,7,8,9,10,11] (by kernel_rfl) ?_;refine vT (fun K0 hK0=>?_)
 repeat' first|refine zPw ?_|intro _ _ hs|intro K0 hK0
 refine qf (α := MdS) tok (fun z=>MkH H (fun x=>x=mb\/x=k) mb z.k t b c (r+z.i) z.S [] z.H/\z.S++stsF (r+z.i) ((chnF t).drop z.i)=S++stsF (r) (chnF t)/\z.i<=(chnF t).length)
  (fun z=>[(0,pM mb),(1, .bool false),(4, .int .i64 t.pr),(5, .int .i64 t.pa),(6, .int .i64 (z.i:Int))]) (fun z=>z.H) (fun z=>(chnF t).length-z.i)
  ⟨_,_,_,0⟩ ⟨hs,rfl,Nat.zero_le _⟩ (Or.inl ⟨⟨rfl,rfl,rfl,rfl,rfl,trivial⟩,rfl⟩) ?_
 clear hs;rintro ⟨H2,k2,S2,i⟩ ⟨hs,hS,hi⟩;dsimp only at hs hS hi ⊢;by_cases hp1:t.pr=1
 ·rw[if_pos hp1] at hpl
  have hi0:i=0:=by omega
  have hc0:chnF t = []:=List.eq_nil_of_length_eq_zero hpl;by_cases hil:(i:Int)<t.pa+t.pr-2
  all_goals (
   repeat' first|refine zLw ?_|intro _ _ hs|intro K0 hK0|intro hc|refine dI ?_ ?_
   refine h _ k2 ?_;rw[hc0] at hS ⊢;subst hi0;rw[List.drop_nil,stsF,List.append_nil,stsF,List.append_nil] at hS;rw[stsF,List.append_nil,<- hS];exact hs
   )
 ·rw[if_neg hp1] at hpl
  by_cases hil:(i:Int)<t.pa+t.pr-2
  ·have hbc:chR t (i:Int)=(lpW (max ((0:Int)-1) 0) 1 (t.pr-1)).flatMap (chG t (i:Int)):=by
    unfold chR;rw[uD (by omega) (by omega)];rfl
   have hD:=qY (r:=r) (i:=i) (L:=chnF t) (by omega);rw[yM0 hp1 hil] at hD;rw[hD,<- List.append_assoc] at hS;have hSl:=congrArg List.length hS;simp only[List.length_append] at hSl;generalize hG:S2++stRd ((r+i:Nat):Int) (chR t (i:Int))=G at hS;have hGl:=congrArg List.length hG;rw[List.length_append] at hGl;rw[hbc] at hG
   repeat' first|refine zLw ?_|intro _ _ hs|intro K0 hK0|intro hc|refine dI ?_ ?_
   refine qf (α := MvS) tok (fun z=>MkH H (fun x=>x=mb\/x=k) mb z.k t b c (r+i) z.S [] z.H/\z.S++stRd ((r+i:Nat):Int) ((lpW (max (z.v-1) 0) 1 (t.pr-1)).flatMap (chG t (i:Int)))=G/\0<=z.v/\z.v<=1000)
    (fun z=>[(0,pM mb),(1, .bool false),(4, .int .i64 t.pr),(5, .int .i64 t.pa),(6, .int .i64 (i:Int)),(7, .int .i64 z.v)]) (fun z=>z.H) (fun z=>(1000-z.v).toNat)
    ⟨_,_,_,0⟩ ⟨hs,hG,by dsimp only;omega,by dsimp only;omega⟩ (Or.inl ⟨⟨rfl,rfl,rfl,rfl,rfl,rfl,trivial⟩,rfl⟩) ?_
   clear hs hG;rintro ⟨H3,k3,S3,v⟩ ⟨hs,hG,hv0,hv⟩;dsimp only at hs hG hv0 hv ⊢;by_cases hvp:v<t.pr
   ·by_cases hvz:v=0
    ·subst hvz
     rw[show max ((0:Int)-1) 0=max ((0:Int)+1-1) 0 by decide] at hG;by_cases hg:0<=(i:Int)-(t.pr-1-0)/\(i:Int)-(t.pr-1-0)<t.pa
     all_goals (
      repeat' first|refine zLw ?_|intro _ _ hs|intro K0 hK0|intro hc|refine dI ?_ ?_
      all_goals exact⟨⟨_,k3,_,0+1⟩,⟨hs,hG,by dsimp only;omega,by dsimp only;omega⟩,by dsimp only;omega,Or.inl ⟨⟨rfl,rfl,rfl,rfl,rfl,rfl,trivial⟩,rfl⟩⟩
      )
    ·rw[show max (v-1) 0=v-1 by omega,qQ (by omega) (by omega),List.flatMap_cons] at hG
     have ev:v-1+1=max (v+1-1) 0:=by omega
     by_cases hg:0<=(i:Int)-(t.pr-1-v)/\(i:Int)-(t.pr-1-v)<t.pa
     ·have hcg:chG t (i:Int) (v-1) = [⟨relF t v,relF t (v-1),[(i:Int)-(t.pr-1-v)],[(i:Int)-(t.pr-1-v)],2⟩]:=by
       unfold chG chM chS;rw[if_pos hop,if_pos hop,show (i:Int)-(t.pr-2-(v-1))=(i:Int)-(t.pr-1-v) by omega,if_pos hg,show v-1+1=v by omega]
      rw[hcg,List.singleton_append,qR,<- List.append_assoc,ev] at hG;have hGl2:=congrArg List.length hG;simp only[List.length_append,qN,List.length_singleton] at hGl2
      repeat' first|refine zLw ?_|intro _ _ hs|intro K0 hK0|intro hc|refine dI ?_ ?_|(refine c140 (xs := [(i:Int)-(t.pr-1-v)]) (wV hs) (by omega) (by simp only[List.length_singleton];omega) (hs.get 0 rfl) ⟨neH hs 0 1,neH hs 0 2⟩ (fun H4 k4 hn=>?_);have hs:=wW hs hn;clear hn)
      all_goals exact⟨⟨_,k4,_,v+1⟩,⟨hs,hG,by dsimp only;omega,by dsimp only;omega⟩,by dsimp only;omega,Or.inl ⟨⟨rfl,rfl,rfl,rfl,rfl,rfl,trivial⟩,rfl⟩⟩
     ·have hcg:chG t (i:Int) (v-1) = []:=by
       unfold chG chS;rw[if_pos hop,show (i:Int)-(t.pr-2-(v-1))=(i:Int)-(t.pr-1-v) by omega,if_neg hg]
      rw[hcg,List.nil_append,ev] at hG
      repeat' first|refine zLw ?_|intro _ _ hs|intro K0 hK0|intro hc|refine dI ?_ ?_
      all_goals exact⟨⟨_,k3,_,v+1⟩,⟨hs,hG,by dsimp only;omega,by dsimp only;omega⟩,by dsimp only;omega,Or.inl ⟨⟨rfl,rfl,rfl,rfl,rfl,rfl,trivial⟩,rfl⟩⟩
   ·rw[vw (by omega),List.flatMap_nil,show stRd ((r+i:Nat):Int) [] = [] from rfl,List.append_nil] at hG
    subst hG
    repeat' first|refine zLw ?_|intro _ _ hs|intro K0 hK0|intro hc|refine dI ?_ ?_
    all_goals exact⟨⟨_,k3,_,i+1⟩,⟨hs,hS,by dsimp only;omega⟩,by dsimp only;omega,Or.inl ⟨⟨rfl,rfl,rfl,rfl,rfl,trivial⟩,rfl⟩⟩
  ·have hie:i=(chnF t).length:=by omega
   repeat' first|refine zLw ?_|intro _ _ hs|intro K0 hK0|intro hc|refine dI ?_ ?_
   rw[List.drop_of_length_le (by omega)] at hS;refine h _ k2 ?_;rw[<- hS,stsF,List.append_nil,<- hie];exact hs
theorem Vj0 {t:Tk} {a:Int} (kt:TkOk t) (hop:t.op=2) (h1:a≠1) (h2:a≠2):AddV 63 [.int .i64 a] t (chnF t).length (fun r=>stsF r (chnF t)):=by
 intro H mb k b c r S R hm hr hl h;dsimp only at hl h;have hpr:=kt.pr;have hro:=kt.ro;have hpa:=kt.pa;have hlg:=wL t.pr;have hsp:=qX hpa;refine avN call63 func63 ntmps63 ?_;have hs:=hm
 repeat' first|refine zQw ?_|intro _ _ hs|intro K0 hK0|intro hc|refine dI ?_ ?_
 refine wo tok mx [0,1,3,7,15,0,32,96,224,480,31,2047] [false,false,false,false,false,true,true,true,true,true,true,false] [0,1,2,3,4,5,6,7,8,9,10,11] (by kernel_rfl) ?_;refine vT (fun K0 hK0=>?_)
 repeat' first|refine zQw ?_|intro _ _ hs|intro K0 hK0|intro hc|refine dI ?_ ?_
 refine (ym0 kt hop) (qZ hs) (by omega) (by dsimp only;omega) (fun H2 k2 hn=>?_);have hs:=qW hs hn;clear hn
 repeat' first|refine zPw ?_|intro _ _ hs|intro K0 hK0
 exact h _ k2 hs
theorem Vn0 {t:Tk} (kt:TkOk t) (hop:t.op≠2):AddV 62 [.int .i64 3] t (chnF t).length (fun r=>stsF r (chnF t)):=by
 intro H mb k b c r S R hm hr hl h;dsimp only at hl h;have hpr:=kt.pr;have hro:=kt.ro;have hpa:=kt.pa;have hlg:=wL t.pr;have hsp:=qX hpa;refine avN call62 func62 ntmps62 ?_;have hs:=hm
 repeat' first|refine zQw ?_|intro _ _ hs|intro K0 hK0|intro hc|refine dI ?_ ?_
 refine (yl0 kt hop) (qZ hs) (by omega) (by dsimp only;omega) (fun H2 k2 hn=>?_);have hs:=qW hs hn;clear hn
 repeat' first|refine zPw ?_|intro _ _ hs|intro K0 hK0
 exact h _ k2 hs
end Go.Af.Tryz
namespace Go.Af.Tryz
open Go Go.Proofs
open Go.Af.Coll (St befF)
attribute [local irreducible] awp qj qI qK qE qm isCells ql qi qB qx qh roundEnd zG wZ keyK wE

structure HdS where
 H:List Blk
 k:Nat
 S:List St
 i:Nat
 n:Nat
 h:Int
theorem QT0 {t:Tk} (kt:TkOk t):AddV 70 [.int .i64 11] t (hlvF t).length (fun r=>stsF r (hlvF t)):=by
 intro H mb k b c r S R hm hr hl h;dsimp only at hl h;have hpr:=kt.pr;have hro:=kt.ro;have hpa:=kt.pa;have hlg:=wL t.pr;have hsp:=qX hpa;refine avN Tryz.call70 Tryz.func70 Tryz.ntmps70 ?_;have hs:=hm;have ht2:t.pr.tdiv 2=t.pr / 2:=Int.tdiv_eq_ediv_of_nonneg (by omega)
 repeat' first|refine zQw ?_|intro _ _ hs|intro K0 hK0|intro hc|refine dI ?_ ?_
 rw[ht2]
 refine qf (α := HdS) tok (fun z=>MkH H (fun x=>x=mb\/x=k) mb z.k t b c (r+z.i) z.S [] z.H/\z.S++stsF (r+z.i) ((hlF z.n z.h).map (evF t (Qo t)))=S++stsF r (hlvF t)/\z.i+(hlF z.n z.h).length=(hlvF t).length/\z.h<(2:Int) ^ z.n/\0<=z.h/\z.h<=32)
  (fun z=>[(0,pM mb),(1, .int .i64 11),(4, .int .i64 t.pr),(5, .int .i64 z.h)]) (fun z=>z.H) (fun z=>z.n)
  ⟨_,_,_,0,7,t.pr / 2⟩ ⟨hs,rfl,by unfold hlvF;rw[List.length_map,Nat.zero_add],by dsimp only;omega,by dsimp only;omega,by dsimp only;omega⟩ (Or.inl ⟨⟨rfl,rfl,rfl,rfl,trivial⟩,rfl⟩) ?_
 clear hs;rintro ⟨H2,k2,S2,i,n,hh⟩ ⟨hs,hS,hil,hlt,hh0,hh1⟩;dsimp only at hs hS hil hlt hh0 hh1 ⊢;by_cases hp2:1<=hh
 ·obtain ⟨m,rfl,hc2,hlt2⟩:=hl_t hp2 hlt
  have hd:hh.tdiv 2=hh / 2:=Int.tdiv_eq_ediv_of_nonneg (by omega);rw[hc2,List.map_cons,stsF,<- List.append_assoc] at hS;rw[hc2,List.length_cons] at hil;have hSl:=congrArg List.length hS;simp only[List.length_append] at hSl;generalize hG:S2++stRd ((r+i:Nat):Int) (evF t (Qo t) hh)=G at hS;have hGl:=congrArg List.length hG;rw[List.length_append] at hGl;rw[ev_W t (Qo t) hh (by omega)] at hG
  repeat' first|refine zLw ?_|intro _ _ hs|intro K0 hK0|intro hc|refine dI ?_ ?_
  refine qf (α := MvS) tok (fun z=>MkH H (fun x=>x=mb\/x=k) mb z.k t b c (r+i) z.S [] z.H/\z.S++stRd ((r+i:Nat):Int) ((lpW z.v (1) (t.pr)).map (Qo t hh))=G/\0<=z.v/\z.v<=1000)
   (fun z=>[(0,pM mb),(1, .int .i64 11),(4, .int .i64 t.pr),(5, .int .i64 hh),(6, .int .i64 z.v)]) (fun z=>z.H) (fun z=>((t.pr)-z.v).toNat)
   ⟨_,_,_,0⟩ ⟨hs,hG,by dsimp only;omega,by dsimp only;omega⟩ (Or.inl ⟨⟨rfl,rfl,rfl,rfl,rfl,trivial⟩,rfl⟩) ?_
  clear hs hG;rintro ⟨H3,k3,S3,v⟩ ⟨hs,hG,hv0,hv⟩;dsimp only at hs hG hv0 hv ⊢;by_cases hvl:v<t.pr
  ·have hx:=xx (a:=v) (b:=hh) (by omega) (by omega)
   have hq:=yO (r:=xorF v hh) (i:=hh) hx.2.1 hp2
   have hmm:stM ((r+i:Nat):Int) (Qo t hh v)=stRd ((r+i:Nat):Int) ((lpW ((xorF v hh).tdiv hh*hh) 1 ((xorF v hh).tdiv hh*hh+hh)).map (fun j=>blM t v (xorF v hh) j j (sidF v (xorF v hh)))):=by
    unfold Qo;rw[<- hq.1,ZH (by omega) _ _ _ _ (by omega)]
   rw[qQ (by omega) hvl,List.map_cons,qR,<- List.append_assoc] at hG;have hGl2:=congrArg List.length hG;simp only[List.length_append] at hGl2;generalize hG2:S3++stM ((r+i:Nat):Int) (Qo t hh v)=G2 at hG;have hGl3:=congrArg List.length hG2;rw[List.length_append] at hGl3;rw[hmm] at hG2
   repeat' first|refine zLw ?_|intro _ _ hs|intro K0 hK0|intro hc|refine dI ?_ ?_
   generalize hw0e:(xorF v hh).tdiv hh*hh=w0 at hG2 hq ⊢;generalize hxe:xorF v hh=x at hG2 hx hq hw0e ⊢
   refine qf (α := MvS) tok (fun z=>MkH H (fun x=>x=mb\/x=k) mb z.k t b c (r+i) z.S [] z.H/\z.S++stRd ((r+i:Nat):Int) ((lpW z.v (1) (w0+hh)).map (fun j=>blM t v x j j (sidF v x)))=G2/\w0<=z.v/\z.v<=1000)
    (fun z=>[(0,pM mb),(1, .int .i64 11),(4, .int .i64 t.pr),(5, .int .i64 hh),(6, .int .i64 v),(7, .int .i64 x),(8, .int .i64 z.v)]) (fun z=>z.H) (fun z=>(1000-z.v).toNat)
    ⟨_,_,_,w0⟩ ⟨hs,hG2,by dsimp only;omega,by dsimp only;omega⟩ (Or.inl ⟨⟨rfl,rfl,rfl,rfl,rfl,rfl,rfl,trivial⟩,rfl⟩) ?_
   clear hs hG2;rintro ⟨H5,k5,S5,w⟩ ⟨hs,hG2,hw0,hw⟩;dsimp only at hs hG2 hw0 hw ⊢;by_cases hwl:w<w0+hh
   ·skip
    rw[qQ (by omega) hwl,List.map_cons,qR,<- List.append_assoc] at hG2;have hGl4:=congrArg List.length hG2;simp only[List.length_append,qN] at hGl4
    try dsimp only[blM] at hGl4
    repeat' first|refine zLw ?_|intro _ _ hs|intro K0 hK0|intro hc|refine dI ?_ ?_
    rw[hw0e]
    repeat' first|refine zLw ?_|intro _ _ hs|intro K0 hK0|intro hc|refine dI ?_ ?_|(refine (c151 hpa (by first | omega | exact wX kt _ | exact wU kt _) (by first | omega | exact wX kt _ | exact wU kt _)) (qZ hs) (by omega) (by simp only[qN];(try dsimp only[blM]);omega) (fun H6 k6 hn=>?_);have hs:=qW hs hn;clear hn)
    exact⟨⟨_,k6,_,w+1⟩,⟨hs,hG2,by dsimp only;omega,by dsimp only;omega⟩,by dsimp only;omega,Or.inl ⟨⟨rfl,rfl,rfl,rfl,rfl,rfl,rfl,trivial⟩,rfl⟩⟩
   ·skip
    rw[vw (by omega),List.map_nil,show stRd ((r+i:Nat):Int) [] = [] from rfl,List.append_nil] at hG2;subst hG2
    repeat' first|refine zLw ?_|intro _ _ hs|intro K0 hK0|intro hc|refine dI ?_ ?_
    rw[hw0e]
    repeat' first|refine zLw ?_|intro _ _ hs|intro K0 hK0|intro hc|refine dI ?_ ?_
    all_goals exact⟨⟨_,k5,_,v+1⟩,⟨hs,hG,by dsimp only;omega,by dsimp only;omega⟩,by dsimp only;omega,Or.inl ⟨⟨rfl,rfl,rfl,rfl,rfl,trivial⟩,rfl⟩⟩
  ·skip
   rw[vw (by omega),List.map_nil,show stRd ((r+i:Nat):Int) [] = [] from rfl,List.append_nil] at hG;subst hG
   repeat' first|refine zLw ?_|intro _ _ hs|intro K0 hK0|intro hc|refine dI ?_ ?_
   rw[hd]
   all_goals exact⟨⟨_,k3,_,i+1,m,hh / 2⟩,⟨hs,hS,by dsimp only;omega,hlt2,by dsimp only;omega,by dsimp only;omega⟩,by dsimp only;omega,Or.inl ⟨⟨rfl,rfl,rfl,rfl,trivial⟩,rfl⟩⟩
 ·have hz:hlF n hh = []:=hl_f (by omega)
  rw[hz,List.map_nil,stsF,List.append_nil] at hS;rw[hz,List.length_nil,Nat.add_zero] at hil
  repeat' first|refine zLw ?_|intro _ _ hs|intro K0 hK0|intro hc|refine dI ?_ ?_
  refine h _ k2 ?_;rw[<- hS,<- hil];exact hs
end Go.Af.Tryz
