/- A part of the proof. -/
import Derived.Test.YtmnjcogpchodhaaGreatMHK
import Derived.Test.YtmnjcogpchodhaaGreatMCA
set_option linter.all false
set_option maxHeartbeats 4000000
set_option maxRecDepth 100000
namespace Go.Af.Tryz
open Go Go.Proofs Tryz
open Go.Af.Coll (St befF)
attribute [local irreducible] awp qj qI qK qE qm isCells ql qi qB qx qh roundEnd zG wZ keyK wE

def lpW (v d hi:Int):List Int:=lpF (hi-v).toNat v d hi
theorem XB {d hi:Int} (hd:1<=d) : ∀ {n m:Nat} {v:Int},(hi-v).toNat<=n->(hi-v).toNat<=m->lpF n v d hi=lpF m v d hi
 | 0,0,_,_,_=>rfl
 | 0,m+1,v,h1,_=>by rw[lpF,lpF,if_neg (by omega)]
 | n+1,0,v,_,h2=>by rw[lpF,lpF,if_neg (by omega)]
 | n+1,m+1,v,h1,h2=>by
   rw[lpF,lpF];split
   ·rw[XB hd (n:=n) (m:=m) (v:=v+d) (by omega) (by omega)]
   ·rfl
theorem uD {n:Nat} {v d hi:Int} (hd:1<=d) (h:(hi-v).toNat<=n):lpF n v d hi=lpW v d hi:=XB hd h (Nat.le_refl _)
theorem qQ {v d hi:Int} (hd:1<=d) (h:v<hi):lpW v d hi=v::lpW (v+d) d hi:=by
 unfold lpW;obtain ⟨n,hn⟩ : ∃ n,(hi-v).toNat=n+1:=⟨(hi-v).toNat-1,by omega⟩;rw[hn,lpF,if_pos h,XB hd (n:=n) (m:=(hi-(v+d)).toNat) (by omega) (Nat.le_refl _)]
theorem vw {v d hi:Int} (h:hi<=v):lpW v d hi = []:=by
 unfold lpW;rw[show (hi-v).toNat=0 by omega];rfl
theorem WX {α : Type} (f:Int->α) : ∀ (n:Nat) (v:Int),(List.range n).map (fun i:Nat=>f (v+(i:Int)))=(lpW v 1 (v+n)).map f
 | 0,v=>by rw[vw (by omega)];rfl
 | n+1,v=>by
   rw[qQ (by decide) (by omega),List.range_succ_eq_map,List.map_cons,List.map_map,List.map_cons];congr 1
   ·congr 1;omega
   ·have:=WX f n (v+1)
    rw[show v+1+(n:Int)=v+((n+1:Nat):Int) by omega] at this;rw[<- this]
    apply List.map_congr_left
    intro i _;simp only[Function.comp_apply];congr 1;omega
theorem ev_W (t:Tk) (mk:Int->Int->Msg) (i:Int) (hp:0<=t.pr):evF t mk i=(lpW 0 1 t.pr).map (mk i):=by
 have:=WX (mk i) t.pr.toNat 0;rw[show (0:Int)+(t.pr.toNat:Int)=t.pr by omega] at this;rw[<- this];unfold evF
 apply List.map_congr_left
 intro r _;rw[Int.zero_add]
theorem qR (r:Int) (m:Msg) (ms:List Msg):stRd r (m::ms)=stM r m++stRd r ms:=rfl
theorem Qc (r:Int) (ms ms' : List Msg):stRd r (ms++ms')=stRd r ms++stRd r ms' := List.flatMap_append
theorem qY {r i:Nat} {L:List (List Msg)} (h:i<L.length):stsF (r+i) (L.drop i)=stRd ((r+i:Nat):Int) L[i]! ++ stsF (r+(i+1)) (L.drop (i+1)):=by
 rw[List.drop_eq_getElem_cons h,stsF,getElem!_pos L i h];rfl
theorem VT {ms:Int->List Msg} {p:Int} {i:Nat} (h:i<lgF p):(powF ms p)[i]! = ms ((2:Int) ^ i):=by
 rw[getElem!_pos _ i (by simp[powF];exact h)];simp[powF]
theorem xA {ms:Int->List Msg} {p:Int} {i:Nat} (h:(i:Int)<p-1):(qM ms p)[i]! = ms (i:Int):=by
 rw[getElem!_pos _ i (by simp[qM];omega)];simp[qM]
structure MvS where
 H:List Blk
 k:Nat
 S:List St
 v:Int
theorem qX {t:Tk} (hp:1<=t.pa/\t.pa<=16):(spnF t 0 1).length=t.pa.toNat:=by
 rw[yR];congr 1;omega
theorem UD {t:Tk} (kt:TkOk t):AddV 143 [] t (lgF t.pr) (fun r=>stsF r (powF (bcT t) t.pr)):=by
 have hpl:(powF (bcT t) t.pr).length=lgF t.pr:=by simp[powF]
 intro H mb k b c r S R hm hr hl h;dsimp only at hl h;have hpr:=kt.pr;have hro:=kt.ro;have hpa:=kt.pa;have hlg:=wL t.pr;have hsp:=qX hpa;refine avN call143 func143 ntmps143 ?_;have hs:=hm
 repeat' first|refine zPw ?_|intro _ _ hs|intro K0 hK0
 refine qf (α := MdS) tok (fun z=>MkH H (fun x=>x=mb\/x=k) mb z.k t b c (r+z.i) z.S [] z.H/\z.S++stsF (r+z.i) ((powF (bcT t) t.pr).drop z.i)=S++stsF (r) (powF (bcT t) t.pr)/\z.i<=lgF t.pr)
  (fun z=>[(0,pM mb),(2, .int .i64 t.pr),(3, .int .i64 (z.i:Int))]) (fun z=>z.H) (fun z=>lgF t.pr-z.i)
  ⟨_,_,_,0⟩ ⟨hs,rfl,Nat.zero_le _⟩ (Or.inl ⟨⟨rfl,rfl,rfl,trivial⟩,rfl⟩) ?_
 clear hs;rintro ⟨H2,k2,S2,i⟩ ⟨hs,hS,hi⟩;dsimp only at hs hS hi ⊢
 repeat' first|refine zPw ?_|intro _ _ hs|intro K0 hK0
 refine c150 hpr ?_;by_cases hil:i<lgF t.pr
 ·skip
  repeat' first|refine zQw ?_|intro _ _ hs|intro K0 hK0|intro hc|refine dI ?_ ?_
  have hp2:=zL (i:=i) (by omega);have hlt:=(Wp (p:=t.pr) (i:=i) hpr.2 (by omega)).2 hil
  have hbc:bcT t ((2:Int) ^ i)=(lpW 0 1 (min ((2:Int) ^ i) (t.pr-(2:Int) ^ i))).map (bcM t ((2:Int) ^ i)):=by
   unfold bcT;rw[uD (by decide) (by omega)]
  have hD:=qY (r:=r) (i:=i) (L:=powF (bcT t) t.pr) (by omega);rw[VT hil] at hD;rw[hD,<- List.append_assoc] at hS;have hSl:=congrArg List.length hS;simp only[List.length_append] at hSl;generalize hG:S2++stRd ((r+i:Nat):Int) (bcT t ((2:Int) ^ i))=G at hS;have hGl:=congrArg List.length hG;rw[List.length_append] at hGl;rw[hbc] at hG
  refine qf (α := MvS) tok (fun z=>MkH H (fun x=>x=mb\/x=k) mb z.k t b c (r+i) z.S [] z.H/\z.S++stRd ((r+i:Nat):Int) ((lpW z.v (1) (min ((2:Int) ^ i) (t.pr-(2:Int) ^ i))).map (bcM t ((2:Int) ^ i)))=G/\0<=z.v/\z.v<=1000)
   (fun z=>[(0,pM mb),(2, .int .i64 t.pr),(3, .int .i64 (i:Int)),(4, .int .i64 z.v)]) (fun z=>z.H) (fun z=>((min ((2:Int) ^ i) (t.pr-(2:Int) ^ i))-z.v).toNat)
   ⟨_,_,_,0⟩ ⟨hs,hG,by dsimp only;omega,by dsimp only;omega⟩ (Or.inl ⟨⟨rfl,rfl,rfl,rfl,trivial⟩,rfl⟩) ?_
  clear hs hG;rintro ⟨H3,k3,S3,v⟩ ⟨hs,hG,hv0,hv⟩;dsimp only at hs hG hv0 hv ⊢;by_cases hvl:v<min ((2:Int) ^ i) (t.pr-(2:Int) ^ i)
  ·skip
   rw[qQ (by omega) hvl,List.map_cons,qR,<- List.append_assoc] at hG;have hGl2:=congrArg List.length hG;simp only[List.length_append,qN] at hGl2
   try dsimp only[bcM,smM] at hGl2
   repeat' first|refine zLw ?_|intro _ _ hs|intro K0 hK0|intro hc|refine dI ?_ ?_
   refine wo tok mx [0,0,0,6,0,0,0,64,224,510,0,2046,4095] [false,false,false,false,false,false,false,false,false,false,false,false,false] [0,1,2,4,5,6,7,8,10,3,9,11,12] (by kernel_rfl) ?_;refine vT (fun K0 hK0=>?_)
   repeat' first|refine zLw ?_|intro _ _ hs|intro K0 hK0|intro hc|refine dI ?_ ?_|(refine c140 (wV hs) (by omega) (by omega) (hs.get 0 rfl) ⟨neH hs 0 1,neH hs 0 2⟩ (fun H4 k4 hn=>?_);have hs:=wW hs hn;clear hn)
   exact⟨⟨_,k4,_,v+1⟩,⟨hs,hG,by dsimp only;omega,by dsimp only;omega⟩,by dsimp only;omega,Or.inl ⟨⟨rfl,rfl,rfl,rfl,trivial⟩,rfl⟩⟩
  ·skip
   rw[vw (by omega),List.map_nil,show stRd ((r+i:Nat):Int) [] = [] from rfl,List.append_nil] at hG;subst hG
   repeat' first|refine zLw ?_|intro _ _ hs|intro K0 hK0|intro hc|refine dI ?_ ?_
   all_goals exact⟨⟨_,k3,_,i+1⟩,⟨hs,hS,hil⟩,by dsimp only;omega,Or.inl ⟨⟨rfl,rfl,rfl,trivial⟩,rfl⟩⟩
 ·have hie:i=lgF t.pr:=by omega
  repeat' first|refine zQw ?_|intro _ _ hs|intro K0 hK0|intro hc|refine dI ?_ ?_
  rw[List.drop_of_length_le (by omega),hie] at hS;refine h _ k2 ?_;rw[<- hS,stsF,List.append_nil,<- hie];exact hs
theorem UC {t:Tk} (kt:TkOk t):AddV 148 [] t (lgF t.pr) (fun r=>stsF r (powF (rdT t) t.pr)):=by
 have hpl:(powF (rdT t) t.pr).length=lgF t.pr:=by simp[powF]
 intro H mb k b c r S R hm hr hl h;dsimp only at hl h;have hpr:=kt.pr;have hro:=kt.ro;have hpa:=kt.pa;have hlg:=wL t.pr;have hsp:=qX hpa;refine avN call148 func148 ntmps148 ?_;have hs:=hm
 repeat' first|refine zPw ?_|intro _ _ hs|intro K0 hK0
 refine qf (α := MdS) tok (fun z=>MkH H (fun x=>x=mb\/x=k) mb z.k t b c (r+z.i) z.S [] z.H/\z.S++stsF (r+z.i) ((powF (rdT t) t.pr).drop z.i)=S++stsF (r) (powF (rdT t) t.pr)/\z.i<=lgF t.pr)
  (fun z=>[(0,pM mb),(2, .int .i64 t.pr),(3, .int .i64 (z.i:Int))]) (fun z=>z.H) (fun z=>lgF t.pr-z.i)
  ⟨_,_,_,0⟩ ⟨hs,rfl,Nat.zero_le _⟩ (Or.inl ⟨⟨rfl,rfl,rfl,trivial⟩,rfl⟩) ?_
 clear hs;rintro ⟨H2,k2,S2,i⟩ ⟨hs,hS,hi⟩;dsimp only at hs hS hi ⊢
 repeat' first|refine zPw ?_|intro _ _ hs|intro K0 hK0
 refine c150 hpr ?_;by_cases hil:i<lgF t.pr
 ·skip
  repeat' first|refine zQw ?_|intro _ _ hs|intro K0 hK0|intro hc|refine dI ?_ ?_
  have hp2:=zL (i:=i) (by omega);have hlt:=(Wp (p:=t.pr) (i:=i) hpr.2 (by omega)).2 hil
  have hbc:rdT t ((2:Int) ^ i)=(lpW ((2:Int) ^ i) (2*(2:Int) ^ i) t.pr).map (rdM t ((2:Int) ^ i)):=by
   unfold rdT;rw[uD (by omega) (by omega)]
  have hD:=qY (r:=r) (i:=i) (L:=powF (rdT t) t.pr) (by omega);rw[VT hil] at hD;rw[hD,<- List.append_assoc] at hS;have hSl:=congrArg List.length hS;simp only[List.length_append] at hSl;generalize hG:S2++stRd ((r+i:Nat):Int) (rdT t ((2:Int) ^ i))=G at hS;have hGl:=congrArg List.length hG;rw[List.length_append] at hGl;rw[hbc] at hG
  repeat' first|refine zLw ?_|intro _ _ hs|intro K0 hK0|intro hc|refine dI ?_ ?_
  refine qf (α := MvS) tok (fun z=>MkH H (fun x=>x=mb\/x=k) mb z.k t b c (r+i) z.S [] z.H/\z.S++stRd ((r+i:Nat):Int) ((lpW z.v (2*(2:Int) ^ i) (t.pr)).map (rdM t ((2:Int) ^ i)))=G/\0<=z.v/\z.v<=1000)
   (fun z=>[(0,pM mb),(2, .int .i64 t.pr),(3, .int .i64 (i:Int)),(4, .int .i64 z.v)]) (fun z=>z.H) (fun z=>((t.pr)-z.v).toNat)
   ⟨_,_,_,(2:Int) ^ i⟩ ⟨hs,hG,by dsimp only;omega,by dsimp only;omega⟩ (Or.inl ⟨⟨rfl,rfl,rfl,rfl,trivial⟩,rfl⟩) ?_
  clear hs hG;rintro ⟨H3,k3,S3,v⟩ ⟨hs,hG,hv0,hv⟩;dsimp only at hs hG hv0 hv ⊢;by_cases hvl:v<t.pr
  ·skip
   rw[qQ (by omega) hvl,List.map_cons,qR,<- List.append_assoc] at hG;have hGl2:=congrArg List.length hG;simp only[List.length_append,qN] at hGl2
   try dsimp only[rdM,smM] at hGl2
   repeat' first|refine zLw ?_|intro _ _ hs|intro K0 hK0|intro hc|refine dI ?_ ?_
   refine wo tok mx [0,0,0,6,0,0,0,64,224,510,0,2046,4095] [false,false,false,false,false,false,false,false,false,false,false,false,false] [0,1,2,4,5,6,7,8,10,3,9,11,12] (by kernel_rfl) ?_;refine vT (fun K0 hK0=>?_)
   repeat' first|refine zLw ?_|intro _ _ hs|intro K0 hK0|intro hc|refine dI ?_ ?_|(refine c140 (wV hs) (by omega) (by omega) (hs.get 0 rfl) ⟨neH hs 0 1,neH hs 0 2⟩ (fun H4 k4 hn=>?_);have hs:=wW hs hn;clear hn)
   exact⟨⟨_,k4,_,v+2*(2:Int) ^ i⟩,⟨hs,hG,by dsimp only;omega,by dsimp only;omega⟩,by dsimp only;omega,Or.inl ⟨⟨rfl,rfl,rfl,rfl,trivial⟩,rfl⟩⟩
  ·skip
   rw[vw (by omega),List.map_nil,show stRd ((r+i:Nat):Int) [] = [] from rfl,List.append_nil] at hG;subst hG
   repeat' first|refine zLw ?_|intro _ _ hs|intro K0 hK0|intro hc|refine dI ?_ ?_
   all_goals exact⟨⟨_,k3,_,i+1⟩,⟨hs,hS,hil⟩,by dsimp only;omega,Or.inl ⟨⟨rfl,rfl,rfl,trivial⟩,rfl⟩⟩
 ·have hie:i=lgF t.pr:=by omega
  repeat' first|refine zQw ?_|intro _ _ hs|intro K0 hK0|intro hc|refine dI ?_ ?_
  rw[List.drop_of_length_le (by omega),hie] at hS;refine h _ k2 ?_;rw[<- hS,stsF,List.append_nil,<- hie];exact hs
end Go.Af.Tryz
namespace Go.Af.Tryz
open Go Go.Proofs Tryz
open Go.Af.Coll (St befF)
attribute [local irreducible] awp qj qI qK qE qm isCells ql qi qB qx qh roundEnd zG wZ keyK wE

theorem yl (r:Int) (m:Msg):stRd r [m]=stM r m:=List.append_nil _
theorem Vf0 {t:Tk} (kt:TkOk t):AddV 65 [.int .i64 1] t (t.pr-1).toNat (fun r=>stsF r (qM (scL t) t.pr)):=by
 have hpl:(qM (scL t) t.pr).length=(t.pr-1).toNat:=by simp[qM]
 intro H mb k b c r S R hm hr hl h;dsimp only at hl h;have hpr:=kt.pr;have hro:=kt.ro;have hpa:=kt.pa;have hlg:=wL t.pr;have hsp:=qX hpa;refine avN call65 func65 ntmps65 ?_;have hs:=hm
 repeat' first|refine zPw ?_|intro _ _ hs|intro K0 hK0
 refine qf (α := MdS) tok (fun z=>MkH H (fun x=>x=mb\/x=k) mb z.k t b c (r+z.i) z.S [] z.H/\z.S++stsF (r+z.i) ((qM (scL t) t.pr).drop z.i)=S++stsF (r) (qM (scL t) t.pr)/\z.i<=(t.pr-1).toNat)
  (fun z=>[(0,pM mb),(1, .int .i64 1),(4, .int .i64 t.pr),(5, .int .i64 (z.i:Int))]) (fun z=>z.H) (fun z=>(t.pr-1).toNat-z.i)
  ⟨_,_,_,0⟩ ⟨hs,rfl,Nat.zero_le _⟩ (Or.inl ⟨⟨rfl,rfl,rfl,rfl,trivial⟩,rfl⟩) ?_
 clear hs;rintro ⟨H2,k2,S2,i⟩ ⟨hs,hS,hi⟩;dsimp only at hs hS hi ⊢;by_cases hil:(i:Int)<t.pr-1
 ·skip
  have hD:=qY (r:=r) (i:=i) (L:=qM (scL t) t.pr) (by omega);rw[xA hil] at hD;rw[hD,<- List.append_assoc] at hS;have hSl:=congrArg List.length hS;simp only[List.length_append] at hSl;generalize hG:S2++stRd ((r+i:Nat):Int) (scL t (i:Int))=G at hS;have hGl:=congrArg List.length hG;rw[List.length_append] at hGl;rw[show scL t (i:Int) = [smM t (i:Int) ((i:Int)+1) 1] from rfl] at hG;rw[yl] at hG;have hGl2:=congrArg List.length hG;simp only[List.length_append,qN] at hGl2
  try dsimp only[smM] at hGl2
  repeat' first|refine zLw ?_|intro _ _ hs|intro K0 hK0|intro hc|refine dI ?_ ?_
  refine c140 (wV hs) (by omega) (by omega) (hs.get 0 rfl) ⟨neH hs 0 1,neH hs 0 2⟩ (fun H4 k4 hn=>?_);have hs:=wW hs hn;clear hn;subst hG
  repeat' first|refine zLw ?_|intro _ _ hs|intro K0 hK0|intro hc|refine dI ?_ ?_
  exact⟨⟨_,k4,_,i+1⟩,⟨hs,hS,by dsimp only;omega⟩,by dsimp only;omega,Or.inl ⟨⟨rfl,rfl,rfl,rfl,trivial⟩,rfl⟩⟩
 ·skip
  have hie:i=(t.pr-1).toNat:=by omega
  repeat' first|refine zLw ?_|intro _ _ hs|intro K0 hK0|intro hc|refine dI ?_ ?_
  rw[List.drop_of_length_le (by omega),hie] at hS;refine h _ k2 ?_;rw[<- hS,stsF,List.append_nil,<- hie];exact hs
theorem Ve0 {t:Tk} {a:Int} (kt:TkOk t) (ha:a≠1):AddV 65 [.int .i64 a] t (lgF t.pr) (fun r=>stsF r (powF (scD t) t.pr)):=by
 have hpl:(powF (scD t) t.pr).length=lgF t.pr:=by simp[powF]
 intro H mb k b c r S R hm hr hl h;dsimp only at hl h;have hpr:=kt.pr;have hro:=kt.ro;have hpa:=kt.pa;have hlg:=wL t.pr;have hsp:=qX hpa;refine avN call65 func65 ntmps65 ?_;have hs:=hm
 repeat' first|refine zQw ?_|intro _ _ hs|intro K0 hK0|intro hc|refine dI ?_ ?_
 refine qf (α := MdS) tok (fun z=>MkH H (fun x=>x=mb\/x=k) mb z.k t b c (r+z.i) z.S [] z.H/\z.S++stsF (r+z.i) ((powF (scD t) t.pr).drop z.i)=S++stsF (r) (powF (scD t) t.pr)/\z.i<=lgF t.pr)
  (fun z=>[(0,pM mb),(4, .int .i64 t.pr),(6, .int .i64 (z.i:Int))]) (fun z=>z.H) (fun z=>lgF t.pr-z.i)
  ⟨_,_,_,0⟩ ⟨hs,rfl,Nat.zero_le _⟩ (Or.inl ⟨⟨rfl,rfl,rfl,trivial⟩,rfl⟩) ?_
 clear hs;rintro ⟨H2,k2,S2,i⟩ ⟨hs,hS,hi⟩;dsimp only at hs hS hi ⊢
 repeat' first|refine zPw ?_|intro _ _ hs|intro K0 hK0
 refine c150 hpr ?_;by_cases hil:i<lgF t.pr
 ·skip
  repeat' first|refine zQw ?_|intro _ _ hs|intro K0 hK0|intro hc|refine dI ?_ ?_
  have hp2:=zL (i:=i) (by omega);have hlt:=(Wp (p:=t.pr) (i:=i) hpr.2 (by omega)).2 hil
  have hbc:scD t ((2:Int) ^ i)=(lpW 0 1 (t.pr-(2:Int) ^ i)).map (scM t ((2:Int) ^ i)):=by
   unfold scD;rw[uD (by omega) (by omega)]
  have hD:=qY (r:=r) (i:=i) (L:=powF (scD t) t.pr) (by omega);rw[VT hil] at hD;rw[hD,<- List.append_assoc] at hS;have hSl:=congrArg List.length hS;simp only[List.length_append] at hSl;generalize hG:S2++stRd ((r+i:Nat):Int) (scD t ((2:Int) ^ i))=G at hS;have hGl:=congrArg List.length hG;rw[List.length_append] at hGl;rw[hbc] at hG
  refine qf (α := MvS) tok (fun z=>MkH H (fun x=>x=mb\/x=k) mb z.k t b c (r+i) z.S [] z.H/\z.S++stRd ((r+i:Nat):Int) ((lpW z.v (1) (t.pr-(2:Int) ^ i)).map (scM t ((2:Int) ^ i)))=G/\0<=z.v/\z.v<=1000)
   (fun z=>[(0,pM mb),(4, .int .i64 t.pr),(6, .int .i64 (i:Int)),(7, .int .i64 z.v)]) (fun z=>z.H) (fun z=>((t.pr-(2:Int) ^ i)-z.v).toNat)
   ⟨_,_,_,0⟩ ⟨hs,hG,by dsimp only;omega,by dsimp only;omega⟩ (Or.inl ⟨⟨rfl,rfl,rfl,rfl,trivial⟩,rfl⟩) ?_
  clear hs hG;rintro ⟨H3,k3,S3,v⟩ ⟨hs,hG,hv0,hv⟩;dsimp only at hs hG hv0 hv ⊢;by_cases hvl:v<t.pr-(2:Int) ^ i
  ·skip
   rw[qQ (by omega) hvl,List.map_cons,qR,<- List.append_assoc] at hG;have hGl2:=congrArg List.length hG;simp only[List.length_append,qN] at hGl2
   try dsimp only[scM,smM] at hGl2
   repeat' first|refine zLw ?_|intro _ _ hs|intro K0 hK0|intro hc|refine dI ?_ ?_
   refine wo tok mx [0,0,0,0,8,28,0,64,255] [false,false,false,false,false,false,false,false,false] [0,1,2,3,4,5,6,7,8] (by kernel_rfl) ?_;refine vT (fun K0 hK0=>?_)
   repeat' first|refine zLw ?_|intro _ _ hs|intro K0 hK0|intro hc|refine dI ?_ ?_|(refine c140 (wV hs) (by omega) (by omega) (hs.get 0 rfl) ⟨neH hs 0 1,neH hs 0 2⟩ (fun H4 k4 hn=>?_);have hs:=wW hs hn;clear hn)
   exact⟨⟨_,k4,_,v+1⟩,⟨hs,hG,by dsimp only;omega,by dsimp only;omega⟩,by dsimp only;omega,Or.inl ⟨⟨rfl,rfl,rfl,rfl,trivial⟩,rfl⟩⟩
  ·skip
   rw[vw (by omega),List.map_nil,show stRd ((r+i:Nat):Int) [] = [] from rfl,List.append_nil] at hG;subst hG
   repeat' first|refine zLw ?_|intro _ _ hs|intro K0 hK0|intro hc|refine dI ?_ ?_
   all_goals exact⟨⟨_,k3,_,i+1⟩,⟨hs,hS,hil⟩,by dsimp only;omega,Or.inl ⟨⟨rfl,rfl,rfl,trivial⟩,rfl⟩⟩
 ·skip
  have hie:i=lgF t.pr:=by omega
  repeat' first|refine zLw ?_|intro _ _ hs|intro K0 hK0|intro hc|refine dI ?_ ?_
  rw[List.drop_of_length_le (by omega),hie] at hS;refine h _ k2 ?_;rw[<- hS,stsF,List.append_nil,<- hie];exact hs
end Go.Af.Tryz
