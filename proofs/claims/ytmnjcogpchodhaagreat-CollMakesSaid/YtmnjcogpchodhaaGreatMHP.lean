/- A part of the proof. -/
import Derived.Test.YtmnjcogpchodhaaGreatMHO
import Derived.Test.YtmnjcogpchodhaaGreatMCA
import Derived.Test.YtmnjcogpchodhaaGreatMHK
set_option linter.all false
set_option maxHeartbeats 4000000
set_option maxRecDepth 100000
namespace Go.Af.Tryz
open Go Go.Proofs
open Go.Af.Coll (St befF)
attribute [local irreducible] awp qj qI qK qE qm isCells ql qi qB qx qh roundEnd zG wZ keyK wE

theorem Qx0 : ∀ k,k<6->∀ n,n<64->((n &&& 2 ^ k=0)↔n / 2 ^ k % 2≠1):=by decide
theorem Qy0 {v:Int} {k:Nat} (hv:0<=v/\v<64) (hk:k<6):andF v ((2:Int) ^ k)=0↔(v.tdiv ((2:Int) ^ k)).tmod 2≠1:=by
 obtain ⟨n,rfl⟩ : ∃ n:Nat,v=n:=⟨v.toNat,by omega⟩
 have e:andF (n:Int) ((2:Int) ^ k)=((n &&& 2 ^ k:Nat):Int):=by
  have hp:(2:Int) ^ k=((2 ^ k:Nat):Int):=by simp
  have hk2:2 ^ k<64:=Nat.lt_of_lt_of_le (Nat.pow_lt_pow_right (by decide) hk) (by decide);have hx:n &&& 2 ^ k<64:=Nat.lt_of_le_of_lt Nat.and_le_left (by omega);rw[hp];unfold andF;show IntKind.i64.wrap ((BitVec.ofInt 64 (n:Int) &&& BitVec.ofInt 64 ((2 ^ k:Nat):Int)).toNat:Int)=_;rw[BitVec.toNat_and,BitVec.ofInt_natCast,BitVec.ofInt_natCast,BitVec.toNat_ofNat,BitVec.toNat_ofNat,Nat.mod_eq_of_lt (by omega),Nat.mod_eq_of_lt (by omega),wrap_i64 (by unfold I64;omega)]
 have hp:(2:Int) ^ k=((2 ^ k:Nat):Int):=by simp
 have hd:(n:Int).tdiv ((2:Int) ^ k)=((n / 2 ^ k:Nat):Int):=by rw[hp];rfl
 have hd2:((n / 2 ^ k:Nat):Int).tmod 2=((n / 2 ^ k % 2:Nat):Int):=rfl;rw[e,hd,hd2];have:=Qx0 k hk n (by omega);omega
theorem uk0 (ρ f to j:Int):stM ρ ⟨f,to,[],[],j⟩ = []:=rfl
theorem QU0 {t:Tk} (kt:TkOk t):AddV 69 [.int .i64 8] t (1+(lgF t.pr+1)) (fun r=>stsF r ([buT t (b1F t)]++(powF (evF t (xn t)) t.pr ++ [buT t (b2F t)]))):=by
 have hpl:(powF (evF t (xn t)) t.pr).length=lgF t.pr:=by simp[powF]
 have hall : ∀ r:Nat,stsF r ([buT t (b1F t)]++(powF (evF t (xn t)) t.pr ++ [buT t (b2F t)]))=stRd (r:Int) (buT t (b1F t))++(stsF (r+1) (powF (evF t (xn t)) t.pr)++stRd ((r+1+lgF t.pr:Nat):Int) (buT t (b2F t))):=fun r=>by
  rw[List.singleton_append,stsF,xg,hpl,stsF,stsF,List.append_nil]
 have hbu : ∀ pf,buT t pf=(lpW 0 1 t.pr).flatMap (buG t pf):=fun pf=>by
  have:=kt.pr;unfold buT;rw[uD (by omega) (by omega)]
 have hbg : ∀ pf v,buG t pf v=(lpW 0 1 t.pr).map (buM t pf v):=fun pf v=>by
  have:=kt.pr;unfold buG;rw[uD (by omega) (by omega)]
 intro H mb k b c r S R hm hr hl h;dsimp only at hl h;have hpr:=kt.pr;have hro:=kt.ro;have hpa:=kt.pa;have hlg:=wL t.pr;have hsp:=qX hpa;refine avN Tryz.call69 Tryz.func69 Tryz.ntmps69 ?_;have hs:=hm;rw[hall] at hl h;simp only[List.length_append] at hl
 repeat' first|refine zQw ?_|intro _ _ hs|intro K0 hK0|intro hc|refine dI ?_ ?_
 generalize hG:S++stRd ((r:Nat):Int) (buT t (b1F t))=G;have hGl:=congrArg List.length hG;rw[List.length_append] at hGl;rw[<- List.append_assoc,hG] at h;rw[hbu] at hG
 refine qf (α := MvS) tok (fun z=>MkH H (fun x=>x=mb\/x=k) mb z.k t b c (r) z.S [] z.H/\z.S++stRd ((r:Nat):Int) ((lpW z.v (1) (t.pr)).flatMap (buG t (b1F t)))=G/\0<=z.v/\z.v<=1000)
  (fun z=>[(0,pM mb),(4, .int .i64 t.pr),(8, .int .i64 z.v)]) (fun z=>z.H) (fun z=>(1000-z.v).toNat)
  ⟨_,_,_,0⟩ ⟨hs,hG,by dsimp only;omega,by dsimp only;omega⟩ (Or.inl ⟨⟨rfl,rfl,rfl,trivial⟩,rfl⟩) ?_
 clear hs hG;rintro ⟨H3,k3,S3,v⟩ ⟨hs,hG,hv0,hv⟩;dsimp only at hs hG hv0 hv ⊢;by_cases hvl:v<t.pr
 ·skip
  rw[qQ (by omega) hvl,List.flatMap_cons,Qc,<- List.append_assoc] at hG;have hGl2:=congrArg List.length hG;simp only[List.length_append] at hGl2;generalize hG2:S3++stRd ((r:Nat):Int) (buG t (b1F t) v)=G2 at hG;have hGl3:=congrArg List.length hG2;rw[List.length_append] at hGl3;rw[hbg (b1F t) v] at hG2
  repeat' first|refine zLw ?_|intro _ _ hs|intro K0 hK0|intro hc|refine dI ?_ ?_
  refine qf (α := MvS) tok (fun z=>MkH H (fun x=>x=mb\/x=k) mb z.k t b c (r) z.S [] z.H/\z.S++stRd ((r:Nat):Int) ((lpW z.v (1) (t.pr)).map (buM t (b1F t) v))=G2/\0<=z.v/\z.v<=1000)
   (fun z=>[(0,pM mb),(4, .int .i64 t.pr),(8, .int .i64 v),(9, .int .i64 z.v)]) (fun z=>z.H) (fun z=>(1000-z.v).toNat)
   ⟨_,_,_,0⟩ ⟨hs,hG2,by dsimp only;omega,by dsimp only;omega⟩ (Or.inl ⟨⟨rfl,rfl,rfl,rfl,trivial⟩,rfl⟩) ?_
  clear hs hG2;rintro ⟨H5,k5,S5,w⟩ ⟨hs,hG2,hw0,hw⟩;dsimp only at hs hG2 hw0 hw ⊢;by_cases hwl:w<t.pr
  ·skip
   rw[qQ (by omega) hwl,List.map_cons,qR,<- List.append_assoc] at hG2;have hGl4:=congrArg List.length hG2;simp only[List.length_append,qN] at hGl4
   try dsimp only[buM,blM,b1F] at hGl4
   repeat' first|refine zLw ?_|intro _ _ hs|intro K0 hK0|intro hc|refine dI ?_ ?_
   refine (c151 hpa (sr:=(v+w) % t.pr) (ds:=t.pr+w) (wU kt _) (by omega)) (qZ hs) (by omega) (by simp only[qN];(try dsimp only[blM]);omega) (fun H6 k6 hn=>?_);have hs:=qW hs hn;clear hn
   repeat' first|refine zLw ?_|intro _ _ hs|intro K0 hK0|intro hc|refine dI ?_ ?_
   exact⟨⟨_,k6,_,w+1⟩,⟨hs,hG2,by dsimp only;omega,by dsimp only;omega⟩,by dsimp only;omega,Or.inl ⟨⟨rfl,rfl,rfl,rfl,trivial⟩,rfl⟩⟩
  ·skip
   rw[vw (by omega),List.map_nil,show stRd ((r:Nat):Int) [] = [] from rfl,List.append_nil] at hG2;subst hG2
   repeat' first|refine zLw ?_|intro _ _ hs|intro K0 hK0|intro hc|refine dI ?_ ?_
   all_goals exact⟨⟨_,k5,_,v+1⟩,⟨hs,hG,by dsimp only;omega,by dsimp only;omega⟩,by dsimp only;omega,Or.inl ⟨⟨rfl,rfl,rfl,trivial⟩,rfl⟩⟩
 ·skip
  rw[vw (by omega),List.flatMap_nil,show stRd ((r:Nat):Int) [] = [] from rfl,List.append_nil] at hG;subst hG
  repeat' first|refine zLw ?_|intro _ _ hs|intro K0 hK0|intro hc|refine dI ?_ ?_
  clear hvl hv0 hv
  refine qf (α := MdS) tok (fun z=>MkH H (fun x=>x=mb\/x=k) mb z.k t b c (r+1+z.i) z.S [] z.H/\z.S++stsF (r+1+z.i) ((powF (evF t (xn t)) t.pr).drop z.i)=S3++stsF (r+1) (powF (evF t (xn t)) t.pr)/\z.i<=lgF t.pr)
   (fun z=>[(0,pM mb),(4, .int .i64 t.pr),(10, .int .i64 ((2:Int) ^ z.i))]) (fun z=>z.H) (fun z=>lgF t.pr-z.i)
   ⟨_,_,_,0⟩ ⟨hs,rfl,Nat.zero_le _⟩ (Or.inl ⟨⟨rfl,rfl,rfl,trivial⟩,rfl⟩) ?_
  clear hs;rintro ⟨H2,k2,S2,i⟩ ⟨hs,hS,hi⟩;dsimp only at hs hS hi ⊢;have hp2:=zL (i:=i) (by omega);have hlt:=Wp (p:=t.pr) (i:=i) hpr.2 (by omega);by_cases hil:i<lgF t.pr
  ·have hlt:=hlt.2 hil
   have hD:=qY (r:=r+1) (i:=i) (L:=powF (evF t (xn t)) t.pr) (by omega);rw[VT hil] at hD;rw[hD,<- List.append_assoc] at hS;have hSl:=congrArg List.length hS;simp only[List.length_append] at hSl;generalize hG:S2++stRd ((r+1+i:Nat):Int) (evF t (xn t) ((2:Int) ^ i))=G at hS;have hGl:=congrArg List.length hG;rw[List.length_append] at hGl;rw[ev_W t (xn t) ((2:Int) ^ i) (by omega)] at hG
   repeat' first|refine zLw ?_|intro _ _ hs|intro K0 hK0|intro hc|refine dI ?_ ?_
   refine qf (α := MvS) tok (fun z=>MkH H (fun x=>x=mb\/x=k) mb z.k t b c (r+1+i) z.S [] z.H/\z.S++stRd ((r+1+i:Nat):Int) ((lpW z.v (1) (t.pr)).map (xn t ((2:Int) ^ i)))=G/\0<=z.v/\z.v<=1000)
    (fun z=>[(0,pM mb),(4, .int .i64 t.pr),(10, .int .i64 ((2:Int) ^ i)),(11, .int .i64 z.v)]) (fun z=>z.H) (fun z=>((t.pr)-z.v).toNat)
    ⟨_,_,_,0⟩ ⟨hs,hG,by dsimp only;omega,by dsimp only;omega⟩ (Or.inl ⟨⟨rfl,rfl,rfl,rfl,trivial⟩,rfl⟩) ?_
   clear hs hG;rintro ⟨H3,k3,S3,v⟩ ⟨hs,hG,hv0,hv⟩;dsimp only at hs hG hv0 hv ⊢;by_cases hvl:v<t.pr
   ·have hmm:stM ((r+1+i:Nat):Int) (xn t ((2:Int) ^ i) v)=stRd ((r+1+i:Nat):Int) ((lpW 0 1 t.pr).map (fun y=>(⟨v,(v+(2:Int) ^ i) % t.pr,brG t ((2:Int) ^ i) y,brG t ((2:Int) ^ i) y,0⟩:Msg))):=by
     unfold xn brL;rw[uD (by omega) (by omega),Wx]
    rw[qQ (by omega) hvl,List.map_cons,qR,<- List.append_assoc] at hG;have hGl2:=congrArg List.length hG;simp only[List.length_append] at hGl2;generalize hG2:S3++stM ((r+1+i:Nat):Int) (xn t ((2:Int) ^ i) v)=G2 at hG;have hGl3:=congrArg List.length hG2;rw[List.length_append] at hGl3;rw[hmm] at hG2
    repeat' first|refine zLw ?_|intro _ _ hs|intro K0 hK0|intro hc|refine dI ?_ ?_
    refine qf (α := MvS) tok (fun z=>MkH H (fun x=>x=mb\/x=k) mb z.k t b c (r+1+i) z.S [] z.H/\z.S++stRd ((r+1+i:Nat):Int) ((lpW z.v (1) (t.pr)).map (fun y=>(⟨v,(v+(2:Int) ^ i) % t.pr,brG t ((2:Int) ^ i) y,brG t ((2:Int) ^ i) y,0⟩:Msg)))=G2/\0<=z.v/\z.v<=1000)
     (fun z=>[(0,pM mb),(4, .int .i64 t.pr),(10, .int .i64 ((2:Int) ^ i)),(11, .int .i64 v),(12, .int .i64 z.v)]) (fun z=>z.H) (fun z=>(1000-z.v).toNat)
     ⟨_,_,_,0⟩ ⟨hs,hG2,by dsimp only;omega,by dsimp only;omega⟩ (Or.inl ⟨⟨rfl,rfl,rfl,rfl,rfl,trivial⟩,rfl⟩) ?_
    clear hs hG2;rintro ⟨H5,k5,S5,w⟩ ⟨hs,hG2,hw0,hw⟩;dsimp only at hs hG2 hw0 hw ⊢;by_cases hwl:w<t.pr
    ·have hq:=yO (r:=w) (i:=(2:Int) ^ i) hw0 hp2.1
     have hq2:=QQ (x:=w.tdiv ((2:Int) ^ i)) (show (1:Int)<=2 by decide);have hbit:=Qy0 (v:=w) (k:=i) (by omega) (by omega);rw[qQ (by omega) hwl,List.map_cons,qR,<- List.append_assoc] at hG2;by_cases hand:(w.tdiv ((2:Int) ^ i)).tmod 2=1
     ·have hbr:brG t ((2:Int) ^ i) w=spnF t (t.pr+w) (t.pr+w+1):=by
       unfold brG;rw[if_neg (fun e=>hbit.1 e hand)]
      rw[hbr] at hG2;have hGl4:=congrArg List.length hG2;simp only[List.length_append,qN] at hGl4
      repeat' first|refine zLw ?_|intro _ _ hs|intro K0 hK0|intro hc|refine dI ?_ ?_
      refine (c151 hpa (by first | omega | exact wX kt _ | exact wU kt _) (by first | omega | exact wX kt _ | exact wU kt _)) (qZ hs) (by omega) (by simp only[qN];(try dsimp only[blM]);omega) (fun H6 k6 hn=>?_);have hs:=qW hs hn;clear hn
      repeat' first|refine zLw ?_|intro _ _ hs|intro K0 hK0|intro hc|refine dI ?_ ?_
      exact⟨⟨_,k6,_,w+1⟩,⟨hs,hG2,by dsimp only;omega,by dsimp only;omega⟩,by dsimp only;omega,Or.inl ⟨⟨rfl,rfl,rfl,rfl,rfl,trivial⟩,rfl⟩⟩
     ·have hbr:brG t ((2:Int) ^ i) w = []:=by
       unfold brG;rw[if_pos (hbit.2 hand)]
      rw[hbr,uk0,List.append_nil] at hG2
      repeat' first|refine zLw ?_|intro _ _ hs|intro K0 hK0|intro hc|refine dI ?_ ?_
      exact⟨⟨_,k5,_,w+1⟩,⟨hs,hG2,by dsimp only;omega,by dsimp only;omega⟩,by dsimp only;omega,Or.inl ⟨⟨rfl,rfl,rfl,rfl,rfl,trivial⟩,rfl⟩⟩
    ·skip
     rw[vw (by omega),List.map_nil,show stRd ((r+1+i:Nat):Int) [] = [] from rfl,List.append_nil] at hG2;subst hG2
     repeat' first|refine zLw ?_|intro _ _ hs|intro K0 hK0|intro hc|refine dI ?_ ?_
     all_goals exact⟨⟨_,k5,_,v+1⟩,⟨hs,hG,by dsimp only;omega,by dsimp only;omega⟩,by dsimp only;omega,Or.inl ⟨⟨rfl,rfl,rfl,rfl,trivial⟩,rfl⟩⟩
   ·skip
    rw[vw (by omega),List.map_nil,show stRd ((r+1+i:Nat):Int) [] = [] from rfl,List.append_nil] at hG;subst hG
    repeat' first|refine zLw ?_|intro _ _ hs|intro K0 hK0|intro hc|refine dI ?_ ?_
    rw[WY] at *
    all_goals exact⟨⟨_,k3,_,i+1⟩,⟨hs,hS,hil⟩,by dsimp only;omega,Or.inl ⟨⟨rfl,rfl,rfl,trivial⟩,rfl⟩⟩
  ·have hlt : ¬ (2:Int) ^ i<t.pr:=fun e=>hil (hlt.1 e)
   have hie:i=lgF t.pr:=by omega
   rw[List.drop_of_length_le (by omega),stsF,List.append_nil] at hS
   repeat' first|refine zLw ?_|intro _ _ hs|intro K0 hK0|intro hc|refine dI ?_ ?_
   rw[<- List.append_assoc,<- hS,<- hie] at h;rw[<- hie] at hl;have hSl:=congrArg List.length hS;simp only[List.length_append] at hSl;generalize hG:S2++stRd ((r+1+i:Nat):Int) (buT t (b2F t))=G at h;have hGl:=congrArg List.length hG;rw[List.length_append] at hGl;rw[hbu] at hG
   refine qf (α := MvS) tok (fun z=>MkH H (fun x=>x=mb\/x=k) mb z.k t b c (r+1+i) z.S [] z.H/\z.S++stRd ((r+1+i:Nat):Int) ((lpW z.v (1) (t.pr)).flatMap (buG t (b2F t)))=G/\0<=z.v/\z.v<=1000)
    (fun z=>[(0,pM mb),(4, .int .i64 t.pr),(13, .int .i64 z.v)]) (fun z=>z.H) (fun z=>(1000-z.v).toNat)
    ⟨_,_,_,0⟩ ⟨hs,hG,by dsimp only;omega,by dsimp only;omega⟩ (Or.inl ⟨⟨rfl,rfl,rfl,trivial⟩,rfl⟩) ?_
   clear hs hG;rintro ⟨H3,k3,S3,v⟩ ⟨hs,hG,hv0,hv⟩;dsimp only at hs hG hv0 hv ⊢;by_cases hvl:v<t.pr
   ·skip
    rw[qQ (by omega) hvl,List.flatMap_cons,Qc,<- List.append_assoc] at hG;have hGl2:=congrArg List.length hG;simp only[List.length_append] at hGl2;generalize hG2:S3++stRd ((r+1+i:Nat):Int) (buG t (b2F t) v)=G2 at hG;have hGl3:=congrArg List.length hG2;rw[List.length_append] at hGl3;rw[hbg (b2F t) v] at hG2
    repeat' first|refine zLw ?_|intro _ _ hs|intro K0 hK0|intro hc|refine dI ?_ ?_
    refine qf (α := MvS) tok (fun z=>MkH H (fun x=>x=mb\/x=k) mb z.k t b c (r+1+i) z.S [] z.H/\z.S++stRd ((r+1+i:Nat):Int) ((lpW z.v (1) (t.pr)).map (buM t (b2F t) v))=G2/\0<=z.v/\z.v<=1000)
     (fun z=>[(0,pM mb),(4, .int .i64 t.pr),(13, .int .i64 v),(14, .int .i64 z.v)]) (fun z=>z.H) (fun z=>(1000-z.v).toNat)
     ⟨_,_,_,0⟩ ⟨hs,hG2,by dsimp only;omega,by dsimp only;omega⟩ (Or.inl ⟨⟨rfl,rfl,rfl,rfl,trivial⟩,rfl⟩) ?_
    clear hs hG2;rintro ⟨H5,k5,S5,w⟩ ⟨hs,hG2,hw0,hw⟩;dsimp only at hs hG2 hw0 hw ⊢;by_cases hwl:w<t.pr
    ·have hmw:=wO kt (v-w)
     rw[qQ (by omega) hwl,List.map_cons,qR,<- List.append_assoc] at hG2;have hGl4:=congrArg List.length hG2;simp only[List.length_append,qN] at hGl4
     try dsimp only[buM,blM,b2F] at hGl4
     repeat' first|refine zLw ?_|intro _ _ hs|intro K0 hK0|intro hc|refine dI ?_ ?_|(refine (c151 hpa (sr:=t.pr+(v-w) % t.pr) (ds:=t.pr+w) (by omega) (by omega)) (qZ hs) (by omega) (by simp only[qN];(try dsimp only[blM]);omega) (fun H6 k6 hn=>?_);have hs:=qW hs hn;clear hn)
     exact⟨⟨_,k6,_,w+1⟩,⟨hs,hG2,by dsimp only;omega,by dsimp only;omega⟩,by dsimp only;omega,Or.inl ⟨⟨rfl,rfl,rfl,rfl,trivial⟩,rfl⟩⟩
    ·skip
     rw[vw (by omega),List.map_nil,show stRd ((r+1+i:Nat):Int) [] = [] from rfl,List.append_nil] at hG2;subst hG2
     repeat' first|refine zLw ?_|intro _ _ hs|intro K0 hK0|intro hc|refine dI ?_ ?_
     all_goals exact⟨⟨_,k5,_,v+1⟩,⟨hs,hG,by dsimp only;omega,by dsimp only;omega⟩,by dsimp only;omega,Or.inl ⟨⟨rfl,rfl,rfl,trivial⟩,rfl⟩⟩
   ·skip
    rw[vw (by omega),List.flatMap_nil,show stRd ((r+1+i:Nat):Int) [] = [] from rfl,List.append_nil] at hG;subst hG
    repeat' first|refine zLw ?_|intro _ _ hs|intro K0 hK0|intro hc|refine dI ?_ ?_
    refine h _ k3 ?_;rw[show r+(1+(i+1))=r+1+i+1 by omega];exact pkH hs [0,1]
end Go.Af.Tryz
namespace Go.Af.Tryz
open Go Go.Proofs
open Go.Af.Coll (St befF)
attribute [local irreducible] awp qj qI qK qE qm isCells ql qi qB qx qh roundEnd zG wZ keyK wE

theorem fl_lg {p:Int} (hp:1<=p/\p<=64):(if p<(2:Int) ^ lgF p then ((2:Int) ^ lgF p).tdiv 2 else (2:Int) ^ lgF p)=(2:Int) ^ flF p:=by
 obtain ⟨n,rfl⟩ : ∃ n:Nat,p=n:=⟨p.toNat,by omega⟩;have : ∀ n:Nat,n<65->1<=n->(if (n:Int)<(2:Int) ^ lgF n then ((2:Int) ^ lgF n).tdiv 2 else (2:Int) ^ lgF n)=(2:Int) ^ flF n:=by decide
 exact this n (by omega) (by omega)
def dbP (t:Tk):List (List Msg):=(List.range (flF t.pr)).map (fun j:Nat=>dbR t ((2:Int) ^ j))
abbrev dbE (t:Tk):Nat:=if 0<exF t then 1 else 0
theorem yL0 (t:Tk):dblF t=(if 0<exF t then [dbI t] else [])++(dbP t++(if 0<exF t then [dbO t] else [])):=by
 unfold dblF dbQ dbX
 have : ∀ n,((List.range n).map (fun j:Nat=>[dbR t ((2:Int) ^ j)])).flatten=(List.range n).map (fun j:Nat=>dbR t ((2:Int) ^ j)):=fun n=>by
  induction n with
  | zero=>rfl
  | succ n ih=>rw[List.range_succ,List.map_append,List.flatten_append,ih];simp
 rw[List.flatten_append,List.flatten_append,this,<- List.append_assoc];unfold dbP;split <;> simp
theorem dbI_W (t:Tk) (he:exF t<=64):dbI t=(lpW 0 1 (exF t)).map (diM t):=by unfold dbI;rw[uD (by decide) (by omega)]
theorem dbO_W (t:Tk) (he:exF t<=64):dbO t=(lpW 0 1 (exF t)).map (doM t):=by unfold dbO;rw[uD (by decide) (by omega)]
theorem Qp0 (t:Tk):(dblF t).length=dbE t+(flF t.pr+dbE t):=by
 rw[yL0];unfold dbP dbE;split <;> simp;omega
theorem Qo0 (t:Tk) (he:exF t<=64) (r:Nat):stsF r (dblF t)=stRd (r:Int) (dbI t)++(stsF (r+dbE t) (dbP t)++stRd ((r+dbE t+flF t.pr:Nat):Int) (dbO t)):=by
 have hl:(dbP t).length=flF t.pr:=by simp[dbP]
 rw[yL0];unfold dbE;split
 ·rw[List.singleton_append,stsF,xg,hl,stsF,stsF,List.append_nil]
 ·rename_i h
  rw[dbI_W t he,dbO_W t he,vw (by omega),List.nil_append,List.append_nil];show _ = []++(_ ++ []);rw[List.nil_append,List.append_nil];rfl
theorem UR (e:List Int) (i:Nat) (a:Int):setSeg (ints e) (0+i*1) (qG (.int .i64 a))=ints (e.set i a):=by
 rw[show 0+i*1=i by omega,<- ints_set];rfl
theorem vC0 (ys:List Int) {j:Nat} (v:Int) (q:Nat) (h:j<ys.length):(ys.set j v)[q]! = if j=q then v else ys[q]! := by
 by_cases e:j=q
 ·subst e
  rw[if_pos rfl,getElem!_pos _ j (by rw[List.length_set];exact h),List.getElem_set_self]
 ·rw[if_neg e,getElem!_def,getElem!_def,List.getElem?_set_ne e]
theorem dbP_at {t:Tk} {i:Nat} (h:i<flF t.pr):(dbP t)[i]! = dbR t ((2:Int) ^ i):=by
 unfold dbP;rw[getElem!_pos _ i (by simpa using h)];simp
structure MyS where
 H:List Blk
 ys:List Int
 i:Nat
theorem Vq0 {t:Tk} (kt:TkOk t):AddV 149 [] t (dblF t).length (fun r=>stsF r (dblF t)):=by
 have hcp:=qp0 kt.pr;have hfl6:=xx0 t.pr;have hce:cpF t=(2:Int) ^ flF t.pr:=rfl;have hex:exF t=t.pr-cpF t:=rfl;have hpr0:=kt.pr;rw[<- hce] at hcp;have hPl:(dbP t).length=flF t.pr:=by simp[dbP]
 intro H mb k b c r S R hm hr hl h;dsimp only at hl h;have hpr:=kt.pr;have hro:=kt.ro;have hpa:=kt.pa;have hlg:=wL t.pr;have hsp:=qX hpa;refine uZ tok Tryz.call149 Tryz.func149 rfl Tryz.ntmps149 rfl (by simp) ?_;have hs:=hm;rw[Qp0] at hr h;rw[Qo0 t (by omega)] at hl h;simp only[List.length_append] at hl;refine ve tok ?_
 repeat' first|refine zRw ?_|intro _ _ hs|intro K0 hK0|(refine hK0 _ _ ?_;clear hK0)
 refine ve tok ?_
 repeat' first|refine zRw ?_|intro _ _ hs|intro K0 hK0|(refine hK0 _ _ ?_;clear hK0)|refine c150 hpr ?_
 refine vB0 (i:=lgF t.pr) (by omega) ?_;have hfl:=fl_lg hpr;rw[<- hce] at hfl;have hpw:=zL (i:=lgF t.pr) (by omega);have hz:=XF (lgF t.pr) (by omega)
 repeat' first|refine zRw ?_|intro _ _ hs|intro K0 hK0|(refine hK0 _ _ ?_;clear hK0)
 refine QP (α := Unit) (fun _=>True) (fun _=>[(0,pM mb),(2, .int .i64 t.pr),(3, .int .i64 (cpF t))]) (fun _=>H) (vg tok _ ?_) ?_
 ·by_cases hc:t.pr<(2:Int) ^ lgF t.pr
  all_goals (
   first | rw[if_pos hc] at hfl | rw[if_neg hc] at hfl
   repeat' first|refine zTw ?_|intro _ _ hs|intro K0 hK0|intro hc|refine dI ?_ ?_|(refine hK0 _ _ ?_;clear hK0)
   rw[hfl];exact⟨(),trivial,Or.inl ⟨⟨rfl,rfl,rfl,trivial⟩,rfl⟩⟩
   )
 clear hfl hpw hz;rintro ⟨⟩ _;refine ve tok ?_
 repeat' first|refine zRw ?_|intro _ _ hs|intro K0 hK0|(refine hK0 _ _ ?_;clear hK0)
 rw[<- hex];generalize hG:S++stRd ((r:Nat):Int) (dbI t)=G;have hGl:=congrArg List.length hG;rw[List.length_append] at hGl;rw[<- List.append_assoc,hG] at h;rw[dbI_W t (by omega)] at hG;refine ve tok ?_
 repeat' first|refine zRw ?_|intro _ _ hs|intro K0 hK0|(refine hK0 _ _ ?_;clear hK0)
 refine qf (α := MvS) tok (fun z=>MkH H (fun x=>x=mb\/x=k) mb z.k t b c (r) z.S [] z.H/\z.S++stRd ((r:Nat):Int) ((lpW z.v (1) (exF t)).map (diM t))=G/\0<=z.v/\z.v<=1000)
  (fun z=>[(0,pM mb),(2, .int .i64 t.pr),(3, .int .i64 (cpF t)),(4, .int .i64 (exF t)),(5, .int .i64 z.v)]) (fun z=>z.H) (fun z=>((exF t)-z.v).toNat)
  ⟨_,_,_,0⟩ ⟨hs,hG,by dsimp only;omega,by dsimp only;omega⟩ (Or.inl ⟨⟨rfl,rfl,rfl,rfl,rfl,trivial⟩,rfl⟩) ?_
 clear hs hG;rintro ⟨H3,k3,S3,v⟩ ⟨hs,hG,hv0,hv⟩;dsimp only at hs hG hv0 hv ⊢;by_cases hvl:v<exF t
 ·skip
  rw[qQ (by omega) hvl,List.map_cons,qR,<- List.append_assoc] at hG;have hGl2:=congrArg List.length hG;simp only[List.length_append,qN] at hGl2
  try dsimp only[diM,smM] at hGl2
  repeat' first|refine zLw ?_|intro _ _ hs|intro K0 hK0|intro hc|refine dI ?_ ?_
  refine c140 (wV hs) (by omega) (by omega) (hs.get 0 rfl) ⟨neH hs 0 1,neH hs 0 2⟩ (fun H4 k4 hn=>?_);have hs:=wW hs hn;clear hn
  repeat' first|refine zLw ?_|intro _ _ hs|intro K0 hK0|intro hc|refine dI ?_ ?_
  exact⟨⟨_,k4,_,v+1⟩,⟨hs,hG,by dsimp only;omega,by dsimp only;omega⟩,by dsimp only;omega,Or.inl ⟨⟨rfl,rfl,rfl,rfl,rfl,trivial⟩,rfl⟩⟩
 ·skip
  rw[vw (by omega),List.map_nil,show stRd ((r:Nat):Int) [] = [] from rfl,List.append_nil] at hG;subst hG
  repeat' first|refine zLw ?_|intro _ _ hs|intro K0 hK0|intro hc|refine dI ?_ ?_
  clear hvl hv hv0;refine QP (α := List Blk) (fun z=>MkH H (fun x=>x=mb\/x=k) mb k3 t b c (r+dbE t) S3 [] z) (fun _=>[(0,pM mb),(2, .int .i64 t.pr),(3, .int .i64 (cpF t)),(4, .int .i64 (exF t))]) (fun z=>z) (vg tok _ ?_) ?_
  ·unfold dbE
   by_cases he:0<exF t
   ·rw[if_pos he]
    repeat' first|refine zTw ?_|intro _ _ hs|intro K0 hK0|intro hc|refine dI ?_ ?_|(refine hK0 _ _ ?_;clear hK0)
    exact⟨_,hs,Or.inl ⟨⟨rfl,rfl,rfl,rfl,trivial⟩,rfl⟩⟩
   ·rw[if_neg he]
    repeat' first|refine zTw ?_|intro _ _ hs|intro K0 hK0|intro hc|refine dI ?_ ?_|(refine hK0 _ _ ?_;clear hK0)
    exact⟨_,hs,Or.inl ⟨⟨rfl,rfl,rfl,rfl,trivial⟩,rfl⟩⟩
  clear hs;rintro H6 hs;refine ve tok ?_
  repeat' first|refine zRw ?_|intro _ _ hs|intro K0 hK0|(refine hK0 _ _ ?_;clear hK0)
  refine⟨(cpF t).toNat,(cpF t).toNat,⟨by omega,by omega⟩,⟨Nat.le_refl _,by dsimp only;omega⟩,_,rfl, ?_⟩
  repeat' first|refine zRw ?_|intro _ _ hs|intro K0 hK0|(refine hK0 _ _ ?_;clear hK0)
  rename_i m H7
  have hs:MkH H (fun x=>x=mb\/x=k) mb k3 t b c (r+dbE t) S3 [(true,m,rw' (List.replicate (cpF t).toNat 0))] H7:=hs.pick [1,2,0] (by decide) (by
   show _ = [_,_,some (true,m,Blk.cells true 1 (ints (List.replicate (cpF t).toNat 0)))];rw[show ints (List.replicate (cpF t).toNat 0)=List.replicate (cpF t).toNat (.int .i64 0) by simp[ints]]
   rfl)
  refine ve tok ?_
  repeat' first|refine zRw ?_|intro _ _ hs|intro K0 hK0|(refine hK0 _ _ ?_;clear hK0)
  refine qf (α := MyS) tok (fun z=>MkH H (fun x=>x=mb\/x=k) mb k3 t b c (r+dbE t) S3 [(true,m,rw' z.ys)] z.H/\z.ys.length=(cpF t).toNat/\(∀ j:Nat,j<z.i->z.ys[j]! = mbF (exF t) (j:Int))/\z.i<=(cpF t).toNat)
   (fun z=>[(0,pM mb),(2, .int .i64 t.pr),(3, .int .i64 (cpF t)),(4, .int .i64 (exF t)),(6,sv m (cpF t).toNat),(7, .int .i64 (z.i:Int))]) (fun z=>z.H) (fun z=>(cpF t).toNat-z.i)
   ⟨_,_,0⟩ ⟨hs,by simp,fun j hj=>absurd hj (by simp),Nat.zero_le _⟩ (Or.inl ⟨⟨rfl,rfl,rfl,rfl,rfl,rfl,trivial⟩,rfl⟩) ?_
  clear hs;rintro ⟨H8,ys,j⟩ ⟨hs,hyl,hyv,hj⟩;dsimp only at hs hyl hyv hj ⊢;by_cases hjl:(j:Int)<cpF t
  ·skip
   repeat' first|refine zLw ?_|intro _ _ hs|intro K0 hK0|intro hc|refine dI ?_ ?_
   refine vN hs 2 rfl (ints (ys.set j ((j:Int)+exF t))) rfl rfl (by rw[qU];show 0+j*1+1<=_;omega) (UR _ _ _) (fun H9 _ hs=>?_)
   repeat' first|refine zRw ?_|intro _ _ hs|intro K0 hK0|(refine hK0 _ _ ?_;clear hK0)
   by_cases hje:(j:Int)<exF t
   ·skip
    repeat' first|refine zTw ?_|intro _ _ hs|intro K0 hK0|intro hc|refine dI ?_ ?_|(refine hK0 _ _ ?_;clear hK0)
    refine vN hs 2 rfl (ints ((ys.set j ((j:Int)+exF t)).set j (2*(j:Int)))) rfl rfl (by rw[qU,List.length_set];show 0+j*1+1<=_;omega) (UR _ _ _) (fun H9 _ hs=>?_)
    repeat' first|refine zTw ?_|intro _ _ hs|intro K0 hK0|intro hc|refine dI ?_ ?_|(refine hK0 _ _ ?_;clear hK0)
    refine⟨⟨_,_,j+1⟩,⟨hs,by dsimp only;rw[List.length_set,List.length_set];exact hyl,fun q hq=>?_,by dsimp only;omega⟩,by dsimp only;omega,Or.inl ⟨⟨rfl,rfl,rfl,rfl,rfl,rfl,trivial⟩,rfl⟩⟩;dsimp only at hq ⊢;rw[vC0 _ _ _ (by rw[List.length_set];omega),vC0 _ _ _ (by omega)];by_cases e:j=q
    ·subst e;rw[if_pos rfl,mbF,if_pos hje]
    ·rw[if_neg e,if_neg e,hyv q (by omega)]
   ·skip
    repeat' first|refine zTw ?_|intro _ _ hs|intro K0 hK0|intro hc|refine dI ?_ ?_|(refine hK0 _ _ ?_;clear hK0)
    refine⟨⟨_,_,j+1⟩,⟨hs,by dsimp only;rw[List.length_set];exact hyl,fun q hq=>?_,by dsimp only;omega⟩,by dsimp only;omega,Or.inl ⟨⟨rfl,rfl,rfl,rfl,rfl,rfl,trivial⟩,rfl⟩⟩;dsimp only at hq ⊢;rw[vC0 _ _ _ (by omega)];by_cases e:j=q
    ·subst e;rw[if_pos rfl,mbF,if_neg hje]
    ·rw[if_neg e,hyv q (by omega)]
  ·skip
   have hye : ∀ q:Int,0<=q->q<cpF t->ys[q.toNat]! = mbF (exF t) q:=fun q h0 h1=>by
    rw[hyv q.toNat (by omega),Int.toNat_of_nonneg h0]
   clear hyv
   repeat' first|refine zLw ?_|intro _ _ hs|intro K0 hK0|intro hc|refine dI ?_ ?_
   refine ve tok ?_
   repeat' first|refine zRw ?_|intro _ _ hs|intro K0 hK0|(refine hK0 _ _ ?_;clear hK0)
   refine qf (α := MdS) tok (fun z=>MkH H (fun x=>x=mb\/x=k) mb z.k t b c (r+dbE t+z.i) z.S [(true,m,rw' ys)] z.H/\z.S++stsF (r+dbE t+z.i) ((dbP t).drop z.i)=S3++stsF (r+dbE t) (dbP t)/\z.i<=flF t.pr)
    (fun z=>[(0,pM mb),(2, .int .i64 t.pr),(3, .int .i64 (cpF t)),(4, .int .i64 (exF t)),(6,sv m (cpF t).toNat),(8, .int .i64 ((2:Int) ^ z.i))]) (fun z=>z.H) (fun z=>flF t.pr-z.i)
    ⟨_,_,_,0⟩ ⟨hs,rfl,Nat.zero_le _⟩ (Or.inl ⟨⟨rfl,rfl,rfl,rfl,rfl,rfl,trivial⟩,rfl⟩) ?_
   clear hs;rintro ⟨H2,k2,S2,i⟩ ⟨hs,hS,hi⟩;dsimp only at hs hS hi ⊢;have hp2:=zL (i:=i) (by omega);by_cases hil:i<flF t.pr
   ·have hlt:(2:Int) ^ i<cpF t:=by rw[hce];exact xg0 _ (by omega) i hil
    have hbc:dbR t ((2:Int) ^ i)=(lpW 0 1 (cpF t)).map (dbM t ((2:Int) ^ i)):=by
     unfold dbR;rw[uD (by omega) (by omega)]
    have hD:=qY (r:=r+dbE t) (i:=i) (L:=dbP t) (by omega);rw[dbP_at hil] at hD;rw[hD,<- List.append_assoc] at hS;have hSl:=congrArg List.length hS;simp only[List.length_append] at hSl;generalize hG:S2++stRd ((r+dbE t+i:Nat):Int) (dbR t ((2:Int) ^ i))=G at hS;have hGl:=congrArg List.length hG;rw[List.length_append] at hGl;rw[hbc] at hG
    repeat' first|refine zLw ?_|intro _ _ hs|intro K0 hK0|intro hc|refine dI ?_ ?_
    refine qf (α := MvS) tok (fun z=>MkH H (fun x=>x=mb\/x=k) mb z.k t b c (r+dbE t+i) z.S [(true,m,rw' ys)] z.H/\z.S++stRd ((r+dbE t+i:Nat):Int) ((lpW z.v 1 (cpF t)).map (dbM t ((2:Int) ^ i)))=G/\0<=z.v/\z.v<=1000)
     (fun z=>[(0,pM mb),(2, .int .i64 t.pr),(3, .int .i64 (cpF t)),(4, .int .i64 (exF t)),(6,sv m (cpF t).toNat),(8, .int .i64 ((2:Int) ^ i)),(9, .int .i64 z.v)]) (fun z=>z.H) (fun z=>(1000-z.v).toNat)
     ⟨_,_,_,0⟩ ⟨hs,hG,by dsimp only;omega,by dsimp only;omega⟩ (Or.inl ⟨⟨rfl,rfl,rfl,rfl,rfl,rfl,rfl,trivial⟩,rfl⟩) ?_
    clear hs hG;rintro ⟨H3,k3,S3,v⟩ ⟨hs,hG,hv0,hv⟩;dsimp only at hs hG hv0 hv ⊢;by_cases hvl:v<cpF t
    ·have hx:=vi0 (a:=v) (b:=(2:Int) ^ i) hfl6 (by rw[<- hce];exact⟨hv0,hvl⟩) (by rw[<- hce];exact⟨by omega,hlt⟩)
     rw[<- hce] at hx;have hy1:=hye v hv0 hvl;have hy2:=hye _ hx.1 hx.2;rw[qQ (by omega) hvl,List.map_cons,qR,<- List.append_assoc] at hG;have hGl2:=congrArg List.length hG;simp only[List.length_append,qN] at hGl2
     try dsimp only[dbM,smM] at hGl2
     repeat' first|refine zLw ?_|intro _ _ hs|intro K0 hK0|intro hc|refine dI ?_ ?_
     refine qp tok mx [0,0,0,6,14,0,0,0,192,480,992,0,2048,0,0,0,49152,129024,262143] [false,false,false,false,false,false,false,false,false,false,true,false,false,false,false,false,false,false,false] (.first 0 (.first 1 (.first 2 (.first 3 (.first 5 (.first 6 (.first 7 (.first 8 (.first 9 (.first 11 (.first 13 (.first 14 (.first 15 (.first 16 (.alt 4 (.alt 10 (.first 12 (.first 17 (.first 18 .done))) (.alt 12 (.alt 10 (.first 17 (.first 18 .done)) (.alt 17 (.first 10 (.first 18 .done)) .no)) .no)) (.alt 10 (.alt 4 (.first 12 (.first 17 (.first 18 .done))) (.alt 12 (.alt 4 (.first 17 (.first 18 .done)) (.alt 17 (.first 4 (.first 18 .done)) .no)) .no)) (.alt 12 (.alt 4 (.alt 10 (.first 17 (.first 18 .done)) (.alt 17 (.first 10 (.first 18 .done)) .no)) (.alt 10 (.alt 4 (.first 17 (.first 18 .done)) (.alt 17 (.first 4 (.first 18 .done)) .no)) (.alt 17 (.first 4 (.first 10 (.first 18 .done))) .no))) .no))))))))))))))))) (by kernel_rfl) ?_;refine qw (fun K0 hK0=>?_)
     repeat' first|refine zLw ?_|intro _ _ hs|intro K0 hK0|intro hc|refine dI ?_ ?_
     iterate 5 (
      all_goals try (first | refine And.intro ?_ trivial | refine And.intro ?_ (And.intro ?_ trivial) | refine And.intro ?_ (And.intro ?_ (And.intro ?_ trivial)) | refine And.intro ?_ (And.intro ?_ (And.intro ?_ (And.intro ?_ trivial))))
      all_goals try (
       repeat' first|refine zLw ?_|intro _ _ hs|intro K0 hK0|intro hc|refine dI ?_ ?_
       )
      all_goals try (
       first | refine⟨v.toNat,(Int.toNat_of_nonneg hv0).symm,by omega, ?_⟩ | refine⟨(xorF v ((2:Int) ^ i)).toNat,(Int.toNat_of_nonneg hx.1).symm,by omega, ?_⟩
       repeat' first|refine zLw ?_|intro _ _ hs|intro K0 hK0|intro hc|refine dI ?_ ?_
       )
      all_goals try (
       refine vM (by omega) ?_
       first | rw[hy1] | rw[hy2]
       repeat' first|refine zLw ?_|intro _ _ hs|intro K0 hK0|intro hc|refine dI ?_ ?_
       )
      )
     all_goals (
      refine c140 (wV hs) (by omega) (by omega) (hs.get 0 rfl) ⟨neH hs 0 1,neH hs 0 2⟩ (fun H4 k4 hn=>?_);have hs:=wW hs hn;clear hn
      repeat' first|refine zLw ?_|intro _ _ hs|intro K0 hK0|intro hc|refine dI ?_ ?_
      exact⟨⟨_,k4,_,v+1⟩,⟨hs,hG,by dsimp only;omega,by dsimp only;omega⟩,by dsimp only;omega,Or.inl ⟨⟨rfl,rfl,rfl,rfl,rfl,rfl,rfl,trivial⟩,rfl⟩⟩
      )
    ·skip
     rw[vw (by omega),List.map_nil,show stRd ((r+dbE t+i:Nat):Int) [] = [] from rfl,List.append_nil] at hG;subst hG
     repeat' first|refine zLw ?_|intro _ _ hs|intro K0 hK0|intro hc|refine dI ?_ ?_
     rw[WY] at *
     all_goals exact⟨⟨_,k3,_,i+1⟩,⟨hs,hS,hil⟩,by dsimp only;omega,Or.inl ⟨⟨rfl,rfl,rfl,rfl,rfl,rfl,trivial⟩,rfl⟩⟩
   ·have hie:i=flF t.pr:=by omega
    have hlt : ¬ (2:Int) ^ i<cpF t:=by rw[hce,hie];omega
    rw[List.drop_of_length_le (by omega),stsF,List.append_nil] at hS
    repeat' first|refine zLw ?_|intro _ _ hs|intro K0 hK0|intro hc|refine dI ?_ ?_
    rw[<- List.append_assoc,<- hS] at h;have hs:=pkH hs [0,1] (L' := [(true,mb,mkB t b c (r+dbE t+i) k2 S2.length),(true,k2, .cells true 6 (stsC S2))]);generalize hG:S2++stRd ((r+dbE t+flF t.pr:Nat):Int) (dbO t)=G at h;have hGl:=congrArg List.length hG;have hSl:=congrArg List.length hS;simp only[List.length_append] at hGl hSl;rw[dbO_W t (by omega),<- hie] at hG;refine ve tok ?_
    repeat' first|refine zRw ?_|intro _ _ hs|intro K0 hK0|(refine hK0 _ _ ?_;clear hK0)
    refine qf (α := MvS) tok (fun z=>MkH H (fun x=>x=mb\/x=k) mb z.k t b c (r+dbE t+i) z.S [] z.H/\z.S++stRd ((r+dbE t+i:Nat):Int) ((lpW z.v (1) (exF t)).map (doM t))=G/\0<=z.v/\z.v<=1000)
     (fun z=>[(0,pM mb),(4, .int .i64 (exF t)),(10, .int .i64 z.v)]) (fun z=>z.H) (fun z=>((exF t)-z.v).toNat)
     ⟨_,_,_,0⟩ ⟨hs,hG,by dsimp only;omega,by dsimp only;omega⟩ (Or.inl ⟨⟨rfl,rfl,rfl,trivial⟩,rfl⟩) ?_
    clear hs hG;rintro ⟨H3,k3,S3,v⟩ ⟨hs,hG,hv0,hv⟩;dsimp only at hs hG hv0 hv ⊢;by_cases hvl:v<exF t
    ·skip
     rw[qQ (by omega) hvl,List.map_cons,qR,<- List.append_assoc] at hG;have hGl2:=congrArg List.length hG;simp only[List.length_append,qN] at hGl2
     try dsimp only[doM,smM] at hGl2
     repeat' first|refine zLw ?_|intro _ _ hs|intro K0 hK0|intro hc|refine dI ?_ ?_|(refine c140 (wV hs) (by omega) (by omega) (hs.get 0 rfl) ⟨neH hs 0 1,neH hs 0 2⟩ (fun H4 k4 hn=>?_);have hs:=wW hs hn;clear hn)
     exact⟨⟨_,k4,_,v+1⟩,⟨hs,hG,by dsimp only;omega,by dsimp only;omega⟩,by dsimp only;omega,Or.inl ⟨⟨rfl,rfl,rfl,trivial⟩,rfl⟩⟩
    ·skip
     rw[vw (by omega),List.map_nil,show stRd ((r+dbE t+i:Nat):Int) [] = [] from rfl,List.append_nil] at hG;subst hG
     repeat' first|refine zLw ?_|intro _ _ hs|intro K0 hK0|intro hc|refine dI ?_ ?_
     clear hvl hv hv0;rw[hie] at hs;refine vg tok _ ?_;unfold dbE at h hs;by_cases he:0<exF t
     ·rw[if_pos he] at h hs
      repeat' first|refine zTw ?_|intro _ _ hs|intro K0 hK0|intro hc|refine dI ?_ ?_|(refine hK0 _ _ ?_;clear hK0)
      refine h _ k3 ?_;rw[show r+(1+(flF t.pr+1))=r+1+flF t.pr+1 by omega];exact hs
     ·rw[if_neg he] at h hs
      repeat' first|refine zTw ?_|intro _ _ hs|intro K0 hK0|intro hc|refine dI ?_ ?_|(refine hK0 _ _ ?_;clear hK0)
      refine h _ k3 ?_;rw[show r+(0+(flF t.pr+0))=r+0+flF t.pr by omega];exact hs
end Go.Af.Tryz
