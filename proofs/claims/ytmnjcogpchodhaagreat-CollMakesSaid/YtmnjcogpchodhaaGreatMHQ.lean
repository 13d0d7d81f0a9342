/- A part of the proof. -/
import Derived.Test.YtmnjcogpchodhaaGreatMHO
import Derived.Test.YtmnjcogpchodhaaGreatMCA
import Derived.Test.YtmnjcogpchodhaaGreatMHK
import Derived.Test.YtmnjcogpchodhaaGreatMHI
set_option linter.all false
set_option maxHeartbeats 4000000
set_option maxRecDepth 100000
namespace Go.Af.Tryz
open Go Go.Proofs Tryz
open Go.Af.Coll (St befF)
attribute [local irreducible] awp qj qI qK qE qm isCells ql qi qB qx qh roundEnd zG wZ keyK wE

theorem hlo_at {t:Tk} {j:Nat} (h:j<2*t.sz.length):(hloF t)[j]! = haR t (j / 2) ((j % 2:Nat):Int):=by
 unfold hloF;rw[getElem!_pos _ j (by simpa using h)];simp
structure HoS where
 H:List Blk
 k:Nat
 S:List St
 i:Nat
theorem add_72 {t:Tk} {H:List Blk} {mb k b c r:Nat} {S:List St} {R:Value->List Blk->Prop} (kt:TkOk t) (h11:t.op=11) (hm:MkH H (fun x=>x=mb\/x=k) mb k t b c r S [] H) (hr:r+2*t.sz.length<=1000000) (hl:S.length+(stsF r (hloF t)).length<=1000000000)
 (gr:Gr H t.sz b) (gw:Gw H t.ws b c) (nb : ¬ (b=mb\/b=k)) (nc : ¬ (c=mb\/c=k)) (hd10:t.sz.length<=10)
 (h : ∀ H' k',MkH H (fun x=>x=mb\/x=k) mb k' t b c (r+2*t.sz.length) (S++stsF r (hloF t)) [] H' -> R (.tuple ⟨[]⟩) H'):qj prog 72 [pM mb] H R:=by
 have hcn:=kt.halo h11;have hpr:=kt.pr;have hro:=kt.ro;have hpa:=kt.pa;have hL:(hloF t).length=2*t.sz.length:=by simp[hloF]
 obtain ⟨wb,hbb⟩:=gr.s;obtain ⟨wc,hcb⟩:=gw.s;have ub : ∀ {L H'},HS H (fun x=>x=mb\/x=k) L H' -> Gr H' t.sz b:=fun hs=>⟨_,(hs.u.2 b (qJ hbb) nb).trans hbb⟩
 have uc : ∀ {L H'},HS H (fun x=>x=mb\/x=k) L H' -> Gw H' t.ws b c:=fun hs=>⟨gw.ne,_,(hs.u.2 c (qJ hcb) nc).trans hcb⟩
 refine avN call72 func72 ntmps72 ?_;have hs:=hm
 repeat' first|refine zPw ?_|intro _ _ hs|intro K0 hK0
 refine qf (α := MdS) tok (fun z=>MkH H (fun x=>x=mb\/x=k) mb z.k t b c (r+2*z.i) z.S [] z.H/\z.S++stsF (r+2*z.i) ((hloF t).drop (2*z.i))=S++stsF r (hloF t)/\z.i<=t.sz.length)
  (fun z=>[(0,pM mb),(2, .int .i64 (z.i:Int))]) (fun z=>z.H) (fun z=>t.sz.length-z.i)
  ⟨_,_,_,0⟩ ⟨hs,rfl,Nat.zero_le _⟩ (Or.inl ⟨⟨rfl,rfl,trivial⟩,rfl⟩) ?_
 clear hs;rintro ⟨H2,k2,S2,d⟩ ⟨hs,hS,hi⟩;dsimp only at hs hS hi ⊢;by_cases hdl:d<t.sz.length
 ·skip
  repeat' first|refine zLw ?_|intro _ _ hs|intro K0 hK0|intro hc|refine dI ?_ ?_
  refine qf (α := HoS) tok (fun z=>MkH H (fun x=>x=mb\/x=k) mb z.k t b c (r+(2*d+z.i)) z.S [] z.H/\z.S++stsF (r+(2*d+z.i)) ((hloF t).drop (2*d+z.i))=S++stsF r (hloF t)/\z.i<=2)
   (fun z=>[(0,pM mb),(2, .int .i64 (d:Int)),(3, .int .i64 (z.i:Int))]) (fun z=>z.H) (fun z=>2-z.i)
   ⟨_,_,_,0⟩ ⟨hs,hS,Nat.zero_le _⟩ (Or.inl ⟨⟨rfl,rfl,rfl,trivial⟩,rfl⟩) ?_
  clear hs hS;rintro ⟨H2,k2,S2,q⟩ ⟨hs,hS,hq⟩;dsimp only at hs hS hq ⊢;by_cases hql:q<2
  ·have hat:(hloF t)[2*d+q]! = haR t d (q:Int):=by
    rw[hlo_at (by omega),show (2*d+q) / 2=d by omega,show (2*d+q) % 2=q by omega]
   have hbc:haR t d (q:Int)=(lpW 0 1 t.pr).flatMap (haG t d (q:Int)):=by
    unfold haR;rw[uD (by decide) (by omega)]
   generalize hie:2*d+q=i at hs hS hat;have hD:=qY (r:=r) (i:=i) (L:=hloF t) (by omega);rw[hat] at hD;rw[hD,<- List.append_assoc] at hS;have hSl:=congrArg List.length hS;simp only[List.length_append] at hSl;generalize hG:S2++stRd ((r+i:Nat):Int) (haR t d (q:Int))=G at hS;have hGl:=congrArg List.length hG;rw[List.length_append] at hGl;rw[hbc] at hG
   repeat' first|refine zLw ?_|intro _ _ hs|intro K0 hK0|intro hc|refine dI ?_ ?_
   refine qf (α := MvS) tok (fun z=>MkH H (fun x=>x=mb\/x=k) mb z.k t b c (r+i) z.S [] z.H/\z.S++stRd ((r+i:Nat):Int) ((lpW z.v 1 t.pr).flatMap (haG t d (q:Int)))=G/\0<=z.v/\z.v<=1000)
    (fun z=>[(0,pM mb),(2, .int .i64 (d:Int)),(3, .int .i64 (q:Int)),(4, .int .i64 z.v)]) (fun z=>z.H) (fun z=>(1000-z.v).toNat)
    ⟨_,_,_,0⟩ ⟨hs,hG,by dsimp only;omega,by dsimp only;omega⟩ (Or.inl ⟨⟨rfl,rfl,rfl,rfl,trivial⟩,rfl⟩) ?_
   clear hs hG;rintro ⟨H3,k3,S3,v⟩ ⟨hs,hG,hv0,hv⟩;dsimp only at hs hG hv0 hv ⊢;by_cases hvl:v<t.pr
   ·have hc0:crdE t.sz t.ws.length v=0:=by
     unfold crdE;rw[if_neg (by omega),if_neg (by omega)]
    have hn1:=we0 kt h11 (r:=v) (d:=d) (k:=true) ⟨hv0,hvl⟩;have hn2:=we0 kt h11 (r:=v) (d:=d) (k:=false) ⟨hv0,hvl⟩;rw[qQ (by omega) hvl,List.flatMap_cons,Qc,<- List.append_assoc] at hG
    repeat' first|refine zLw ?_|intro _ _ hs|intro K0 hK0|intro hc|refine dI ?_ ?_
    refine c95 (ub hs) (uc hs) hc0 hdl (kNo hs (fun H5 hs=>?_))
    have hcg:haG t d (q:Int) v=if q=0 then (if neF t v d false = -2 then [] else [blM t v (neF t v d false) 0 (1+2*(d:Int)) 0]) else (if neF t v d true = -2 then [] else [blM t v (neF t v d true) 0 (2+2*(d:Int)) 0]):=by
     unfold haG haM;rcases (show q=0\/q=1 by omega) with rfl | rfl
     ·rw[if_pos rfl,show decide (((0:Nat):Int)=1)=false by decide,show 1+2*(d:Int)+((0:Nat):Int)=1+2*(d:Int) by omega]
     ·rw[if_neg (show ¬ (1=0) by decide),show decide (((1:Nat):Int)=1)=true by decide,show 1+2*(d:Int)+((1:Nat):Int)=2+2*(d:Int) by omega]
    rw[hcg] at hG;generalize neF t v d true=nt at hG hn1 ⊢;generalize neF t v d false=nf at hG hn2 ⊢;by_cases hq0:q=0
    ·rw[if_pos hq0] at hG
     by_cases hne:nf = -2
     ·rw[if_pos hne,show stRd ((r+i:Nat):Int) [] = [] from rfl,List.append_nil] at hG
      repeat' first|refine zLw ?_|intro _ _ hs|intro K0 hK0|intro hc|refine dI ?_ ?_
      all_goals exact⟨⟨_,k3,_,v+1⟩,⟨hs,hG,by dsimp only;omega,by dsimp only;omega⟩,by dsimp only;omega,Or.inl ⟨⟨rfl,rfl,rfl,rfl,trivial⟩,rfl⟩⟩
     ·rw[if_neg hne,yl] at hG
      have hGl2:=congrArg List.length hG;simp only[List.length_append,qN] at hGl2
      try dsimp only[blM] at hGl2
      repeat' first|refine zLw ?_|intro _ _ hs|intro K0 hK0|intro hc|refine dI ?_ ?_
      refine (c151 hpa (by first | omega | exact wX kt _ | exact wU kt _) (by first | omega | exact wX kt _ | exact wU kt _)) (qZ hs) (by omega) (by simp only[qN];(try dsimp only[blM]);omega) (fun H6 k6 hn=>?_);have hs:=qW hs hn;clear hn
      repeat' first|refine zLw ?_|intro _ _ hs|intro K0 hK0|intro hc|refine dI ?_ ?_
      all_goals exact⟨⟨_,k6,_,v+1⟩,⟨hs,hG,by dsimp only;omega,by dsimp only;omega⟩,by dsimp only;omega,Or.inl ⟨⟨rfl,rfl,rfl,rfl,trivial⟩,rfl⟩⟩
    ·rw[if_neg hq0] at hG
     by_cases hne:nt = -2
     ·rw[if_pos hne,show stRd ((r+i:Nat):Int) [] = [] from rfl,List.append_nil] at hG
      repeat' first|refine zLw ?_|intro _ _ hs|intro K0 hK0|intro hc|refine dI ?_ ?_
      all_goals exact⟨⟨_,k3,_,v+1⟩,⟨hs,hG,by dsimp only;omega,by dsimp only;omega⟩,by dsimp only;omega,Or.inl ⟨⟨rfl,rfl,rfl,rfl,trivial⟩,rfl⟩⟩
     ·rw[if_neg hne,yl] at hG
      have hGl2:=congrArg List.length hG;simp only[List.length_append,qN] at hGl2
      try dsimp only[blM] at hGl2
      repeat' first|refine zLw ?_|intro _ _ hs|intro K0 hK0|intro hc|refine dI ?_ ?_|(refine (c151 hpa (by first | omega | exact wX kt _ | exact wU kt _) (by first | omega | exact wX kt _ | exact wU kt _)) (qZ hs) (by omega) (by simp only[qN];(try dsimp only[blM]);omega) (fun H6 k6 hn=>?_);have hs:=qW hs hn;clear hn)
      all_goals exact⟨⟨_,k6,_,v+1⟩,⟨hs,hG,by dsimp only;omega,by dsimp only;omega⟩,by dsimp only;omega,Or.inl ⟨⟨rfl,rfl,rfl,rfl,trivial⟩,rfl⟩⟩
   ·skip
    rw[vw (by omega),List.flatMap_nil,show stRd ((r+i:Nat):Int) [] = [] from rfl,List.append_nil] at hG;subst hG
    repeat' first|refine zLw ?_|intro _ _ hs|intro K0 hK0|intro hc|refine dI ?_ ?_
    subst hie
    all_goals exact⟨⟨_,k3,_,q+1⟩,⟨hs,hS,by dsimp only;omega⟩,by dsimp only;omega,Or.inl ⟨⟨rfl,rfl,rfl,trivial⟩,rfl⟩⟩
  ·have hq2:q=2:=by omega
   subst hq2
   repeat' first|refine zLw ?_|intro _ _ hs|intro K0 hK0|intro hc|refine dI ?_ ?_
   all_goals exact⟨⟨_,k2,_,d+1⟩,⟨hs,hS,by dsimp only;omega⟩,by dsimp only;omega,Or.inl ⟨⟨rfl,rfl,trivial⟩,rfl⟩⟩
 ·have hie:d=t.sz.length:=by omega
  repeat' first|refine zLw ?_|intro _ _ hs|intro K0 hK0|intro hc|refine dI ?_ ?_
  rw[List.drop_of_length_le (by omega),stsF,List.append_nil] at hS;refine h _ k2 ?_;rw[<- hS,<- hie];exact hs
end Go.Af.Tryz
namespace Go.Af.Tryz
open Go Go.Proofs Tryz
open Go.Af.Coll (St befF)
attribute [local irreducible] awp qj qI qK qE qm isCells ql qi qB qx qh roundEnd zG wZ keyK wE

abbrev wnd (L:List St) (o n:Nat):List St:=(L.drop o).take n
theorem Xp {l:List St} {i o:Nat} {K:List Value->Prop} (ho:o=i*6) (hi:i<l.length) (h:K (stC l[i]!)):segK (stsC l) (o+0*6) 6 K:=by
 have:=vE0 (l:=l) (i:=i) hi h;rw[show o+0*6=0+i*6 by omega];exact this
theorem yq0 {L:List St} {o n i:Nat} (hi:i<n) (hl:o+n<=L.length):(wnd L o n).drop i=L[o+i]! :: (wnd L o n).drop (i+1)/\(wnd L o n).take (i+1)=(wnd L o n).take i ++ [L[o+i]!]:=by
 have h1:i<(wnd L o n).length:=by rw[List.length_take,List.length_drop];omega
 have h2:(wnd L o n)[i]=L[o+i]! := by
  rw[getElem!_pos L (o+i) (by omega)];simp[wnd]
 refine⟨?_, ?_⟩
 ·rw[List.drop_eq_getElem_cons h1,h2]
 ·rw[List.take_succ_eq_append_getElem h1,h2]
theorem yZ0 (L:List St) (o n:Nat) {m:Nat} (h:m<=n):wnd L o n=wnd L o m++wnd L (o+m) (n-m):=by
 unfold wnd;rw[<- List.drop_drop,<- List.take_add,show m+(n-m)=n by omega]
theorem zd0 {x y:St} (h:befF x y=true):befF y x=false:=by
 cases h2:befF y x with
 | false=>rfl
 | true =>
   unfold befF at h h2;have:=Qk _ _ _ h h2;rw[XL] at this;cases this
structure Mrg (S A B:List St) (i j:Nat):Prop where
 p:S.Perm (A.take i++B.take j)
 s:S.Pairwise (fun a b=>befF b a=false)
 b : ∀ x∈S, ∀ y∈A.drop i++B.drop j,befF y x=false
theorem Mrg.stepA {S A B:List St} {i j:Nat} {x:St} (m:Mrg S A B i j) (hA:A.Pairwise (fun a b=>befF b a=false)) (hd:A.drop i=x::A.drop (i+1)) (ht:A.take (i+1)=A.take i ++ [x]) (hB : ∀ y∈B.drop j,befF y x=false):Mrg (S ++ [x]) A B (i+1) j:=by
 have hx : ∀ y∈A.drop (i+1),befF y x=false:=by
  have:=hA.sublist (List.drop_sublist i A);rw[hd] at this;exact (List.pairwise_cons.1 this).1
 refine⟨?_, ?_,fun s hs y hy=>?_⟩
 ·rw[ht,List.append_assoc]
  refine (m.p.append_right [x]).trans ?_;rw[List.append_assoc];exact List.Perm.append_left _ List.perm_append_comm
 ·refine List.pairwise_append.2 ⟨m.s,List.pairwise_singleton _ _,fun s hs y hy=>?_⟩
  rcases List.mem_singleton.1 hy with rfl
  exact m.b s hs _ (List.mem_append_left _ (by rw[hd];exact List.mem_cons_self))
 ·rcases List.mem_append.1 hs with hs | hs
  ·refine m.b s hs y ?_
   rcases List.mem_append.1 hy with hy | hy
   ·exact List.mem_append_left _ (by rw[hd];exact List.mem_cons_of_mem _ hy)
   ·exact List.mem_append_right _ hy
  ·rcases List.mem_singleton.1 hs with rfl
   rcases List.mem_append.1 hy with hy | hy
   ·exact hx y hy
   ·exact hB y hy
theorem Mrg.swap {S A B:List St} {i j:Nat} (m:Mrg S A B i j):Mrg S B A j i :=
 ⟨m.p.trans List.perm_append_comm,m.s,fun x hx y hy=>m.b x hx y ((List.mem_append.1 hy).elim (List.mem_append_right _) (List.mem_append_left _))⟩
theorem wS0 {A:List St} {i:Nat} {x z:St} (hA:A.Pairwise (fun a b=>befF b a=false)) (hd:A.drop i=x::A.drop (i+1)) (h:befF x z=false) : ∀ y∈A.drop i,befF y z=false:=by
 intro y hy;have h1:=hA.sublist (List.drop_sublist i A);rw[hd] at h1 hy;rcases List.mem_cons.1 hy with rfl | hy
 ·exact h
 ·exact Zr _ _ _ ((List.pairwise_cons.1 h1).1 y hy) h
structure MgS where
 H:List Blk
 k:Nat
 S:List St
 i:Nat
 j:Nat
 oa:Nat
 la:Nat
 ca:Nat
 ob:Nat
 lb:Nat
 cb:Nat
theorem c73 (n:Nat) : ∀ {H:List Blk} {k o off cap:Nat} {w:Bool} {L:List St} {R:Value->List Blk->Prop},n<=1000000000->bget H k=some (.cells w 6 (stsC L))->o=off*6->off+n<=L.length->n<=cap ->
 (∀ H' k' o' off' cap' w' L',HS H none' [] H' -> bget H' k' = some (.cells w' 6 (stsC L'))->o' = off' * 6->off' + n<=L'.length->n<=cap' -> (wnd L' off' n).Perm (wnd L off n)->(wnd L' off' n).Pairwise (fun a b=>befF b a=false)->R (.slice (some ⟨k',o',none⟩) n cap') H') ->
 qj prog 73 [.slice (some ⟨k,o,none⟩) n cap] H R:=by
 induction n using Nat.strongRecOn with
 | ind n ih =>
   intro H k o off cap w L R hn hb ho hof hcap h;refine avN call73 func73 ntmps73 ?_;have hs:HS H none' [(false,k, .cells w 6 (stsC L))] H:=adH (HS.start H none') hb;by_cases hn2:n<2
   ·skip
    repeat' first|refine zQw ?_|intro _ _ hs|intro K0 hK0|intro hc|refine dI ?_ ?_
    refine h _ k o off cap w L (qc hs) hb ho hof hcap (.refl _) ?_;have hw:(wnd L off n).length<=1:=by rw[List.length_take];omega
    match wnd L off n,hw with
    | [],_=>exact .nil
    | [x],_=>exact List.pairwise_singleton _ _
   ·skip
    have hd:((n:Int)).tdiv 2=((n / 2:Nat):Int):=rfl
    repeat' first|refine zQw ?_|intro _ _ hs|intro K0 hK0|intro hc|refine dI ?_ ?_
    refine qp tok mx [0,0,2,6,15,31,0,0,128,384,960,2047,4095,8191] [false,false,false,false,false,false,false,false,false,false,false,false,false,false] (.first 0 (.first 1 (.first 2 (.first 3 (.first 4 (.first 6 (.first 7 (.first 8 (.first 9 (.first 10 (.first 5 (.first 11 (.first 12 (.first 13 .done)))))))))))))) (by kernel_rfl) ?_;refine qw (fun K0 hK0=>?_)
    repeat' first|refine zQw ?_|intro _ _ hs|intro K0 hK0|intro hc|refine dI ?_ ?_
    iterate 3 (
     all_goals try (first | refine And.intro ?_ trivial | refine And.intro ?_ (And.intro ?_ trivial) | refine And.intro ?_ (And.intro ?_ (And.intro ?_ trivial)))
     all_goals try (
      repeat' first|refine zQw ?_|intro _ _ hs|intro K0 hK0|intro hc|refine dI ?_ ?_
      )
     all_goals try (
      refine aI ⟨Nat.zero_le _,Nat.le_trans (Nat.div_le_self n 2) hcap⟩ ?_
      repeat' first|refine zQw ?_|intro _ _ hs|intro K0 hK0|intro hc|refine dI ?_ ?_
      )
     all_goals try (
      refine aI ⟨Nat.div_le_self n 2,hcap⟩ ?_
      repeat' first|refine zQw ?_|intro _ _ hs|intro K0 hK0|intro hc|refine dI ?_ ?_
      )
     all_goals try (
      refine ih (n / 2) (by omega) (by omega) (hs.get 0 rfl) ho (by omega) (by omega) (fun H1 k1 o1 off1 cap1 w1 L1 hn1 hb1 ho1 hof1 hcap1 hp1 hw1=>?_);have hs:=qL hs hn1
      repeat' first|refine zQw ?_|intro _ _ hs|intro K0 hK0|intro hc|refine dI ?_ ?_
      )
     all_goals try (
      refine ih (n-n / 2) (by omega) (off:=off+n / 2) (by omega) (hs.get 0 rfl) (show o+n / 2*6=(off+n / 2)*6 by omega) (by omega) (Nat.sub_le_sub_right hcap _) (fun H2 k2 o2 off2 cap2 w2 L2 hn2 hb2 ho2 hof2 hcap2 hp2 hw2=>?_);have hs:=qL hs hn2
      repeat' first|refine zQw ?_|intro _ _ hs|intro K0 hK0|intro hc|refine dI ?_ ?_
      )
     )
    all_goals (
     clear hs;have hs:=HS.start H2 none';have hb1' := vz hn2 hb1;have hnn:=hn1.comp hn2 (fun _ hf=>hf.elim);clear ih;generalize hA:wnd L1 off1 (n / 2)=A at hp1 hw1;generalize hB:wnd L2 off2 (n-n / 2)=B at hp2 hw2;have hAl:A.length=n / 2:=by rw[<- hA,List.length_take,List.length_drop];omega
     have hBl:B.length=n-n / 2:=by rw[<- hB,List.length_take,List.length_drop];omega
     have hAt : ∀ i,i<n / 2->A.drop i=L1[off1+i]! :: A.drop (i+1)/\A.take (i+1)=A.take i ++ [L1[off1+i]!]:=fun i hi=>by rw[<- hA];exact yq0 hi hof1
     have hBt : ∀ j,j<n-n / 2->B.drop j=L2[off2+j]! :: B.drop (j+1)/\B.take (j+1)=B.take j ++ [L2[off2+j]!]:=fun j hj=>by rw[<- hB];exact yq0 hj hof2
     refine vC (α := MgS) tok (fun z=>HS H2 none' [(true,z.k, .cells true 6 (stsC z.S))] z.H/\Mrg z.S A B z.i z.j/\z.la+z.i=n / 2/\z.lb+z.j=n-n / 2/\z.oa=(off1+z.i)*6/\z.ob=(off2+z.j)*6/\z.la<=z.ca/\z.lb<=z.cb/\z.S.length=z.i+z.j)
      (fun z=>[(3, .slice (some ⟨k1,z.oa,none⟩) z.la z.ca),(4, .slice (some ⟨k2,z.ob,none⟩) z.lb z.cb),(5,sv z.k z.S.length)]) (fun z=>z.H) (fun z=>z.la+z.lb)
      ⟨H2 ++ [.cells true 6 []],H2.length,[],0,0,o1,n / 2,cap1,o2,n-n / 2,cap2⟩ ⟨pkH (hs.virt _) [0],⟨.refl _, .nil,fun x hx=>by cases hx⟩,rfl,rfl,by dsimp only;omega,by dsimp only;omega,hcap1,hcap2,rfl⟩ ⟨⟨_,rfl, .rfl⟩,⟨_,rfl, .rfl⟩,⟨_,rfl, .nil _⟩,trivial⟩ (WkH.rfl.app _) ?_
     clear hs;rintro ⟨H3,k3,S,i,j,oa,la,ca,ob,lb,cb⟩ ⟨hs,hm,hia,hjb,hoa,hob,hca,hcb,hSl⟩;dsimp only at hs hm hia hjb hoa hob hca hcb hSl ⊢;have u1 : ∀ {M H'},HS H2 none' M H' -> bget H' k1=some (.cells w1 6 (stsC L1)):=fun hs=>vz (qc hs) hb1'
     have u2 : ∀ {M H'},HS H2 none' M H' -> bget H' k2=some (.cells w2 6 (stsC L2)):=fun hs=>vz (qc hs) hb2
     by_cases hla:la=0
     ·by_cases hlb:lb=0
      ·subst hla;subst hlb
       repeat' first|refine zQw ?_|intro _ _ hs|intro K0 hK0|intro hc|refine dI ?_ ?_
       have hin:i=n / 2:=by omega
       have hjn:j=n-n / 2:=by omega
       have hSn:S.length=n:=by omega
       rw[hSn];have hP:=hm.p;rw[List.take_of_length_le (by omega),List.take_of_length_le (by omega)] at hP;have hwS:wnd S 0 n=S:=by unfold wnd;rw[List.drop_zero,List.take_of_length_le (by omega)]
       refine h _ k3 0 0 n true S (qL hnn (qc hs)) (hs.get 0 rfl) rfl (by omega) (Nat.le_refl _) ?_ ?_
       ·rw[hwS,yZ0 L off n (Nat.div_le_self n 2)]
        exact hP.trans (hp1.append hp2)
       ·rw[hwS]
        exact hm.s
      ·subst hla
       repeat' first|refine zQw ?_|intro _ _ hs|intro K0 hK0|intro hc|refine dI ?_ ?_
       refine qp tok mx [0,1,3,7,15,31,63,127,255,511,1023,255,2303,6399,16383,32767,65535] [false,false,false,false,false,false,false,false,false,false,false,true,true,true,false,false,false] (.first 0 (.first 1 (.first 2 (.first 3 (.first 4 (.first 5 (.first 6 (.first 7 (.first 8 (.first 9 (.first 10 (.first 11 (.first 12 (.first 13 (.first 14 (.first 15 (.first 16 .done))))))))))))))))) (by kernel_rfl) ?_;refine qw (fun K0 hK0=>?_)
       repeat' first|refine zQw ?_|intro _ _ hs|intro K0 hK0|intro hc|refine dI ?_ ?_
       refine qO (u2 hs) ⟨0,rfl,by omega, ?_⟩
       repeat' first|refine zQw ?_|intro _ _ hs|intro K0 hK0|intro hc|refine dI ?_ ?_
       refine qF (u2 hs) (Xp (i:=off2+j) hob (by omega) ?_)
       repeat' first|refine zQw ?_|intro _ _ hs|intro K0 hK0|intro hc|refine dI ?_ ?_
       refine vZ hs 1 (us:=stC L2[off2+j]!) rfl (by decide) (hs.get 0 rfl) rfl rfl (by rw[xC,Nat.mul_comm]) (by dsimp only;omega) (fun H7 k7 _ _ hs=>?_);rw[<- zy] at hs
       repeat' first|refine zQw ?_|intro _ _ hs|intro K0 hK0|intro hc|refine dI ?_ ?_
       refine qF (u2 hs) ⟨rfl,1,rfl, ?_⟩;refine aI ⟨by omega,by omega⟩ ?_
       repeat' first|refine zQw ?_|intro _ _ hs|intro K0 hK0|intro hc|refine dI ?_ ?_
       refine⟨⟨_,k7,S ++ [L2[off2+j]!],i,j+1,oa,0,ca,ob+1*6,lb-1,cb-1⟩,⟨pkH hs [1], ?_,by dsimp only;omega,by dsimp only;omega,by dsimp only;omega,by dsimp only;omega,by dsimp only;omega,by dsimp only;omega,by dsimp only;rw[List.length_append,List.length_singleton];omega⟩,by dsimp only;omega,Or.inl ⟨⟨rfl,rfl,by dsimp only;rw[List.length_append,List.length_singleton];rfl,trivial⟩,rfl⟩⟩;have hz:=hBt j (by omega);exact (hm.swap.stepA hw2 hz.1 hz.2 (fun y hy=>by rw[List.drop_of_length_le (by omega)] at hy;cases hy)).swap
     ·have hzA:=hAt i (by omega)
      by_cases hlb:lb=0
      ·subst hlb
       repeat' first|refine zQw ?_|intro _ _ hs|intro K0 hK0|intro hc|refine dI ?_ ?_
       refine qp tok mx [0,1,3,7,15,31,63,127,255,511,1023,255,2303,6399,16383,32767,65535] [false,false,false,false,false,false,false,false,false,false,false,true,true,true,false,false,false] (.first 0 (.first 1 (.first 2 (.first 3 (.first 4 (.first 5 (.first 6 (.first 7 (.first 8 (.first 9 (.first 10 (.first 11 (.first 12 (.first 13 (.first 14 (.first 15 (.first 16 .done))))))))))))))))) (by kernel_rfl) ?_;refine qw (fun K0 hK0=>?_)
       repeat' first|refine zQw ?_|intro _ _ hs|intro K0 hK0|intro hc|refine dI ?_ ?_
       refine qO (u1 hs) ⟨0,rfl,by omega, ?_⟩
       repeat' first|refine zQw ?_|intro _ _ hs|intro K0 hK0|intro hc|refine dI ?_ ?_
       refine qF (u1 hs) (Xp (i:=off1+i) hoa (by omega) ?_)
       repeat' first|refine zQw ?_|intro _ _ hs|intro K0 hK0|intro hc|refine dI ?_ ?_
       refine vZ hs 1 (us:=stC L1[off1+i]!) rfl (by decide) (hs.get 0 rfl) rfl rfl (by rw[xC,Nat.mul_comm]) (by dsimp only;omega) (fun H7 k7 _ _ hs=>?_);rw[<- zy] at hs
       repeat' first|refine zQw ?_|intro _ _ hs|intro K0 hK0|intro hc|refine dI ?_ ?_
       refine qF (u1 hs) ⟨rfl,1,rfl, ?_⟩;refine aI ⟨by omega,by omega⟩ ?_
       repeat' first|refine zQw ?_|intro _ _ hs|intro K0 hK0|intro hc|refine dI ?_ ?_
       refine⟨⟨_,k7,S ++ [L1[off1+i]!],i+1,j,oa+1*6,la-1,ca-1,ob,0,cb⟩,⟨pkH hs [1], ?_,by dsimp only;omega,by dsimp only;omega,by dsimp only;omega,by dsimp only;omega,by dsimp only;omega,by dsimp only;omega,by dsimp only;rw[List.length_append,List.length_singleton];omega⟩,by dsimp only;omega,Or.inl ⟨⟨rfl,rfl,by dsimp only;rw[List.length_append,List.length_singleton];rfl,trivial⟩,rfl⟩⟩;exact hm.stepA hw1 hzA.1 hzA.2 (fun y hy=>by rw[List.drop_of_length_le (by omega)] at hy;cases hy)
      ·have hzB:=hBt j (by omega)
       cases hbf:befF L1[off1+i]! L2[off2+j]!
       all_goals (
        repeat' first|refine zQw ?_|intro _ _ hs|intro K0 hK0|intro hc|refine dI ?_ ?_
        refine qp tok mx [0,1,3,7,15,31,63,127,255,511,1023,255,2303,6399,16383,32767,65535] [false,false,false,false,false,false,false,false,false,false,false,true,true,true,false,false,false] (.first 0 (.first 1 (.first 2 (.first 3 (.first 4 (.first 5 (.first 6 (.first 7 (.first 8 (.first 9 (.first 10 (.first 11 (.first 12 (.first 13 (.first 14 (.first 15 (.first 16 .done))))))))))))))))) (by kernel_rfl) ?_;refine qw (fun K0 hK0=>?_)
        repeat' first|refine zQw ?_|intro _ _ hs|intro K0 hK0|intro hc|refine dI ?_ ?_
        iterate 4 (
         all_goals try (first | refine And.intro ?_ trivial | refine And.intro ?_ (And.intro ?_ trivial) | refine And.intro ?_ (And.intro ?_ (And.intro ?_ trivial)))
         all_goals try (
          repeat' first|refine zQw ?_|intro _ _ hs|intro K0 hK0|intro hc|refine dI ?_ ?_
          )
         all_goals try (
          refine qO (u1 hs) ⟨0,rfl,by omega, ?_⟩
          repeat' first|refine zQw ?_|intro _ _ hs|intro K0 hK0|intro hc|refine dI ?_ ?_
          )
         all_goals try (
          refine qF (u1 hs) (Xp (i:=off1+i) hoa (by omega) ?_)
          repeat' first|refine zQw ?_|intro _ _ hs|intro K0 hK0|intro hc|refine dI ?_ ?_
          )
         all_goals try (
          refine qO (u2 hs) ⟨0,rfl,by omega, ?_⟩
          repeat' first|refine zQw ?_|intro _ _ hs|intro K0 hK0|intro hc|refine dI ?_ ?_
          )
         all_goals try (
          refine qF (u2 hs) (Xp (i:=off2+j) hob (by omega) ?_)
          repeat' first|refine zQw ?_|intro _ _ hs|intro K0 hK0|intro hc|refine dI ?_ ?_
          )
         all_goals try (
          refine c153 (fun H6 hn6=>?_);have hs:=qL hs hn6;clear hn6;rw[hbf]
          repeat' first|refine zQw ?_|intro _ _ hs|intro K0 hK0|intro hc|refine dI ?_ ?_
          )
         )
        )
       ·skip
        refine vZ hs 1 (us:=stC L2[off2+j]!) rfl (by decide) (hs.get 0 rfl) rfl rfl (by rw[xC,Nat.mul_comm]) (by dsimp only;omega) (fun H7 k7 _ _ hs=>?_);rw[<- zy] at hs
        repeat' first|refine zQw ?_|intro _ _ hs|intro K0 hK0|intro hc|refine dI ?_ ?_
        refine qF (u2 hs) ⟨rfl,1,rfl, ?_⟩;refine aI ⟨by omega,by omega⟩ ?_
        repeat' first|refine zQw ?_|intro _ _ hs|intro K0 hK0|intro hc|refine dI ?_ ?_
        refine⟨⟨_,k7,S ++ [L2[off2+j]!],i,j+1,oa,la,ca,ob+1*6,lb-1,cb-1⟩,⟨pkH hs [1], ?_,by dsimp only;omega,by dsimp only;omega,by dsimp only;omega,by dsimp only;omega,by dsimp only;omega,by dsimp only;omega,by dsimp only;rw[List.length_append,List.length_singleton];omega⟩,by dsimp only;omega,Or.inl ⟨⟨rfl,rfl,by dsimp only;rw[List.length_append,List.length_singleton];rfl,trivial⟩,rfl⟩⟩;exact (hm.swap.stepA hw2 hzB.1 hzB.2 (wS0 hw1 hzA.1 hbf)).swap
       ·skip
        refine vZ hs 1 (us:=stC L1[off1+i]!) rfl (by decide) (hs.get 0 rfl) rfl rfl (by rw[xC,Nat.mul_comm]) (by dsimp only;omega) (fun H7 k7 _ _ hs=>?_);rw[<- zy] at hs
        repeat' first|refine zQw ?_|intro _ _ hs|intro K0 hK0|intro hc|refine dI ?_ ?_
        refine qF (u1 hs) ⟨rfl,1,rfl, ?_⟩;refine aI ⟨by omega,by omega⟩ ?_
        repeat' first|refine zQw ?_|intro _ _ hs|intro K0 hK0|intro hc|refine dI ?_ ?_
        refine⟨⟨_,k7,S ++ [L1[off1+i]!],i+1,j,oa+1*6,la-1,ca-1,ob,lb,cb⟩,⟨pkH hs [1], ?_,by dsimp only;omega,by dsimp only;omega,by dsimp only;omega,by dsimp only;omega,by dsimp only;omega,by dsimp only;omega,by dsimp only;rw[List.length_append,List.length_singleton];omega⟩,by dsimp only;omega,Or.inl ⟨⟨rfl,rfl,by dsimp only;rw[List.length_append,List.length_singleton];rfl,trivial⟩,rfl⟩⟩;exact hm.stepA hw1 hzA.1 hzA.2 (wS0 hw2 hzB.1 (zd0 hbf))
     )
end Go.Af.Tryz
