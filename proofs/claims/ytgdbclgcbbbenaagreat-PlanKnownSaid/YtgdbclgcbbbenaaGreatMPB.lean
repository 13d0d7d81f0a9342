/-
  What the steps of a round cost (the program's round).
-/
import Derived.Test.YtgdbclgcbbbenaaGreatMPA
import Derived.Test.YtgdbclgcbbbenaaGreatMGC
import Derived.Test.YtgdbclgcbbbenaaGreatMCA
set_option linter.all false
namespace Go.Af.Tryz
open Go Go.Proofs Go.Af.Pl Co Ne
open Go.Af.Coll (St)
set_option maxRecDepth 100000
set_option maxHeartbeats 4000000
attribute [local irreducible] awp qi qw qH qy qx isCells qo qj qI qG ql roundEnd zD wS keyK vX zL xh

theorem look_I {P:Program} {T:TT} {kt n:Nat} (hk:KeyT P T kt n) {H:List Blk} {m:Nat} {l:Ctr} {k:List Int} {K:Value->Prop} (hm:bget H m=some (mpC (ins l k))) (hl : ∀ x∈l,x.1.length=n) (hkl:k.length=n) (h:K (.int .i64 (cnt l k))) :
 zD H m (fun es=>keyK P T kt (.agg ⟨ints k⟩) (vX P T H kt (.agg ⟨ints k⟩) es 0 (fun r=>lkK false (.int .i64 0) es r K))) :=
 look_C hk hm (ins_all (P:=fun k=>k.length=n) hl hkl) hkl (by rw[cnt_ins];exact h)
structure R1 where
 H:List Blk
 j:Nat
structure R2 where
 H:List Blk
 seen:List Nat
structure R3 where
 H:List Blk
 i:Nat
theorem Ld_of {vs:List Value} {i:Nat} {v:Value} {K:Value->Prop} (hv:vs[i]? = some v) (h:K v):Ld vs (0+i*1) K:=⟨v,by simpa using hv,h⟩
theorem take_at {ys P:List Int} (h:ys.take P.length=P) {i:Nat} (hi:i<P.length):some P[i]! = ys[i]? := by
 rw[getElem!_pos P i hi,<- List.getElem?_eq_getElem hi]
 conv=>lhs;rw[<- h]
 rw[List.getElem?_take,if_pos hi]
theorem c53 {H:List Blk} {m:Mc} {s:Sh} {b c d k0 n cp:Nat} {l:List St} {R:Value->List Blk->Prop} (g:Mr H m b c) (hst:Sts H l d) (mk:McOk m s) (hk0:k0+n<=l.length) (hn:n<=1000)
 (hr : ∀ x∈(l.drop k0).take n,(0<=x.fr/\x.fr<m.hs.length)/\(0<=x.to/\x.to<m.hs.length))
 (h : ∀ H',HS H none' [] H' -> R (.agg ⟨ints (rdcF s m ((l.drop k0).take n))⟩) H'):qi Tryz.prog 53 [mcV m b c, .slice (some ⟨d,k0*6,none⟩) n cp] H R:=by
 obtain ⟨w1,hd0⟩:=hst.s
 generalize hS:(l.drop k0).take n=S at h hr
 have hSl:S.length=n:=by rw[<- hS,List.length_take,List.length_drop];omega
 have hSe : ∀ j,j<n->S[j]! = l[k0+j]! := fun j hj=>by
  rw[<- hS,getElem!_pos _ j (by rw[List.length_take,List.length_drop];omega),getElem!_pos l (k0+j) (by omega),List.getElem_take,List.getElem_drop]
 refine qh tok Tryz.call53 Tryz.func53 rfl Tryz.ntmps53 rfl (by simp) ?_
 have hs:=HS.start H none'
 repeat' (first|refine nX ?_|refine nY (fun K0 hK0=>?_)|refine zSt hs ?_|refine nN hs (fun _ _ hs=>?_)|refine nS hs (fun _ _ hs=>?_)|refine sX hs (fun _ hs=>?_)|(refine hK0 _ _ ?_;clear hK0)|fail)
 rename_i a1 a2 b2 a3 a4 b4 a5 a6 a7 mL a8 a9 a10 mM H1
 clear a1 a2 a3 a4 a5 a6 a7 a8 a9 a10
 refine qN (α := R1) tok (fun z=>z.j<=n/\HS H none' [(true,mM,mpC (ctr (incM (S.take z.j)))),(true,mL,mpC (ctr (incJ (S.take z.j)))),(true,b4, .cells true 1 (ints [0,0,0,0])),(true,b2, .cells true 1 (mcC m b c))] z.H)
  (fun z=>[(2, .pointer (some ⟨b2,0,none⟩)),(4, .pointer (some ⟨b4,0,none⟩)),(5, .map (some mL)),(6, .map (some mM)),(17, .slice (some ⟨d,k0*6,none⟩) n cp),(18, .int .i64 (n:Int)),(19, .int .i64 (z.j:Int))]) (fun z=>z.H) (fun z=>n-z.j)
  ⟨H1,0⟩ ⟨Nat.zero_le _,hs⟩ (Or.inl ⟨⟨rfl,rfl,rfl,rfl,rfl,rfl,rfl,trivial⟩,rfl⟩) ?_
 clear hs
 rintro ⟨H2,j⟩ ⟨hj,hs⟩
 dsimp only at hj hs ⊢
 have hd:=zg (qJ hs) hd0
 repeat' (first|refine nX ?_|refine nY (fun K0 hK0=>?_)|refine zSt hs ?_|refine nN hs (fun _ _ hs=>?_)|refine nS hs (fun _ _ hs=>?_)|refine sX hs (fun _ hs=>?_)|(refine hK0 _ _ ?_;clear hK0)|fail)
 refine aI (fun hc=>?_) (fun hc=>?_)
 ·have hlt:j<n:=by simp at hc;omega
  clear hc
  repeat' (first|refine nX ?_|refine nY (fun K0 hK0=>?_)|refine zSt hs ?_|refine nN hs (fun _ _ hs=>?_)|refine nS hs (fun _ _ hs=>?_)|refine sX hs (fun _ hs=>?_)|(refine hK0 _ _ ?_;clear hK0)|fail)
  refine qQ hd ⟨j,rfl,hlt, ?_⟩
  repeat' (first|refine nX ?_|refine nY (fun K0 hK0=>?_)|refine zSt hs ?_|refine nN hs (fun _ _ hs=>?_)|refine nS hs (fun _ _ hs=>?_)|refine sX hs (fun _ hs=>?_)|(refine hK0 _ _ ?_;clear hK0)|fail)
  refine qK hd ?_
  change segK (stsC l) (k0*6+j*6) 6 _
  rw[show k0*6+j*6=0+(k0+j)*6 by omega]
  refine seg_st (by omega) ?_
  rw[<- hSe j hlt]
  have hxm:S[j]! ∈ S:=by rw[getElem!_pos S j (by omega)];exact List.getElem_mem _
  have hxr:=hr _ hxm
  have htk:S.take (j+1)=S.take j ++ [S[j]!]:=by rw[List.take_succ_eq_append_getElem (by omega),getElem!_pos S j (by omega)]
  have eJ:=incJ_snoc (S.take j) S[j]!
  have eM:=incM_snoc (S.take j) S[j]!
  rw[<- htk] at eJ eM
  have lJ:=incJ_len (S.take j)
  have lM:=incM_len (S.take j)
  rw[List.length_take] at lJ lM
  generalize S[j]! = x at eJ eM hxr
  have hL3 : ∀ y∈ctr (incJ (S.take j)),y.1.length=3:=add_all (P:=fun k=>k.length=3) (fun y hy=>(incJ_one y hy).1)
  have hM2 : ∀ y∈ctr (incM (S.take j)),y.1.length=2:=add_all (P:=fun k=>k.length=2) (fun y hy=>by obtain ⟨z,_,e,_⟩:=incM_one y hy;rw[e];rfl)
  have cL:=ctr_bound (B:=1) (xs:=incJ (S.take j)) (fun y hy=>by rw[(incJ_one y hy).2];omega) [3,x.to,0]
  have cM:=ctr_bound (B:=1) (xs:=incM (S.take j)) (fun y hy=>by obtain ⟨z,_,e,_⟩:=incM_one y hy;rw[e];exact⟨Int.zero_le_ofNat 1,Int.le_refl _⟩) [x.fr,x.to]
  repeat' (first|refine nX ?_|refine nY (fun K0 hK0=>?_)|refine zSt hs ?_|refine nN hs (fun _ _ hs=>?_)|refine nS hs (fun _ _ hs=>?_)|refine sX hs (fun _ hs=>?_)|(refine hK0 _ _ ?_;clear hK0)|fail)
  clear hxm htk hd
  refine aI (fun hc=>?_) (fun hc=>?_)
  ·have hJ:x.jn≠0:=by simpa using hc
   rw[if_pos hJ] at eJ
   have eL:bump (ctr (incJ (S.take j))) [3,x.to,0] 1=ctr (incJ (S.take (j+1))):=by rw[eJ,ctr_snoc]
   clear hc
   repeat' (first|refine nX ?_|refine nY (fun K0 hK0=>?_)|refine zSt hs ?_|refine nN hs (fun _ _ hs=>?_)|refine nS hs (fun _ _ hs=>?_)|refine sX hs (fun _ hs=>?_)|(refine hK0 _ _ ?_;clear hK0)|fail)
   refine vC tok mx [0,0,2,6,15,31,15,79,255] [false,false,false,false,false,false,false,true,false] (.first 0 (.first 1 (.first 2 (.first 3 (.alt 4 (.first 5 (.first 6 (.first 7 (.first 8 .done)))) (.alt 6 (.first 4 (.first 5 (.first 7 (.first 8 .done)))) .no)))))) (by kernel_rfl) ?_
   refine vG (fun K0 hK0=>?_)
   repeat' (first|refine nX ?_|refine nY (fun K0 hK0=>?_)|refine zSt hs ?_|refine nN hs (fun _ _ hs=>?_)|refine nS hs (fun _ _ hs=>?_)|refine sX hs (fun _ hs=>?_)|(refine hK0 _ _ ?_;clear hK0)|fail)
   iterate 4 (
    all_goals try (first
     | refine look_I kt191 (k := [3,x.to,0]) (hs.get 2 rfl) hL3 rfl ?_
     | refine look_C kt191 (k := [3,x.to,0]) (hs.get 2 rfl) hL3 rfl ?_
     | refine aI ?_ (aI ?_ trivial)
     | (simp only[putK,vopsT,xk,stepQ,bAt,zS,cstep,qC,Nat.blt];first | refine ment_as kt191 (k := [3,x.to,0]) hs 2 hL3 (fun _ hs=>?_) | refine ests_as (k := [3,x.to,0]) (z:=1) hs 2 (fun _ hs=>?_)))
    all_goals try (
     repeat' (first|refine nX ?_|refine nY (fun K0 hK0=>?_)|refine zSt hs ?_|refine nN hs (fun _ _ hs=>?_)|refine nS hs (fun _ _ hs=>?_)|refine sX hs (fun _ hs=>?_)|(refine hK0 _ _ ?_;clear hK0)|fail)
     ))
   all_goals (
    rw[eL] at hs
    refine aI (fun hc=>?_) (fun hc=>?_)
    ·have hF:x.fr≠x.to:=by simpa using hc
     rw[if_pos hF] at eM
     have e1:bump (ctr (incM (S.take j))) [x.fr,x.to] 1=ctr (incM (S.take (j+1))):=by rw[eM,ctr_snoc]
     clear hc
     repeat' (first|refine nX ?_|refine nY (fun K0 hK0=>?_)|refine zSt hs ?_|refine nN hs (fun _ _ hs=>?_)|refine nS hs (fun _ _ hs=>?_)|refine sX hs (fun _ hs=>?_)|(refine hK0 _ _ ?_;clear hK0)|fail)
     refine vC tok mx [0,0,2,0,8,30,63,127,63,319,1023] [false,false,false,true,true,false,false,false,false,true,false] (.first 0 (.first 1 (.first 2 (.first 3 (.first 4 (.first 5 (.alt 6 (.first 7 (.first 8 (.first 9 (.first 10 .done)))) (.alt 8 (.first 6 (.first 7 (.first 9 (.first 10 .done)))) .no)))))))) (by kernel_rfl) ?_
     refine vG (fun K0 hK0=>?_)
     repeat' (first|refine nX ?_|refine nY (fun K0 hK0=>?_)|refine zSt hs ?_|refine nN hs (fun _ _ hs=>?_)|refine nS hs (fun _ _ hs=>?_)|refine sX hs (fun _ hs=>?_)|(refine hK0 _ _ ?_;clear hK0)|fail)
     iterate 4 (
      all_goals try (first
       | refine look_I kt77 (k := [x.fr,x.to]) (hs.get 1 rfl) hM2 rfl ?_
       | refine look_C kt77 (k := [x.fr,x.to]) (hs.get 1 rfl) hM2 rfl ?_
       | refine aI ?_ (aI ?_ trivial)
       | (simp only[putK,vopsT,xk,stepQ,bAt,zS,cstep,qC,Nat.blt];first | refine ment_as kt77 (k := [x.fr,x.to]) hs 1 hM2 (fun _ hs=>?_) | refine ests_as (k := [x.fr,x.to]) (z:=1) hs 1 (fun _ hs=>?_)))
      all_goals try (
       repeat' (first|refine nX ?_|refine nY (fun K0 hK0=>?_)|refine zSt hs ?_|refine nN hs (fun _ _ hs=>?_)|refine nS hs (fun _ _ hs=>?_)|refine sX hs (fun _ hs=>?_)|(refine hK0 _ _ ?_;clear hK0)|fail)
       ))
     all_goals (
      rw[e1] at hs
      exact⟨⟨_,j+1⟩,⟨hlt,hs.pick [1,2,3,4] (by decide) rfl⟩,by dsimp only;omega,Or.inl ⟨⟨rfl,rfl,rfl,rfl,rfl,rfl,rfl,trivial⟩,rfl⟩⟩)
    ·have hF:x.fr=x.to:=by simpa using hc
     rw[if_neg (fun h=>h hF),List.append_nil] at eM
     rw[<- eM] at hs
     clear hc
     repeat' (first|refine nX ?_|refine nY (fun K0 hK0=>?_)|refine zSt hs ?_|refine nN hs (fun _ _ hs=>?_)|refine nS hs (fun _ _ hs=>?_)|refine sX hs (fun _ hs=>?_)|(refine hK0 _ _ ?_;clear hK0)|fail)
     exact⟨⟨_,j+1⟩,⟨hlt,hs.pick [1,2,3,4] (by decide) rfl⟩,by dsimp only;omega,Or.inl ⟨⟨rfl,rfl,rfl,rfl,rfl,rfl,rfl,trivial⟩,rfl⟩⟩
    )
  ·have hJ:x.jn=0:=by simpa using hc
   rw[if_neg (fun h=>h hJ),List.append_nil] at eJ
   rw[<- eJ] at hs
   clear hc
   repeat' (first|refine nX ?_|refine nY (fun K0 hK0=>?_)|refine zSt hs ?_|refine nN hs (fun _ _ hs=>?_)|refine nS hs (fun _ _ hs=>?_)|refine sX hs (fun _ hs=>?_)|(refine hK0 _ _ ?_;clear hK0)|fail)
   refine aI (fun hc=>?_) (fun hc=>?_)
   ·have hF:x.fr≠x.to:=by simpa using hc
    rw[if_pos hF] at eM
    have e1:bump (ctr (incM (S.take j))) [x.fr,x.to] 1=ctr (incM (S.take (j+1))):=by rw[eM,ctr_snoc]
    clear hc
    repeat' (first|refine nX ?_|refine nY (fun K0 hK0=>?_)|refine zSt hs ?_|refine nN hs (fun _ _ hs=>?_)|refine nS hs (fun _ _ hs=>?_)|refine sX hs (fun _ hs=>?_)|(refine hK0 _ _ ?_;clear hK0)|fail)
    refine vC tok mx [0,0,2,0,8,30,63,127,63,319,1023] [false,false,false,true,true,false,false,false,false,true,false] (.first 0 (.first 1 (.first 2 (.first 3 (.first 4 (.first 5 (.alt 6 (.first 7 (.first 8 (.first 9 (.first 10 .done)))) (.alt 8 (.first 6 (.first 7 (.first 9 (.first 10 .done)))) .no)))))))) (by kernel_rfl) ?_
    refine vG (fun K0 hK0=>?_)
    repeat' (first|refine nX ?_|refine nY (fun K0 hK0=>?_)|refine zSt hs ?_|refine nN hs (fun _ _ hs=>?_)|refine nS hs (fun _ _ hs=>?_)|refine sX hs (fun _ hs=>?_)|(refine hK0 _ _ ?_;clear hK0)|fail)
    iterate 4 (
     all_goals try (first
      | refine look_I kt77 (k := [x.fr,x.to]) (hs.get 1 rfl) hM2 rfl ?_
      | refine look_C kt77 (k := [x.fr,x.to]) (hs.get 1 rfl) hM2 rfl ?_
      | refine aI ?_ (aI ?_ trivial)
      | (simp only[putK,vopsT,xk,stepQ,bAt,zS,cstep,qC,Nat.blt];first | refine ment_as kt77 (k := [x.fr,x.to]) hs 1 hM2 (fun _ hs=>?_) | refine ests_as (k := [x.fr,x.to]) (z:=1) hs 1 (fun _ hs=>?_)))
     all_goals try (
      repeat' (first|refine nX ?_|refine nY (fun K0 hK0=>?_)|refine zSt hs ?_|refine nN hs (fun _ _ hs=>?_)|refine nS hs (fun _ _ hs=>?_)|refine sX hs (fun _ hs=>?_)|(refine hK0 _ _ ?_;clear hK0)|fail)
      ))
    all_goals (
     rw[e1] at hs
     exact⟨⟨_,j+1⟩,⟨hlt,hs.pick [1,2,3,4] (by decide) rfl⟩,by dsimp only;omega,Or.inl ⟨⟨rfl,rfl,rfl,rfl,rfl,rfl,rfl,trivial⟩,rfl⟩⟩)
   ·have hF:x.fr=x.to:=by simpa using hc
    rw[if_neg (fun h=>h hF),List.append_nil] at eM
    rw[<- eM] at hs
    clear hc
    repeat' (first|refine nX ?_|refine nY (fun K0 hK0=>?_)|refine zSt hs ?_|refine nN hs (fun _ _ hs=>?_)|refine nS hs (fun _ _ hs=>?_)|refine sX hs (fun _ hs=>?_)|(refine hK0 _ _ ?_;clear hK0)|fail)
    exact⟨⟨_,j+1⟩,⟨hlt,hs.pick [1,2,3,4] (by decide) rfl⟩,by dsimp only;omega,Or.inl ⟨⟨rfl,rfl,rfl,rfl,rfl,rfl,rfl,trivial⟩,rfl⟩⟩
 ·have hje:j=n:=by simp at hc;omega
  subst hje
  rw[List.take_of_length_le (by omega)] at hs
  clear hc hd
  repeat' (first|refine nX ?_|refine nY (fun K0 hK0=>?_)|refine zSt hs ?_|refine nN hs (fun _ _ hs=>?_)|refine nS hs (fun _ _ hs=>?_)|refine sX hs (fun _ hs=>?_)|(refine hK0 _ _ ?_;clear hK0)|fail)
  refine vV (hs.get 1 rfl) ?_
  repeat' (first|refine nX ?_|refine nY (fun K0 hK0=>?_)|refine zSt hs ?_|refine nN hs (fun _ _ hs=>?_)|refine nS hs (fun _ _ hs=>?_)|refine sX hs (fun _ hs=>?_)|(refine hK0 _ _ ?_;clear hK0)|fail)
  rename_i q1 b9 q2 q3 it H5
  clear q1 q2 q3
  have mok:=msg_ok hSl hn hr
  have mlen:=msg_len S
  have hkJ:Lk (incJ S) 1000:=⟨fun x hx=>by have:=incJ_one x hx;omega,by have:=incJ_len S;omega⟩
  change HS H none' [(true,it, .iter (.mapIter (some mM) (msgF S).length #[] (msgF S).length)),(true,b9,_),(true,mM,mpC (msgF S)),_,_,_] H5 at hs
  have hrnd:rdcF s m S = [oneF (msgF S),hopF s m (msgF S),grt noJ (lodF s m S),grt isJ (lodF s m S)]:=rfl
  have hlod:lodF s m S=ctr (incJ S++(msgF S).flatMap (incR s m)):=rfl
  rw[hrnd,hlod] at h
  generalize hM:msgF S=M at hs mok mlen h
  generalize hJ0:incJ S=J0 at hs hkJ h
  clear hrnd hlod hM hJ0 hSe hS hr
  refine qN (α := R2) tok (fun z=>HS H none' [(true,it, .iter (.mapIter (some mM) M.length z.seen.toArray M.length)),(true,b9, .cells true 1 (ints [oneF (z.seen.map (fun i=>M[i]!)),hopF s m (z.seen.map (fun i=>M[i]!)),0,0])),(true,mM,mpC M),(true,mL,mpC (ctr (J0++(z.seen.map (fun i=>M[i]!)).flatMap (incR s m)))),(true,b4, .cells true 1 (ints [0,0,0,0])),(true,b2, .cells true 1 (mcC m b c))] z.H/\z.seen.Nodup/\(∀ y∈z.seen,y<M.length)/\Lk (J0++(z.seen.map (fun i=>M[i]!)).flatMap (incR s m)) (1000+102*z.seen.length))
   (fun z=>[(2, .pointer (some ⟨b2,0,none⟩)),(4, .pointer (some ⟨b4,0,none⟩)),(5, .map (some mL)),(9, .pointer (some ⟨b9,0,none⟩)),(51, .pointer (some ⟨it,0,some 0⟩))]) (fun z=>z.H) (fun z=>M.length-z.seen.length)
   ⟨H5,[]⟩ ⟨by rw[List.map_nil,List.flatMap_nil,List.append_nil];exact hs,List.nodup_nil,fun y hy=>by simp at hy,by rw[List.map_nil,List.flatMap_nil,List.append_nil];exact hkJ⟩ (Or.inl ⟨⟨rfl,rfl,rfl,rfl,rfl,trivial⟩,rfl⟩) ?_
  clear hs
  rintro ⟨H6,seen⟩ ⟨hs,hsn,hsb,hlk⟩
  dsimp only at hs hsn hsb hlk ⊢
  have hsl:=zK hsn (m:=List.range M.length) (fun y hy=>List.mem_range.2 (hsb y hy))
  rw[List.length_range] at hsl
  have hon:=one_snoc (seen.map (fun i=>M[i]!))
  have hhp:=hop_snoc s m (seen.map (fun i=>M[i]!))
  have hfm : ∀ q,q<M.length->((seen ++ [q]).map (fun i=>M[i]!)).flatMap (incR s m)=(seen.map (fun i=>M[i]!)).flatMap (incR s m)++incR s m M[q]! := fun q _=>by simp[List.flatMap_append]
  generalize hA:J0++(seen.map (fun i=>M[i]!)).flatMap (incR s m)=A at hs hlk
  generalize ho0:oneF (seen.map (fun i=>M[i]!))=o0 at hs
  generalize hh0:hopF s m (seen.map (fun i=>M[i]!))=h0 at hs hhp
  repeat' (first|refine nX ?_|refine nY (fun K0 hK0=>?_)|refine zSt hs ?_|refine nN hs (fun _ _ hs=>?_)|refine nS hs (fun _ _ hs=>?_)|refine sX hs (fun _ hs=>?_)|(refine hK0 _ _ ?_;clear hK0)|fail)
  refine wU (hs.get 0 rfl) ?_
  refine vV (hs.get 2 rfl) ⟨nextC_some M seen,fun e he2 hse=>?_,fun hall=>?_⟩
  ·obtain ⟨q,hq,rfl⟩:=mem_entC he2
   have hns:q ∉ seen:=by simpa using hse
   refine wJ (hs.lt 0 rfl) (fun H7 h1 h2 h3=>?_)
   have hs:=hs.set (B' := .iter (.mapIter (some mM) M.length (seen ++ [q]).toArray M.length)) 0 rfl h1 (by rw[h2];simp) h3
   clear h1 h2 h3
   have hsn' : (seen ++ [q]).Nodup:=by
    rw[List.nodup_append]
    exact⟨hsn,by simp,fun a h1 b h2 e=>hns (by simp at h2;rw[<- h2,<- e];exact h1)⟩
   have hsb' : ∀ y∈seen ++ [q],y<M.length:=fun y hy=>by
    rcases List.mem_append.1 hy with h1 | h1
    ·exact hsb y h1
    ·simp at h1;omega
   have hsl' := zK hsn' (m:=List.range M.length) (fun y hy=>List.mem_range.2 (hsb' y hy))
   rw[List.length_range,List.length_append,List.length_singleton] at hsl'
   have hwq:M[q]! = M[q]:=getElem!_pos M q hq
   have hfe:=find_entC hq
   have hmq:=mok _ (List.getElem_mem hq)
   have hon:=hon M[q]!
   have hhp:=hhp M[q]!
   have hfm:=hfm q hq
   rw[show [M[q]!] = [q].map (fun i=>M[i]!) from rfl,<- List.map_append] at hon hhp
   rw[hwq] at hfm hhp
   obtain ⟨⟨key,n0⟩,hkv⟩ : ∃ x,M[q]=x:=⟨_,rfl⟩
   rw[hkv] at hfe hmq hfm hhp ⊢
   obtain ⟨a,b',rfl,ha,hb',hne,hn0⟩:=hmq
   have hrt:=mk.rt ha hb'
   have hpp:=route_pos mk.ok hrt.hx hrt.hy
   change _=some (MapEntry.mk (.agg ⟨[.int .i64 a, .int .i64 b']⟩) (.int .i64 n0) q) at hfe
   dsimp only at hn0
   change ((seen ++ [q]).map _).flatMap _=_++(([1,a,0],n0)::([2,b',0],n0)::chn (wQ s (homF m a) (homF m b')).1 n0 ((wQ s (homF m a) (homF m b')).1.length-1)) at hfm
   change _=max h0 (((wQ s (homF m a) (homF m b')).1.length:Int)-1) at hhp
   repeat' (first|refine nX ?_|refine nY (fun K0 hK0=>?_)|refine zSt hs ?_|refine nN hs (fun _ _ hs=>?_)|refine nS hs (fun _ _ hs=>?_)|refine sX hs (fun _ hs=>?_)|(refine hK0 _ _ ?_;clear hK0)|fail)
   refine wU (hs.get 0 rfl) ?_
   refine vV (hs.get 2 rfl) ⟨rfl,q,by simp,_,hfe, ?_⟩
   repeat' (first|refine nX ?_|refine nY (fun K0 hK0=>?_)|refine zSt hs ?_|refine nN hs (fun _ _ hs=>?_)|refine nS hs (fun _ _ hs=>?_)|refine sX hs (fun _ hs=>?_)|(refine hK0 _ _ ?_;clear hK0)|fail)
   refine qZ tok mx [0,1,0,0,8,28,0,0,128,508,1023,2047,4095,4095,8191,32767] [false,false,true,true,true,true,true,true,true,true,false,false,false,false,false,false] [0,1,2,3,4,6,7,8,5,9,10,11,12,13,14,15] (by kernel_rfl) ?_
   refine zl (fun K0 hK0=>?_)
   repeat' (first|refine nX ?_|refine nY (fun K0 hK0=>?_)|refine zSt hs ?_|refine nN hs (fun _ _ hs=>?_)|refine nS hs (fun _ _ hs=>?_)|refine sX hs (fun _ hs=>?_)|(refine hK0 _ _ ?_;clear hK0)|fail)
   refine c100x (g.up (qJ hs)) mk ha ?_
   repeat' (first|refine nX ?_|refine nY (fun K0 hK0=>?_)|refine zSt hs ?_|refine nN hs (fun _ _ hs=>?_)|refine nS hs (fun _ _ hs=>?_)|refine sX hs (fun _ hs=>?_)|(refine hK0 _ _ ?_;clear hK0)|fail)
   refine c100x (g.up (qJ hs)) mk hb' ?_
   repeat' (first|refine nX ?_|refine nY (fun K0 hK0=>?_)|refine zSt hs ?_|refine nN hs (fun _ _ hs=>?_)|refine nS hs (fun _ _ hs=>?_)|refine sX hs (fun _ hs=>?_)|(refine hK0 _ _ ?_;clear hK0)|fail)
   refine c99 (g.up (qJ hs)) mk hrt (fun H8 kp ys cp2 hn2 hyt=>?_)
   have hs:=hs.call hn2 rfl
   clear hn2
   generalize hP:(wQ s (homF m a) (homF m b')).1=P at hfm hhp hpp hyt ⊢
   repeat' (first|refine nX ?_|refine nY (fun K0 hK0=>?_)|refine zSt hs ?_|refine nN hs (fun _ _ hs=>?_)|refine nS hs (fun _ _ hs=>?_)|refine sX hs (fun _ hs=>?_)|(refine hK0 _ _ ?_;clear hK0)|fail)
   have hs:=hs.pick [0,1,2,3,4,5,6,7] (by decide) (L' := [(true,kp,rw' ys),(true,_, .cells true 1 (ints [a,b'])),(true,it, .iter (.mapIter (some mM) M.length (seen ++ [q]).toArray M.length)),(true,b9, .cells true 1 (ints [1,max h0 ((P.length:Int)-1),0,0])),(true,mM,mpC M),(true,mL,mpC (ctr A)),(true,b4, .cells true 1 (ints [0,0,0,0])),(true,b2, .cells true 1 (mcC m b c))]) rfl
   rw[show ints [1,max h0 ((P.length:Int)-1),0,0]=ints [oneF ((seen ++ [q]).map (fun i=>M[i]!)),hopF s m ((seen ++ [q]).map (fun i=>M[i]!)),0,0] by rw[hon,hhp]] at hs
   have hl1:=hlk.snoc (k := [1,a,0]) rfl hn0
   have hl2:=hl1.snoc (k := [2,b',0]) rfl hn0
   have c1:=hlk.bnd [1,a,0]
   have c2:=hl1.bnd [2,b',0]
   have e1:=ctr_snoc A [1,a,0] n0
   have e2:=ctr_snoc (A ++ [([1,a,0],n0)]) [2,b',0] n0
   have g1:=hlk.len
   have g2:=hl1.len
   have eA:J0++((seen ++ [q]).map (fun i=>M[i]!)).flatMap (incR s m)=A ++ [([1,a,0],n0)] ++ [([2,b',0],n0)]++chn P n0 (P.length-1):=by rw[hfm,<- hA];simp
   refine vC tok mx [0,0,2,6,15,0,63,47,175,511] [false,false,false,false,false,true,false,false,true,false] (.first 0 (.first 1 (.first 2 (.first 3 (.first 5 (.alt 4 (.first 6 (.first 7 (.first 8 (.first 9 .done)))) (.alt 7 (.first 4 (.first 6 (.first 8 (.first 9 .done)))) .no))))))) (by kernel_rfl) ?_
   refine vG (fun K0 hK0=>?_)
   repeat' (first|refine nX ?_|refine nY (fun K0 hK0=>?_)|refine zSt hs ?_|refine nN hs (fun _ _ hs=>?_)|refine nS hs (fun _ _ hs=>?_)|refine sX hs (fun _ hs=>?_)|(refine hK0 _ _ ?_;clear hK0)|fail)
   iterate 4 (
    all_goals try (first
     | refine look_I kt191 (k := [1,a,0]) (hs.get 5 rfl) g1 rfl ?_
     | refine look_C kt191 (k := [1,a,0]) (hs.get 5 rfl) g1 rfl ?_
     | refine aI ?_ (aI ?_ trivial)
     | (simp only[putK,vopsT,xk,stepQ,bAt,zS,cstep,qC,Nat.blt];first | refine ment_as kt191 (k := [1,a,0]) hs 5 g1 (fun _ hs=>?_) | refine ests_as (k := [1,a,0]) (z:=n0) hs 5 (fun _ hs=>?_)))
    all_goals try (
     repeat' (first|refine nX ?_|refine nY (fun K0 hK0=>?_)|refine zSt hs ?_|refine nN hs (fun _ _ hs=>?_)|refine nS hs (fun _ _ hs=>?_)|refine sX hs (fun _ hs=>?_)|(refine hK0 _ _ ?_;clear hK0)|fail)
     ))
   all_goals (
    rw[<- e1] at hs
    refine vC tok mx [0,0,2,6,15,0,63,47,175,511] [false,false,false,false,false,true,false,false,true,false] (.first 0 (.first 1 (.first 2 (.first 3 (.first 5 (.alt 4 (.first 6 (.first 7 (.first 8 (.first 9 .done)))) (.alt 7 (.first 4 (.first 6 (.first 8 (.first 9 .done)))) .no))))))) (by kernel_rfl) ?_
    refine vG (fun K0 hK0=>?_)
    repeat' (first|refine nX ?_|refine nY (fun K0 hK0=>?_)|refine zSt hs ?_|refine nN hs (fun _ _ hs=>?_)|refine nS hs (fun _ _ hs=>?_)|refine sX hs (fun _ hs=>?_)|(refine hK0 _ _ ?_;clear hK0)|fail)
    iterate 4 (
     all_goals try (first
      | refine look_I kt191 (k := [2,b',0]) (hs.get 5 rfl) g2 rfl ?_
      | refine look_C kt191 (k := [2,b',0]) (hs.get 5 rfl) g2 rfl ?_
      | refine aI ?_ (aI ?_ trivial)
      | (simp only[putK,vopsT,xk,stepQ,bAt,zS,cstep,qC,Nat.blt];first | refine ment_as kt191 (k := [2,b',0]) hs 5 g2 (fun _ hs=>?_) | refine ests_as (k := [2,b',0]) (z:=n0) hs 5 (fun _ hs=>?_)))
     all_goals try (
      repeat' (first|refine nX ?_|refine nY (fun K0 hK0=>?_)|refine zSt hs ?_|refine nN hs (fun _ _ hs=>?_)|refine nS hs (fun _ _ hs=>?_)|refine sX hs (fun _ hs=>?_)|(refine hK0 _ _ ?_;clear hK0)|fail)
      ))
    )
   all_goals rw[<- e2] at hs
   all_goals clear g1 g2 c1 c2 e1 e2
   all_goals (
    generalize hA2:A ++ [([1,a,0],n0)] ++ [([2,b',0],n0)]=A2 at hs hl2 eA
    refine qN (α := R3) tok (fun z=>HS H none' [(true,kp,rw' ys),(true,it, .iter (.mapIter (some mM) M.length (seen ++ [q]).toArray M.length)),(true,b9, .cells true 1 (ints [oneF ((seen ++ [q]).map (fun i=>M[i]!)),hopF s m ((seen ++ [q]).map (fun i=>M[i]!)),0,0])),(true,mM,mpC M),(true,mL,mpC (ctr (A2++chn P n0 z.i))),(true,b4, .cells true 1 (ints [0,0,0,0])),(true,b2, .cells true 1 (mcC m b c))] z.H/\z.i<=P.length-1/\Lk (A2++chn P n0 z.i) (1000+102*seen.length+1+1+z.i))
     (fun z=>[(2, .pointer (some ⟨b2,0,none⟩)),(4, .pointer (some ⟨b4,0,none⟩)),(5, .map (some mL)),(9, .pointer (some ⟨b9,0,none⟩)),(11, .int .i64 n0),(12, .slice (some ⟨kp,0,none⟩) P.length cp2),(51, .pointer (some ⟨it,0,some 0⟩)),(99, .int .i64 ((P.length:Int)-1)),(100, .int .i64 (z.i:Int))]) (fun z=>z.H) (fun z=>P.length-1-z.i)
     ⟨_,0⟩ ⟨by rw[show chn P n0 0 = [] from rfl,List.append_nil];exact hs.pick [0,2,3,4,5,6,7] (by decide) rfl,Nat.zero_le _,by rw[show chn P n0 0 = [] from rfl,List.append_nil];exact hl2⟩ (Or.inl ⟨⟨rfl,rfl,rfl,rfl,rfl,rfl,rfl,rfl,rfl,trivial⟩,rfl⟩) ?_
    clear hs hl2
    rintro ⟨H9,i⟩ ⟨hs,hi,hl3⟩
    dsimp only at hs hi hl3 ⊢
    have hcs:=chn_succ P n0 i
    generalize hA3:A2++chn P n0 i=A3 at hs hl3
    repeat' (first|refine nX ?_|refine nY (fun K0 hK0=>?_)|refine zSt hs ?_|refine nN hs (fun _ _ hs=>?_)|refine nS hs (fun _ _ hs=>?_)|refine sX hs (fun _ hs=>?_)|(refine hK0 _ _ ?_;clear hK0)|fail)
    refine aI (fun hc=>?_) (fun hc=>?_)
    ·have hip:i<P.length-1:=by simp at hc;omega
     clear hc
     have hyl:P.length<=ys.length:=by rw[<- hyt,List.length_take];omega
     have r1:(ints ys)[i]? = some (.int .i64 P[i]!):=by rw[ve,<- take_at hyt (by omega)];rfl
     have r2:(ints ys)[i+1]? = some (.int .i64 P[i+1]!):=by rw[ve,<- take_at hyt (by omega)];rfl
     have g3:=hl3.len
     have c3:=hl3.bnd [0,P[i]!,P[i+1]!]
     have e3:=ctr_snoc A3 [0,P[i]!,P[i+1]!] n0
     have hl4:=hl3.snoc (k := [0,P[i]!,P[i+1]!]) rfl hn0
     have eA4:A3 ++ [([0,P[i]!,P[i+1]!],n0)]=A2++chn P n0 (i+1):=by rw[hcs,<- hA3,List.append_assoc]
     repeat' (first|refine nX ?_|refine nY (fun K0 hK0=>?_)|refine zSt hs ?_|refine nN hs (fun _ _ hs=>?_)|refine nS hs (fun _ _ hs=>?_)|refine sX hs (fun _ hs=>?_)|(refine hK0 _ _ ?_;clear hK0)|fail)
     refine vC tok mx [0,0,0,6,14,0,0,64,224,480,1022,2047,0,8191,6143,22527,65535] [false,false,false,false,false,true,true,true,true,true,false,false,true,false,false,true,false] (.first 0 (.first 1 (.first 2 (.first 3 (.first 4 (.first 5 (.first 6 (.first 7 (.first 8 (.first 9 (.first 10 (.first 12 (.alt 11 (.first 13 (.first 14 (.first 15 (.first 16 .done)))) (.alt 14 (.first 11 (.first 13 (.first 15 (.first 16 .done)))) .no)))))))))))))) (by kernel_rfl) ?_
     refine vG (fun K0 hK0=>?_)
     repeat' (first|refine nX ?_|refine nY (fun K0 hK0=>?_)|refine zSt hs ?_|refine nN hs (fun _ _ hs=>?_)|refine nS hs (fun _ _ hs=>?_)|refine sX hs (fun _ hs=>?_)|(refine hK0 _ _ ?_;clear hK0)|fail)
     refine Ld_of r1 ?_
     repeat' (first|refine nX ?_|refine nY (fun K0 hK0=>?_)|refine zSt hs ?_|refine nN hs (fun _ _ hs=>?_)|refine nS hs (fun _ _ hs=>?_)|refine sX hs (fun _ hs=>?_)|(refine hK0 _ _ ?_;clear hK0)|fail)
     refine aI (show i+1<P.length by omega) ?_
     repeat' (first|refine nX ?_|refine nY (fun K0 hK0=>?_)|refine zSt hs ?_|refine nN hs (fun _ _ hs=>?_)|refine nS hs (fun _ _ hs=>?_)|refine sX hs (fun _ hs=>?_)|(refine hK0 _ _ ?_;clear hK0)|fail)
     refine Ld_of r2 ?_
     repeat' (first|refine nX ?_|refine nY (fun K0 hK0=>?_)|refine zSt hs ?_|refine nN hs (fun _ _ hs=>?_)|refine nS hs (fun _ _ hs=>?_)|refine sX hs (fun _ hs=>?_)|(refine hK0 _ _ ?_;clear hK0)|fail)
     iterate 4 (
      all_goals try (first
       | refine look_I kt191 (k := [0,P[i]!,P[i+1]!]) (hs.get 4 rfl) g3 rfl ?_
       | refine look_C kt191 (k := [0,P[i]!,P[i+1]!]) (hs.get 4 rfl) g3 rfl ?_
       | refine aI ?_ (aI ?_ trivial)
       | (simp only[putK,vopsT,xk,stepQ,bAt,zS,cstep,qC,Nat.blt];first | refine ment_as kt191 (k := [0,P[i]!,P[i+1]!]) hs 4 g3 (fun _ hs=>?_) | refine ests_as (k := [0,P[i]!,P[i+1]!]) (z:=n0) hs 4 (fun _ hs=>?_)))
      all_goals try (
       repeat' (first|refine nX ?_|refine nY (fun K0 hK0=>?_)|refine zSt hs ?_|refine nN hs (fun _ _ hs=>?_)|refine nS hs (fun _ _ hs=>?_)|refine sX hs (fun _ hs=>?_)|(refine hK0 _ _ ?_;clear hK0)|fail)
       ))
     all_goals (
      rw[<- e3,eA4] at hs
      exact⟨⟨_,i+1⟩,⟨hs,by dsimp only;omega,by rw[<- eA4];exact hl4⟩,by dsimp only;omega,Or.inl ⟨⟨rfl,rfl,rfl,rfl,rfl,rfl,rfl,rfl,rfl,trivial⟩,rfl⟩⟩)
    ·have hie:i=P.length-1:=by simp at hc;omega
     subst hie
     clear hc
     rw[hA3] at eA
     rw[<- eA] at hs hl3
     repeat' (first|refine nX ?_|refine nY (fun K0 hK0=>?_)|refine zSt hs ?_|refine nN hs (fun _ _ hs=>?_)|refine nS hs (fun _ _ hs=>?_)|refine sX hs (fun _ hs=>?_)|(refine hK0 _ _ ?_;clear hK0)|fail)
     exact⟨⟨_,seen ++ [q]⟩,⟨hs.pick [1,2,3,4,5,6] (by decide) rfl,hsn',hsb',hl3.k,by have:=hl3.l;simp only[List.length_append,List.length_singleton] at this ⊢; omega⟩,by dsimp only;rw[List.length_append,List.length_singleton];omega,Or.inl ⟨⟨rfl,rfl,rfl,rfl,rfl,trivial⟩,rfl⟩⟩
    )
  ·have hfull : ∀ y,y<M.length->y∈seen:=fun y hy=>by
    have:=hall _ (entC_mem hy) (by dsimp only;exact hy)
    simpa using this
   have hpm:=seen_all hsn hsb hfull
   rw[one_perm hpm] at ho0
   rw[hop_perm hpm] at hh0
   have hLp:(ctr A).Perm (ctr (J0++M.flatMap (incR s m))):=by rw[<- hA];exact ctr_perm ((List.Perm.flatMap_right _ hpm).append_left _)
   rw[ho0,hh0,<- grt_perm hLp,<- grt_perm hLp] at h
   repeat' (first|refine nX ?_|refine nY (fun K0 hK0=>?_)|refine zSt hs ?_|refine nN hs (fun _ _ hs=>?_)|refine nS hs (fun _ _ hs=>?_)|refine sX hs (fun _ hs=>?_)|(refine hK0 _ _ ?_;clear hK0)|fail)
   refine c101 (p:=noJ) (hs.get 3 rfl) hlk.len (fun H k a b R' h=>c102 h) (fun H7 hn2=>?_)
   have hs:=vT hs hn2
   clear hn2
   repeat' (first|refine nX ?_|refine nY (fun K0 hK0=>?_)|refine zSt hs ?_|refine nN hs (fun _ _ hs=>?_)|refine nS hs (fun _ _ hs=>?_)|refine sX hs (fun _ hs=>?_)|(refine hK0 _ _ ?_;clear hK0)|fail)
   refine c101 (p:=isJ) (hs.get 3 rfl) hlk.len (fun H k a b R' h=>c103 h) (fun H8 hn2=>?_)
   have hs:=vT hs hn2
   clear hn2
   repeat' (first|refine nX ?_|refine nY (fun K0 hK0=>?_)|refine zSt hs ?_|refine nN hs (fun _ _ hs=>?_)|refine nS hs (fun _ _ hs=>?_)|refine sX hs (fun _ hs=>?_)|(refine hK0 _ _ ?_;clear hK0)|fail)
   change resK T _ _ _ _
   refine resK_agg (by rfl) (by rfl) (hs.get 4 rfl) (by rfl) ?_
   refine⟨_,rfl,_,rfl,_,rfl,_,rfl, ?_⟩
   exact h _ (qJ hs)
end Go.Af.Tryz
