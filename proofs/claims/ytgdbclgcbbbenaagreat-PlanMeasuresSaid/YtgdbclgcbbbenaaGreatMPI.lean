/-
  What the steps of a round cost: the reference's round.
-/
import Derived.Test.YtgdbclgcbbbenaaGreatMPH
import Derived.Test.YtgdbclgcbbbenaaGreatMPE
import Derived.Test.YtgdbclgcbbbenaaGreatMCA
set_option linter.all false
namespace Go.Af.Tryz
open Go Go.Proofs Go.Af.Pl Co Ne
open Go.Af.Coll (St)
set_option maxRecDepth 100000
set_option maxHeartbeats 4000000
attribute [local irreducible] awp qj qm qP qH qJ isCells qA qx qZ qX qI roundEnd wZ wO keyK vZ wP wW

structure Lp (xs:Ctr) (N:Nat):Prop where
 k : ∀ x∈xs,x.1.length=2/\0<=x.2/\x.2<=1000
 l:xs.length<=N
theorem ctr_len (xs:Ctr):(ctr xs).length<=xs.length:=by
 have h : ∀ (xs l:Ctr),(add l xs).length<=l.length+xs.length:=by
  intro xs
  induction xs with
  | nil=>intro l;simp[add]
  | cons x xs ih =>
    intro l
    have h1:=ih (bump l x.1 x.2)
    have h2:(bump l x.1 x.2).length<=l.length+1:=by
     have e:=congrArg List.length (bump_keys x.1 x.2 l)
     rw[List.length_map] at e
     rw[e]
     split <;> simp
    show (add (bump l x.1 x.2) xs).length<=_
    rw[List.length_cons]
    omega
 have:=h xs []
 rw[List.length_nil] at this
 show (add [] xs).length<=_
 omega
theorem Lp.len {xs:Ctr} {N:Nat} (h:Lp xs N) : ∀ x∈ctr xs,x.1.length=2:=add_all (P:=fun k=>k.length=2) (fun y hy=>(h.k y hy).1)
theorem Lp.cl {xs:Ctr} {N:Nat} (h:Lp xs N) (hN:N<=1000000):(ctr xs).length<=1000000:=Nat.le_trans (ctr_len xs) (Nat.le_trans h.l hN)
theorem Lp.bnd {xs:Ctr} {N:Nat} (h:Lp xs N) (hN:N<=1000000) : ∀ x∈ctr xs,0<=x.2/\x.2<=1000000000000:=fun x hx=>by
 obtain ⟨k,v⟩:=x
 have h2:=((mem_cnt (zh _) k v).1 hx).2
 have h3:=ctr_bound (xs:=xs) (B:=1000) (fun x hx=>(h.k x hx).2) k
 have h4:=h.l
 have h5:(xs.length:Int)*1000<=1000000*1000:=by omega
 dsimp only
 omega
theorem lp_M (l:List St):Lp (incM l) l.length:=⟨fun x hx=>by
 obtain ⟨y,_,e,_⟩:=incM_one x hx
 rw[e];exact⟨rfl,Int.zero_le_ofNat 1,by omega⟩,incM_len l⟩
theorem lp_two {l:List St} {f:St->Int} {p:St->Bool}:Lp ((l.filter p).map (fun x=>([f x,0],1))) l.length:=⟨fun x hx=>by
 obtain ⟨y,_,rfl⟩:=List.mem_map.1 hx
 exact⟨rfl,Int.zero_le_ofNat 1,by omega⟩,by rw[List.length_map];exact List.length_filter_le _ _⟩
theorem incS_snoc (l:List St) (x:St):incS (l ++ [x])=incS l++if x.fr≠x.to then [([x.fr,0],1)] else []:=by
 unfold incS
 rw[List.filter_append,List.map_append]
 by_cases h:x.fr=x.to <;> simp[h]
theorem incG_snoc (l:List St) (x:St):incG (l ++ [x])=incG l++if x.fr≠x.to then [([x.to,0],1)] else []:=by
 unfold incG
 rw[List.filter_append,List.map_append]
 by_cases h:x.fr=x.to <;> simp[h]
theorem incT_snoc (l:List St) (x:St):incT (l ++ [x])=incT l++if x.jn≠0 then [([x.to,0],1)] else []:=by
 unfold incT
 rw[List.filter_append,List.map_append]
 by_cases h:x.jn=0 <;> simp[h]
theorem lp_S (l:List St):Lp (incS l) l.length:=by unfold incS;exact lp_two
theorem lp_G (l:List St):Lp (incG l) l.length:=by unfold incG;exact lp_two
theorem lp_T (l:List St):Lp (incT l) l.length:=by unfold incT;exact lp_two
structure T1 where
 H:List Blk
 i:Nat
 k6:Nat
 k8:Nat
 k9:Nat
 k10:Nat
structure T2 where
 H:List Blk
 j:Nat
 k7:Nat
structure T3 where
 H:List Blk
 i:Nat
 k7:Nat
theorem lp_C {m:Mc} {s:Sh} (mk:McOk m s) {M:Ctr} (mok : ∀ x∈M, ∃ a b,x.1 = [a,b]/\(0<=a/\a<m.hs.length)/\(0<=b/\b<m.hs.length)/\a≠b/\0<=x.2/\x.2<=1000) (j:Nat):Lp ((M.take j).flatMap (incC s m)) (100*(M.take j).length):=by
 have mok' : ∀ x∈M.take j, ∃ a b,x.1 = [a,b]/\(0<=a/\a<m.hs.length)/\(0<=b/\b<m.hs.length)/\a≠b/\0<=x.2/\x.2<=1000:=fun x hx=>mok x (List.mem_of_mem_take hx)
 generalize M.take j=M' at mok' ⊢
 refine⟨fun x hx=>?_, ?_⟩
 ·obtain ⟨y,hy,hx⟩:=List.mem_flatMap.1 hx
  obtain ⟨a,b,_,_,_,_,h1⟩:=mok' y hy
  obtain ⟨i,_,rfl⟩:=List.mem_map.1 hx
  exact⟨rfl,h1⟩
 ·clear mok
  induction M' with
  | nil=>simp
  | cons y M' ih =>
    rw[List.flatMap_cons,List.length_append,List.length_cons]
    have:=ih (fun x hx=>mok' x (List.mem_cons_of_mem _ hx))
    obtain ⟨a,b,e,h1,h2,_,_⟩:=mok' y List.mem_cons_self
    have hp:=xN mk.ok (mk.rt h1 h2).hx (mk.rt h1 h2).hy
    have:(incC s m y).length<=100:=by
     unfold incC chn2 pthF
     rw[List.length_map,List.length_range,e]
     have:(wz s (homF m ([a,b]:List Int)[0]!) (homF m ([a,b]:List Int)[1]!)).1.length=(wz s (homF m a) (homF m b)).1.length:=rfl
     omega
    omega
theorem hop_in {m:Mc} {s:Sh} (mk:McOk m s) {M:Ctr} (mok : ∀ x∈M, ∃ a b,x.1 = [a,b]/\(0<=a/\a<m.hs.length)/\(0<=b/\b<m.hs.length)/\a≠b/\0<=x.2/\x.2<=1000):0<=hopF s m M/\hopF s m M<=1000:=by
 have key : ∀ (l:Ctr) (n:Int),0<=n/\n<=1000->(∀ x∈l,1<=(pthF s m x.1).length/\(pthF s m x.1).length<=100)->0<=l.foldl (fun z x=>max z (((pthF s m x.1).length:Int)-1)) n/\l.foldl (fun z x=>max z (((pthF s m x.1).length:Int)-1)) n<=1000:=by
  intro l
  induction l with
  | nil=>intro n hn _;exact hn
  | cons x l ih =>
    intro n hn h
    have:=h x List.mem_cons_self
    refine ih _ ?_ (fun y hy=>h y (List.mem_cons_of_mem _ hy))
    dsimp only
    omega
 refine key M 0 (by omega) (fun x hx=>?_)
 obtain ⟨a,b,e,h1,h2,_,_⟩:=mok x hx
 have hp:=xN mk.ok (mk.rt h1 h2).hx (mk.rt h1 h2).hy
 unfold pthF
 rw[e]
 exact hp
theorem chn2_succ (p:List Int) (n:Int) (k:Nat):chn2 p n (k+1)=chn2 p n k ++ [([p[k]!,p[k+1]!],n)]:=by simp[chn2,List.range_succ]
theorem lp_chn {A:Ctr} {N:Nat} {n0:Int} {P:List Int} (h:Lp A N) (hn:0<=n0/\n0<=1000) (i:Nat):Lp (A++chn2 P n0 i) (N+i):=by
 refine⟨fun x hx=>?_, ?_⟩
 ·rcases List.mem_append.1 hx with h1 | h1
  ·exact h.k x h1
  ·obtain ⟨q,_,rfl⟩:=List.mem_map.1 h1
   exact⟨rfl,hn⟩
 ·have:=h.l
  rw[List.length_append]
  simp[chn2]
  omega
abbrev zer5:List Value:=ints [0,0,0,0,0]
abbrev rdL (m:Mc) (b c b2 b4 b5 k6 k7 k8 k9 k10:Nat) (M C S G J:Ctr) (t:List Int):List (Bool × Nat × Blk) :=
 [(true,k6,loB M),(true,k7,loB C),(true,k8,loB S),(true,k9,loB G),(true,k10,loB J),(true,b5, .cells true 1 (ints t)),(true,b4, .cells true 1 zer5),(true,b2, .cells true 1 (mcC m b c))]
theorem c55 {H:List Blk} {m:Mc} {s:Sh} {l:List St} {b c d:Nat} {R:Value->List Blk->Prop} (g:Mr H m b c) (mk:McOk m s) (hst:Sts H l d) (hn:l.length<=1000) (hr : ∀ x∈l,(0<=x.fr/\x.fr<m.hs.length)/\(0<=x.to/\x.to<m.hs.length))
 (hpr:(0<=m.st/\m.st<=1000000)/\(0<=m.hp/\m.hp<=1000000)/\(0<=m.wd/\m.wd<=1000000)/\(0<=m.jn/\m.jn<=1000000))
 (h : ∀ H',HS H none' [] H' -> R (.agg ⟨ints (totF m (rdcF s m l))⟩) H'):qj Tryz.prog 55 [mcV m b c,sv d l.length] H R:=by
 obtain ⟨w1,hd0⟩:=hst.s
 refine qc tok Tryz.call55 Tryz.func55 rfl Tryz.ntmps55 rfl (by simp) ?_
 have hs:=HS.start H none'
 repeat' (first|refine nX ?_|refine nY (fun K0 hK0=>?_)|refine zSt hs ?_|refine nN hs (fun _ _ hs=>?_)|refine nS hs (fun _ _ hs=>?_)|refine sX hs (fun _ hs=>?_)|(refine hK0 _ _ ?_;clear hK0)|fail)
 rename_i b2 H1 _ b4 H2 _ _ b5 H3 _
 refine yC (α := T1) tok (fun z=>HS H none' (rdL m b c b2 b4 b5 z.k6 (H3.length+1) z.k8 z.k9 z.k10 (ctr (incM (l.take z.i))) [] (ctr (incS (l.take z.i))) (ctr (incG (l.take z.i))) (ctr (incT (l.take z.i))) [0,0,0,0,0]) z.H/\z.i<=l.length)
  (fun z=>[(1,sv d l.length),(2, .pointer (some ⟨b2,0,none⟩)),(4, .pointer (some ⟨b4,0,none⟩)),(5, .pointer (some ⟨b5,0,none⟩)),(6,sv z.k6 (ctr (incM (l.take z.i))).length),(7,sv (H3.length+1) 0),(8,sv z.k8 (ctr (incS (l.take z.i))).length),(9,sv z.k9 (ctr (incG (l.take z.i))).length),(10,sv z.k10 (ctr (incT (l.take z.i))).length),(11, .int .i64 z.i)]) (fun z=>z.H) (fun z=>l.length-z.i)
  ⟨H3 ++ [loB []] ++ [loB []] ++ [loB []] ++ [loB []] ++ [loB []],0,H3.length,H3.length+2,H3.length+3,H3.length+4⟩ ⟨?_,Nat.zero_le _⟩
  ⟨⟨_,rfl, .rfl⟩,⟨_,rfl, .rfl⟩,⟨_,rfl, .rfl⟩,⟨_,rfl, .rfl⟩,⟨_,rfl,WkV.nil _⟩,⟨_,rfl,WkV.nil _⟩,⟨_,rfl,WkV.nil _⟩,⟨_,rfl,WkV.nil _⟩,⟨_,rfl,WkV.nil _⟩,⟨_,rfl, .rfl⟩,trivial⟩ (((((WkH.rfl.app _).app _).app _).app _).app _) ?_
 ·have h1:=((((hs.virt (loB [])).virt (loB [])).virt (loB [])).virt (loB [])).virt (loB [])
  simp only[List.length_append,List.length_cons,List.length_nil,Nat.zero_add,Nat.add_assoc,Nat.reduceAdd] at h1
  exact h1.pick [4,3,2,1,0,5,6,7] (by decide) rfl
 clear hs
 rintro ⟨H4,i,k6,k8,k9,k10⟩ ⟨hs,hi⟩
 dsimp only at hs hi ⊢
 have hd:=vK (qf hs) hd0
 repeat' (first|refine nX ?_|refine nY (fun K0 hK0=>?_)|refine zSt hs ?_|refine nN hs (fun _ _ hs=>?_)|refine nS hs (fun _ _ hs=>?_)|refine sX hs (fun _ hs=>?_)|(refine hK0 _ _ ?_;clear hK0)|fail)
 refine aI (fun hc=>?_) (fun hc=>?_)
 ·have hlt:i<l.length:=by simp at hc;omega
  clear hc
  have htk:l.take (i+1)=l.take i ++ [l[i]!]:=by rw[List.take_succ_eq_append_getElem hlt,getElem!_pos l i hlt]
  have hx:=hr l[i]! (by rw[getElem!_pos l i hlt];exact List.getElem_mem _)
  have hM:=lp_M (l.take i)
  have hS:=lp_S (l.take i)
  have hG:=lp_G (l.take i)
  have hT:=lp_T (l.take i)
  have hti:(l.take i).length<=1000000:=by rw[List.length_take];omega
  have eM:=incM_snoc (l.take i) l[i]!
  have eS:=incS_snoc (l.take i) l[i]!
  have eG:=incG_snoc (l.take i) l[i]!
  have eT:=incT_snoc (l.take i) l[i]!
  rw[<- htk] at eM eS eG eT
  repeat' (first|refine nX ?_|refine nY (fun K0 hK0=>?_)|refine zSt hs ?_|refine nN hs (fun _ _ hs=>?_)|refine nS hs (fun _ _ hs=>?_)|refine sX hs (fun _ hs=>?_)|(refine hK0 _ _ ?_;clear hK0)|fail)
  refine qi hd ⟨i,rfl,hlt, ?_⟩
  repeat' (first|refine nX ?_|refine nY (fun K0 hK0=>?_)|refine zSt hs ?_|refine nN hs (fun _ _ hs=>?_)|refine nS hs (fun _ _ hs=>?_)|refine sX hs (fun _ hs=>?_)|(refine hK0 _ _ ?_;clear hK0)|fail)
  refine ql hd ?_
  refine seg_st hlt ?_
  generalize l[i]! = x at hx eM eS eG eT ⊢
  generalize l.take i=S at hM hS hG hT hti eM eS eG eT hs ⊢
  obtain ⟨S',hS'⟩ : ∃ S',l.take (i+1)=S' := ⟨_,rfl⟩
  rw[hS'] at eM eS eG eT
  repeat' (first|refine nX ?_|refine nY (fun K0 hK0=>?_)|refine zSt hs ?_|refine nN hs (fun _ _ hs=>?_)|refine nS hs (fun _ _ hs=>?_)|refine sX hs (fun _ hs=>?_)|(refine hK0 _ _ ?_;clear hK0)|fail)
  rename_i b12 _ _ _
  have hs:HS H none' ((true,b12, .cells true 1 (stC x))::rdL m b c b2 b4 b5 k6 (H3.length+1) k8 k9 k10 (ctr (incM S)) [] (ctr (incS S)) (ctr (incG S)) (ctr (incT S)) [0,0,0,0,0]) _:=hs
  refine aI (fun hc=>?_) (fun hc=>?_)
  ·have hj:x.jn≠0:=by simpa using hc
   rw[if_pos hj] at eT
   have eb:bump (ctr (incT S)) [x.to,0] 1=ctr (incT S'):=by rw[eT,wX]
   clear hc
   repeat' (first|refine nX ?_|refine nY (fun K0 hK0=>?_)|refine zSt hs ?_|refine nN hs (fun _ _ hs=>?_)|refine nS hs (fun _ _ hs=>?_)|refine sX hs (fun _ hs=>?_)|(refine hK0 _ _ ?_;clear hK0)|fail)
   refine g105 hT.len (hT.cl hti) (hT.bnd hti) ⟨by decide,by decide⟩ (hs.pick [5,0,1,2,3,4,6,7,8] (by decide) rfl (L' := [(true,k10,loB (ctr (incT S))),(true,b12, .cells true 1 (stC x)),(true,k6,loB (ctr (incM S))),(true,H3.length+1,loB []),(true,k8,loB (ctr (incS S))),(true,k9,loB (ctr (incG S))),(true,b5, .cells true 1 (ints [0,0,0,0,0])),(true,b4, .cells true 1 zer5),(true,b2, .cells true 1 (mcC m b c))])) (fun H6 k10 hs=>?_)
   rw[eb] at hs ⊢
   have hs:=hs.pick [1,2,3,4,5,0,6,7,8] (by decide) rfl (L' := (true,b12, .cells true 1 (stC x))::rdL m b c b2 b4 b5 k6 (H3.length+1) k8 k9 k10 (ctr (incM S)) [] (ctr (incS S)) (ctr (incG S)) (ctr (incT S')) [0,0,0,0,0])
   repeat' (first|refine nX ?_|refine nY (fun K0 hK0=>?_)|refine zSt hs ?_|refine nN hs (fun _ _ hs=>?_)|refine nS hs (fun _ _ hs=>?_)|refine sX hs (fun _ hs=>?_)|(refine hK0 _ _ ?_;clear hK0)|fail)
   refine aI (fun hc=>?_) (fun hc=>?_)
   ·have hF:x.fr≠x.to:=by simpa using hc
    rw[if_pos hF] at eM eS eG
    have eb6:bump (ctr (incM S)) [x.fr,x.to] 1=ctr (incM S'):=by rw[eM,wX]
    have eb8:bump (ctr (incS S)) [x.fr,0] 1=ctr (incS S'):=by rw[eS,wX]
    have eb9:bump (ctr (incG S)) [x.to,0] 1=ctr (incG S'):=by rw[eG,wX]
    clear hc
    repeat' (first|refine nX ?_|refine nY (fun K0 hK0=>?_)|refine zSt hs ?_|refine nN hs (fun _ _ hs=>?_)|refine nS hs (fun _ _ hs=>?_)|refine sX hs (fun _ hs=>?_)|(refine hK0 _ _ ?_;clear hK0)|fail)
    refine g105 hM.len (hM.cl hti) (hM.bnd hti) ⟨by decide,by decide⟩ (hs.pick [1,0,2,3,4,5,6,7,8] (by decide) rfl (L' := [(true,k6,loB (ctr (incM S))),(true,b12, .cells true 1 (stC x)),(true,H3.length+1,loB []),(true,k8,loB (ctr (incS S))),(true,k9,loB (ctr (incG S))),(true,k10,loB (ctr (incT S'))),(true,b5, .cells true 1 (ints [0,0,0,0,0])),(true,b4, .cells true 1 zer5),(true,b2, .cells true 1 (mcC m b c))])) (fun H7 k6 hs=>?_)
    rw[eb6] at hs ⊢
    have hs:=hs.pick [1,0,2,3,4,5,6,7,8] (by decide) rfl (L' := (true,b12, .cells true 1 (stC x))::rdL m b c b2 b4 b5 k6 (H3.length+1) k8 k9 k10 (ctr (incM S')) [] (ctr (incS S)) (ctr (incG S)) (ctr (incT S')) [0,0,0,0,0])
    repeat' (first|refine nX ?_|refine nY (fun K0 hK0=>?_)|refine zSt hs ?_|refine nN hs (fun _ _ hs=>?_)|refine nS hs (fun _ _ hs=>?_)|refine sX hs (fun _ hs=>?_)|(refine hK0 _ _ ?_;clear hK0)|fail)
    refine g105 hS.len (hS.cl hti) (hS.bnd hti) ⟨by decide,by decide⟩ (hs.pick [3,0,1,2,4,5,6,7,8] (by decide) rfl (L' := [(true,k8,loB (ctr (incS S))),(true,b12, .cells true 1 (stC x)),(true,k6,loB (ctr (incM S'))),(true,H3.length+1,loB []),(true,k9,loB (ctr (incG S))),(true,k10,loB (ctr (incT S'))),(true,b5, .cells true 1 (ints [0,0,0,0,0])),(true,b4, .cells true 1 zer5),(true,b2, .cells true 1 (mcC m b c))])) (fun H8 k8 hs=>?_)
    rw[eb8] at hs ⊢
    have hs:=hs.pick [1,2,3,0,4,5,6,7,8] (by decide) rfl (L' := (true,b12, .cells true 1 (stC x))::rdL m b c b2 b4 b5 k6 (H3.length+1) k8 k9 k10 (ctr (incM S')) [] (ctr (incS S')) (ctr (incG S)) (ctr (incT S')) [0,0,0,0,0])
    repeat' (first|refine nX ?_|refine nY (fun K0 hK0=>?_)|refine zSt hs ?_|refine nN hs (fun _ _ hs=>?_)|refine nS hs (fun _ _ hs=>?_)|refine sX hs (fun _ hs=>?_)|(refine hK0 _ _ ?_;clear hK0)|fail)
    refine g105 hG.len (hG.cl hti) (hG.bnd hti) ⟨by decide,by decide⟩ (hs.pick [4,0,1,2,3,5,6,7,8] (by decide) rfl (L' := [(true,k9,loB (ctr (incG S))),(true,b12, .cells true 1 (stC x)),(true,k6,loB (ctr (incM S'))),(true,H3.length+1,loB []),(true,k8,loB (ctr (incS S'))),(true,k10,loB (ctr (incT S'))),(true,b5, .cells true 1 (ints [0,0,0,0,0])),(true,b4, .cells true 1 zer5),(true,b2, .cells true 1 (mcC m b c))])) (fun H9 k9 hs=>?_)
    rw[eb9] at hs ⊢
    have hs:=hs.pick [2,3,4,0,5,6,7,8] (by decide) rfl (L' := rdL m b c b2 b4 b5 k6 (H3.length+1) k8 k9 k10 (ctr (incM S')) [] (ctr (incS S')) (ctr (incG S')) (ctr (incT S')) [0,0,0,0,0])
    repeat' (first|refine nX ?_|refine nY (fun K0 hK0=>?_)|refine zSt hs ?_|refine nN hs (fun _ _ hs=>?_)|refine nS hs (fun _ _ hs=>?_)|refine sX hs (fun _ hs=>?_)|(refine hK0 _ _ ?_;clear hK0)|fail)
    subst hS'
    exact⟨⟨_,i+1,k6,k8,k9,k10⟩,⟨hs,hlt⟩,by dsimp only;omega,Or.inl ⟨⟨rfl,rfl,rfl,rfl,rfl,rfl,rfl,rfl,rfl,rfl,trivial⟩,rfl⟩⟩
   ·have hF:x.fr=x.to:=by simpa using hc
    rw[if_neg (fun h=>h hF),List.append_nil] at eM eS eG
    rw[<- eM,<- eS,<- eG] at hs ⊢
    clear hc
    repeat' (first|refine nX ?_|refine nY (fun K0 hK0=>?_)|refine zSt hs ?_|refine nN hs (fun _ _ hs=>?_)|refine nS hs (fun _ _ hs=>?_)|refine sX hs (fun _ hs=>?_)|(refine hK0 _ _ ?_;clear hK0)|fail)
    subst hS'
    exact⟨⟨_,i+1,k6,k8,k9,k10⟩,⟨hs.pick [1,2,3,4,5,6,7,8] (by decide) rfl,hlt⟩,by dsimp only;omega,Or.inl ⟨⟨rfl,rfl,rfl,rfl,rfl,rfl,rfl,rfl,rfl,rfl,trivial⟩,rfl⟩⟩
  ·have hj:x.jn=0:=by simpa using hc
   rw[if_neg (fun h=>h hj),List.append_nil] at eT
   rw[<- eT] at hs ⊢
   clear hc
   repeat' (first|refine nX ?_|refine nY (fun K0 hK0=>?_)|refine zSt hs ?_|refine nN hs (fun _ _ hs=>?_)|refine nS hs (fun _ _ hs=>?_)|refine sX hs (fun _ hs=>?_)|(refine hK0 _ _ ?_;clear hK0)|fail)
   refine aI (fun hc=>?_) (fun hc=>?_)
   ·have hF:x.fr≠x.to:=by simpa using hc
    rw[if_pos hF] at eM eS eG
    have eb6:bump (ctr (incM S)) [x.fr,x.to] 1=ctr (incM S'):=by rw[eM,wX]
    have eb8:bump (ctr (incS S)) [x.fr,0] 1=ctr (incS S'):=by rw[eS,wX]
    have eb9:bump (ctr (incG S)) [x.to,0] 1=ctr (incG S'):=by rw[eG,wX]
    clear hc
    repeat' (first|refine nX ?_|refine nY (fun K0 hK0=>?_)|refine zSt hs ?_|refine nN hs (fun _ _ hs=>?_)|refine nS hs (fun _ _ hs=>?_)|refine sX hs (fun _ hs=>?_)|(refine hK0 _ _ ?_;clear hK0)|fail)
    refine g105 hM.len (hM.cl hti) (hM.bnd hti) ⟨by decide,by decide⟩ (hs.pick [1,0,2,3,4,5,6,7,8] (by decide) rfl (L' := [(true,k6,loB (ctr (incM S))),(true,b12, .cells true 1 (stC x)),(true,H3.length+1,loB []),(true,k8,loB (ctr (incS S))),(true,k9,loB (ctr (incG S))),(true,k10,loB (ctr (incT S'))),(true,b5, .cells true 1 (ints [0,0,0,0,0])),(true,b4, .cells true 1 zer5),(true,b2, .cells true 1 (mcC m b c))])) (fun H7 k6 hs=>?_)
    rw[eb6] at hs ⊢
    have hs:=hs.pick [1,0,2,3,4,5,6,7,8] (by decide) rfl (L' := (true,b12, .cells true 1 (stC x))::rdL m b c b2 b4 b5 k6 (H3.length+1) k8 k9 k10 (ctr (incM S')) [] (ctr (incS S)) (ctr (incG S)) (ctr (incT S')) [0,0,0,0,0])
    repeat' (first|refine nX ?_|refine nY (fun K0 hK0=>?_)|refine zSt hs ?_|refine nN hs (fun _ _ hs=>?_)|refine nS hs (fun _ _ hs=>?_)|refine sX hs (fun _ hs=>?_)|(refine hK0 _ _ ?_;clear hK0)|fail)
    refine g105 hS.len (hS.cl hti) (hS.bnd hti) ⟨by decide,by decide⟩ (hs.pick [3,0,1,2,4,5,6,7,8] (by decide) rfl (L' := [(true,k8,loB (ctr (incS S))),(true,b12, .cells true 1 (stC x)),(true,k6,loB (ctr (incM S'))),(true,H3.length+1,loB []),(true,k9,loB (ctr (incG S))),(true,k10,loB (ctr (incT S'))),(true,b5, .cells true 1 (ints [0,0,0,0,0])),(true,b4, .cells true 1 zer5),(true,b2, .cells true 1 (mcC m b c))])) (fun H8 k8 hs=>?_)
    rw[eb8] at hs ⊢
    have hs:=hs.pick [1,2,3,0,4,5,6,7,8] (by decide) rfl (L' := (true,b12, .cells true 1 (stC x))::rdL m b c b2 b4 b5 k6 (H3.length+1) k8 k9 k10 (ctr (incM S')) [] (ctr (incS S')) (ctr (incG S)) (ctr (incT S')) [0,0,0,0,0])
    repeat' (first|refine nX ?_|refine nY (fun K0 hK0=>?_)|refine zSt hs ?_|refine nN hs (fun _ _ hs=>?_)|refine nS hs (fun _ _ hs=>?_)|refine sX hs (fun _ hs=>?_)|(refine hK0 _ _ ?_;clear hK0)|fail)
    refine g105 hG.len (hG.cl hti) (hG.bnd hti) ⟨by decide,by decide⟩ (hs.pick [4,0,1,2,3,5,6,7,8] (by decide) rfl (L' := [(true,k9,loB (ctr (incG S))),(true,b12, .cells true 1 (stC x)),(true,k6,loB (ctr (incM S'))),(true,H3.length+1,loB []),(true,k8,loB (ctr (incS S'))),(true,k10,loB (ctr (incT S'))),(true,b5, .cells true 1 (ints [0,0,0,0,0])),(true,b4, .cells true 1 zer5),(true,b2, .cells true 1 (mcC m b c))])) (fun H9 k9 hs=>?_)
    rw[eb9] at hs ⊢
    have hs:=hs.pick [2,3,4,0,5,6,7,8] (by decide) rfl (L' := rdL m b c b2 b4 b5 k6 (H3.length+1) k8 k9 k10 (ctr (incM S')) [] (ctr (incS S')) (ctr (incG S')) (ctr (incT S')) [0,0,0,0,0])
    repeat' (first|refine nX ?_|refine nY (fun K0 hK0=>?_)|refine zSt hs ?_|refine nN hs (fun _ _ hs=>?_)|refine nS hs (fun _ _ hs=>?_)|refine sX hs (fun _ hs=>?_)|(refine hK0 _ _ ?_;clear hK0)|fail)
    subst hS'
    exact⟨⟨_,i+1,k6,k8,k9,k10⟩,⟨hs,hlt⟩,by dsimp only;omega,Or.inl ⟨⟨rfl,rfl,rfl,rfl,rfl,rfl,rfl,rfl,rfl,rfl,trivial⟩,rfl⟩⟩
   ·have hF:x.fr=x.to:=by simpa using hc
    rw[if_neg (fun h=>h hF),List.append_nil] at eM eS eG
    rw[<- eM,<- eS,<- eG] at hs ⊢
    clear hc
    repeat' (first|refine nX ?_|refine nY (fun K0 hK0=>?_)|refine zSt hs ?_|refine nN hs (fun _ _ hs=>?_)|refine nS hs (fun _ _ hs=>?_)|refine sX hs (fun _ hs=>?_)|(refine hK0 _ _ ?_;clear hK0)|fail)
    subst hS'
    exact⟨⟨_,i+1,k6,k8,k9,k10⟩,⟨hs.pick [1,2,3,4,5,6,7,8] (by decide) rfl,hlt⟩,by dsimp only;omega,Or.inl ⟨⟨rfl,rfl,rfl,rfl,rfl,rfl,rfl,rfl,rfl,rfl,trivial⟩,rfl⟩⟩
 ·have hil:i=l.length:=by simp at hc;omega
  subst hil
  rw[List.take_length] at hs ⊢
  clear hc hi hd
  have mok:=msg_ok rfl hn hr
  have mlen:=msg_len l
  have hwd:=words_eq s m l
  have hjn:=joins_eq s m l
  have hM:=lp_M l
  have hS:=lp_S l
  have hG:=lp_G l
  have hT:=lp_T l
  have eMsg:ctr (incM l)=msgF l:=rfl
  rw[eMsg] at hs ⊢
  have hrd:rdcF s m l = [oneF (msgF l),hopF s m (msgF l),grt noJ (lodF s m l),grt isJ (lodF s m l)]:=rfl
  have hM2:=hM.len
  have hMl:=hM.cl (by omega)
  have hMb:=hM.bnd (by omega)
  rw[eMsg] at hM2 hMl hMb
  clear eMsg hM
  generalize msgF l=M at mok mlen hwd hs hrd hM2 hMl hMb ⊢
  repeat' (first|refine nX ?_|refine nY (fun K0 hK0=>?_)|refine zSt hs ?_|refine nN hs (fun _ _ hs=>?_)|refine nS hs (fun _ _ hs=>?_)|refine sX hs (fun _ hs=>?_)|(refine hK0 _ _ ?_;clear hK0)|fail)
  refine qF (α := T2) tok (fun z=>HS H none' (rdL m b c b2 b4 b5 k6 z.k7 k8 k9 k10 M (ctr ((M.take z.j).flatMap (incC s m))) (ctr (incS l)) (ctr (incG l)) (ctr (incT l)) [oneF (M.take z.j),hopF s m (M.take z.j),0,0,0]) z.H/\z.j<=M.length)
   (fun z=>[(2, .pointer (some ⟨b2,0,none⟩)),(4, .pointer (some ⟨b4,0,none⟩)),(5, .pointer (some ⟨b5,0,none⟩)),(6,sv k6 M.length),(7,sv z.k7 (ctr ((M.take z.j).flatMap (incC s m))).length),(8,sv k8 (ctr (incS l)).length),(9,sv k9 (ctr (incG l)).length),(10,sv k10 (ctr (incT l)).length),(13, .int .i64 z.j)]) (fun z=>z.H) (fun z=>M.length-z.j)
   ⟨_,0,H3.length+1⟩ ⟨hs,Nat.zero_le _⟩ (Or.inl ⟨⟨rfl,rfl,rfl,rfl,rfl,rfl,rfl,rfl,rfl,trivial⟩,rfl⟩) ?_
  clear hs
  rintro ⟨H5,j,k7⟩ ⟨hs,hj⟩
  dsimp only at hs hj ⊢
  repeat' (first|refine nX ?_|refine nY (fun K0 hK0=>?_)|refine zSt hs ?_|refine nN hs (fun _ _ hs=>?_)|refine nS hs (fun _ _ hs=>?_)|refine sX hs (fun _ hs=>?_)|(refine hK0 _ _ ?_;clear hK0)|fail)
  refine aI (fun hc=>?_) (fun hc=>?_)
  ·have hlt:j<M.length:=by simp at hc;omega
   clear hc
   have htk:M.take (j+1)=M.take j ++ [M[j]!]:=by rw[List.take_succ_eq_append_getElem hlt,getElem!_pos M j hlt]
   obtain ⟨a,b',hk,ha,hb',hne,hn0⟩:=mok M[j]! (by rw[getElem!_pos M j hlt];exact List.getElem_mem _)
   have hrow:=loR_get hlt
   have hltr:j<(loR M).length:=by rw[loR_len];exact hlt
   have hP:=xN mk.ok (mk.rt ha hb').hx (mk.rt ha hb').hy
   have hpth:pthF s m M[j]!.1=(wz s (homF m a) (homF m b')).1:=by rw[hk];rfl
   have hlp:=lp_C mk mok j
   have hC0:=lp_C mk mok (j+1)
   rw[htk,List.flatMap_append,show List.flatMap (incC s m) [M[j]!]=incC s m M[j]! by simp] at hC0
   have eC:ctr ((M.take (j+1)).flatMap (incC s m))=ctr ((M.take j).flatMap (incC s m)++incC s m M[j]!):=by rw[htk,List.flatMap_append];simp
   have eO:oneF (M.take (j+1))=1:=by rw[htk,one_snoc]
   have eH:hopF s m (M.take (j+1))=max (hopF s m (M.take j)) (((pthF s m M[j]!.1).length:Int)-1):=by rw[htk,hop_snoc]
   rw[hk] at hrow
   replace hrow:(loR M)[j]! = [a,b',M[j]!.2]:=hrow
   rw[show incC s m M[j]! = chn2 (pthF s m M[j]!.1) M[j]!.2 ((pthF s m M[j]!.1).length-1) from rfl] at hC0 eC
   rw[hpth] at hC0 eC eH
   generalize hPd:(wz s (homF m a) (homF m b')).1=P at hP hC0 eC eH
   generalize M[j]!.2=n0 at hn0 hrow hC0 eC
   generalize hA:(M.take j).flatMap (incC s m)=A at hs hlp hC0 eC ⊢
   generalize oneF (M.take j)=o1 at hs
   have hhp:0<=hopF s m (M.take j)/\hopF s m (M.take j)<=1000:=hop_in mk (fun x hx=>mok x (List.mem_of_mem_take hx))
   generalize hopF s m (M.take j)=h1 at hs eH hhp
   repeat' (first|refine nX ?_|refine nY (fun K0 hK0=>?_)|refine zSt hs ?_|refine nN hs (fun _ _ hs=>?_)|refine nS hs (fun _ _ hs=>?_)|refine sX hs (fun _ hs=>?_)|(refine hK0 _ _ ?_;clear hK0)|fail)
   refine qG tok mx [0,1,0,0,0,24,56,120,252,0,0,0,3072,7168,15360,32764,65535,131071,262143,262143,524287,2097151] [false,false,true,true,true,true,true,true,true,true,true,true,true,true,true,true,false,false,false,false,false,false] [0,1,2,3,4,5,6,7,9,10,11,12,13,14,8,15,16,17,18,19,20,21] (by kernel_rfl) ?_
   refine vC (fun K0 hK0=>?_)
   repeat' (first|refine c107x (g.up (qf hs)) mk ha ?_|refine c107x (g.up (qf hs)) mk hb' ?_|(refine Ld_fl (z:=3) (k:=0) loR3 hltr (by decide) ?_;rw[hrow,show ([a,b',n0]:List Int)[0]! = a from rfl])|(refine Ld_fl (z:=3) (k:=1) loR3 hltr (by decide) ?_;rw[hrow,show ([a,b',n0]:List Int)[1]! = b' from rfl])|refine iS hs ?_|refine rS hs ?_|refine eI _ (aI rfl ?_)|refine qp ?_|refine qo ?_|refine qh ?_|refine nN hs (fun _ _ hs=>?_)|refine nS hs (fun _ _ hs=>?_)|exact trivial|refine And.intro ?_ ?_|(refine hK0 _ _ ?_;clear hK0)|fail)
   refine c106 (g.up (qf hs)) mk (mk.rt ha hb') (fun H7 kp ys cp hn hyt=>?_)
   rw[hPd] at hyt ⊢
   have hs:=hs.call hn rfl
   clear hn
   have hs:HS H none' ((true,kp,rw' ys)::rdL m b c b2 b4 b5 k6 k7 k8 k9 k10 M (ctr A) (ctr (incS l)) (ctr (incG l)) (ctr (incT l)) [o1,h1,0,0,0]) _:=hs
   repeat' (first|refine nX ?_|refine nY (fun K0 hK0=>?_)|refine zSt hs ?_|refine nN hs (fun _ _ hs=>?_)|refine nS hs (fun _ _ hs=>?_)|refine sX hs (fun _ hs=>?_)|(refine hK0 _ _ ?_;clear hK0)|fail)
   refine vG hs 6 rfl (ints [o1,max h1 ((P.length:Int)-1),0,0,0]) rfl rfl (by show 0+1+1<=5;decide) rfl (fun H8 _ hs=>?_)
   rw[<- eH] at hs
   have hs:HS H none' ((true,kp,rw' ys)::rdL m b c b2 b4 b5 k6 k7 k8 k9 k10 M (ctr A) (ctr (incS l)) (ctr (incG l)) (ctr (incT l)) [o1,hopF s m (M.take (j+1)),0,0,0]) _:=hs
   obtain ⟨h2,hh2⟩ : ∃ h2,hopF s m (M.take (j+1))=h2:=⟨_,rfl⟩
   rw[hh2] at hs
   repeat' (first|refine nX ?_|refine nY (fun K0 hK0=>?_)|refine zSt hs ?_|refine nN hs (fun _ _ hs=>?_)|refine nS hs (fun _ _ hs=>?_)|refine sX hs (fun _ hs=>?_)|(refine hK0 _ _ ?_;clear hK0)|fail)
   refine qF (α := T3) tok (fun z=>HS H none' ((true,kp,rw' ys)::rdL m b c b2 b4 b5 k6 z.k7 k8 k9 k10 M (ctr (A++chn2 P n0 z.i)) (ctr (incS l)) (ctr (incG l)) (ctr (incT l)) [o1,h2,0,0,0]) z.H/\z.i<=P.length-1)
    (fun z=>[(2, .pointer (some ⟨b2,0,none⟩)),(4, .pointer (some ⟨b4,0,none⟩)),(5, .pointer (some ⟨b5,0,none⟩)),(6,sv k6 M.length),(7,sv z.k7 (ctr (A++chn2 P n0 z.i)).length),(8,sv k8 (ctr (incS l)).length),(9,sv k9 (ctr (incG l)).length),(10,sv k10 (ctr (incT l)).length),(13, .int .i64 j),(14, .slice (some ⟨kp,0,none⟩) P.length cp),(16, .int .i64 ((z.i:Int)+1))]) (fun z=>z.H) (fun z=>P.length-1-z.i)
    ⟨_,0,k7⟩ ⟨by rw[show chn2 P n0 0 = [] from rfl,List.append_nil];exact hs,Nat.zero_le _⟩ (Or.inl ⟨⟨rfl,rfl,rfl,rfl,by rw[show chn2 P n0 0 = [] from rfl,List.append_nil];rfl,rfl,rfl,rfl,rfl,rfl,rfl,trivial⟩,rfl⟩) ?_
   clear hs
   rintro ⟨H9,i,k7⟩ ⟨hs,hi⟩
   dsimp only at hs hi ⊢
   have hlp2:=lp_chn hlp hn0 (P:=P) i
   have htl:(M.take j).length<=1000:=by rw[List.length_take];omega
   have hcs:=chn2_succ P n0 i
   repeat' (first|refine nX ?_|refine nY (fun K0 hK0=>?_)|refine zSt hs ?_|refine nN hs (fun _ _ hs=>?_)|refine nS hs (fun _ _ hs=>?_)|refine sX hs (fun _ hs=>?_)|(refine hK0 _ _ ?_;clear hK0)|fail)
   refine aI (fun hc=>?_) (fun hc=>?_)
   ·have hip:i<P.length-1:=by simp at hc;omega
    clear hc
    have hyl:P.length<=ys.length:=by rw[<- hyt,List.length_take];omega
    have r1:(ints ys)[0+i*1]? = some (.int .i64 P[i]!):=by rw[Nat.zero_add,Nat.mul_one,qQ,<- take_at hyt (by omega)];rfl
    have r2:(ints ys)[0+(i+1)*1]? = some (.int .i64 P[i+1]!):=by rw[Nat.zero_add,Nat.mul_one,qQ,<- take_at hyt (by omega)];rfl
    have eb:bump (ctr (A++chn2 P n0 i)) [P[i]!,P[i+1]!] n0=ctr (A++chn2 P n0 (i+1)):=by rw[hcs,<- List.append_assoc,wX]
    repeat' (first|refine nX ?_|refine nY (fun K0 hK0=>?_)|refine zSt hs ?_|refine nN hs (fun _ _ hs=>?_)|refine nS hs (fun _ _ hs=>?_)|refine sX hs (fun _ hs=>?_)|(refine hK0 _ _ ?_;clear hK0)|fail)
    refine vk tok mx [0,0,0,4,14,30,0,0,192,448,0,0,3072,7168,15360,32767,65535] [false,false,false,false,false,false,true,true,true,true,true,true,true,true,true,false,false] (.first 0 (.first 1 (.first 2 (.first 3 (.first 4 (.first 5 (.first 6 (.first 7 (.first 8 (.first 9 (.first 10 (.first 11 (.first 12 (.first 13 (.first 14 (.first 15 (.first 16 .done))))))))))))))))) (by kernel_rfl) ?_
    refine vz (fun K0 hK0=>?_)
    repeat' (first|refine qi (hs.get 0 rfl) ⟨i,by omega,by omega, ?_⟩|refine qi (hs.get 0 rfl) ⟨i+1,by omega,by omega, ?_⟩|refine ql (hs.get 0 rfl) ⟨_,r1, ?_⟩|refine ql (hs.get 0 rfl) ⟨_,r2, ?_⟩|(refine Ld_fl (z:=3) (k:=2) loR3 hltr (by decide) ?_;rw[hrow,show ([a,b',n0]:List Int)[2]! = n0 from rfl])|refine iS hs ?_|refine rS hs ?_|refine eI _ (aI rfl ?_)|refine qp ?_|refine qo ?_|refine qh ?_|refine oJ ?_|refine nN hs (fun _ _ hs=>?_)|refine nS hs (fun _ _ hs=>?_)|(refine hK0 _ _ ?_;clear hK0)|exact trivial|refine And.intro ?_ ?_|fail)
    refine g105 hlp2.len (hlp2.cl (by omega)) (hlp2.bnd (by omega)) ⟨hn0.1,by omega⟩ (hs.pick [2,0,1,3,4,5,6,7,8] (by decide) rfl (L' := [(true,k7,loB (ctr (A++chn2 P n0 i))),(true,kp,rw' ys),(true,k6,loB M),(true,k8,loB (ctr (incS l))),(true,k9,loB (ctr (incG l))),(true,k10,loB (ctr (incT l))),(true,b5, .cells true 1 (ints [o1,h2,0,0,0])),(true,b4, .cells true 1 zer5),(true,b2, .cells true 1 (mcC m b c))])) (fun H10 k7 hs=>?_)
    rw[eb] at hs ⊢
    have hs:=hs.pick [1,2,0,3,4,5,6,7,8] (by decide) rfl (L' := (true,kp,rw' ys)::rdL m b c b2 b4 b5 k6 k7 k8 k9 k10 M (ctr (A++chn2 P n0 (i+1))) (ctr (incS l)) (ctr (incG l)) (ctr (incT l)) [o1,h2,0,0,0])
    repeat' (first|refine nX ?_|refine nY (fun K0 hK0=>?_)|refine zSt hs ?_|refine nN hs (fun _ _ hs=>?_)|refine nS hs (fun _ _ hs=>?_)|refine sX hs (fun _ hs=>?_)|(refine hK0 _ _ ?_;clear hK0)|fail)
    exact⟨⟨_,i+1,k7⟩,⟨hs,hip⟩,by dsimp only;omega,Or.inl ⟨⟨rfl,rfl,rfl,rfl,rfl,rfl,rfl,rfl,rfl,rfl,rfl,trivial⟩,rfl⟩⟩
   ·have hie:i=P.length-1:=by simp at hc;omega
    clear hc
    rw[hie,<- eC] at hs ⊢
    repeat' (first|refine nX ?_|refine nY (fun K0 hK0=>?_)|refine zSt hs ?_|refine nN hs (fun _ _ hs=>?_)|refine nS hs (fun _ _ hs=>?_)|refine sX hs (fun _ hs=>?_)|(refine hK0 _ _ ?_;clear hK0)|fail)
    refine vG hs 6 rfl (ints [1,h2,0,0,0]) rfl rfl (by show 0+0+1<=5;decide) rfl (fun H11 _ hs=>?_)
    rw[<- hh2] at hs
    have hs:=hs.pick [1,2,3,4,5,6,7,8] (by decide) rfl (L' := rdL m b c b2 b4 b5 k6 k7 k8 k9 k10 M (ctr ((M.take (j+1)).flatMap (incC s m))) (ctr (incS l)) (ctr (incG l)) (ctr (incT l)) [1,hopF s m (M.take (j+1)),0,0,0])
    rw[<- eO] at hs
    repeat' (first|refine nX ?_|refine nY (fun K0 hK0=>?_)|refine zSt hs ?_|refine nN hs (fun _ _ hs=>?_)|refine nS hs (fun _ _ hs=>?_)|refine sX hs (fun _ hs=>?_)|(refine hK0 _ _ ?_;clear hK0)|fail)
    exact⟨⟨_,j+1,k7⟩,⟨hs,hlt⟩,by dsimp only;omega,Or.inl ⟨⟨rfl,rfl,rfl,rfl,rfl,rfl,rfl,rfl,rfl,trivial⟩,rfl⟩⟩
  ·have hje:j=M.length:=by simp at hc;omega
   subst hje
   rw[List.take_length] at hs ⊢
   clear hc hj
   have hC:Lp (M.flatMap (incC s m)) 100000:=by
    have h1:=lp_C mk mok M.length
    rw[List.take_length] at h1
    exact⟨h1.k,by have:=h1.l;omega⟩
   generalize M.flatMap (incC s m)=C at hC hs hwd ⊢
   obtain ⟨c0,c1,c2,c3,hr4,hb0,hb1,hb2,hb3,_,_⟩:=rdc_bd mk hn hr
   rw[hr4] at hrd h
   simp only[List.cons.injEq,and_true] at hrd
   obtain ⟨q0,q1,q2,q3⟩:=hrd
   rw[<- q0,<- q1] at hs
   have gC:=grt_in (hC.bnd (by omega))
   have gS:=grt_in (hS.bnd (by omega))
   have gG:=grt_in (hG.bnd (by omega))
   have gT:=grt_in (hT.bnd (by omega))
   have hm1:=zA (a:=c0) (by omega) hpr.1
   have hm2:=zA (a:=c1) (by omega) hpr.2.1
   have hm3:=zA (a:=c2) (by omega) hpr.2.2.1
   have hm4:=zA (a:=c3) (by omega) hpr.2.2.2
   repeat' (first|refine nX ?_|refine nY (fun K0 hK0=>?_)|refine zSt hs ?_|refine nN hs (fun _ _ hs=>?_)|refine nS hs (fun _ _ hs=>?_)|refine sX hs (fun _ hs=>?_)|(refine hK0 _ _ ?_;clear hK0)|fail)
   refine g108 (hC.cl (by omega)) (hC.bnd (by omega)) (hs.get 1 rfl) ?_
   repeat' (first|refine nX ?_|refine nY (fun K0 hK0=>?_)|refine zSt hs ?_|refine nN hs (fun _ _ hs=>?_)|refine nS hs (fun _ _ hs=>?_)|refine sX hs (fun _ hs=>?_)|(refine hK0 _ _ ?_;clear hK0)|fail)
   refine g108 (hS.cl (by omega)) (hS.bnd (by omega)) (hs.get 2 rfl) ?_
   repeat' (first|refine nX ?_|refine nY (fun K0 hK0=>?_)|refine zSt hs ?_|refine nN hs (fun _ _ hs=>?_)|refine nS hs (fun _ _ hs=>?_)|refine sX hs (fun _ hs=>?_)|(refine hK0 _ _ ?_;clear hK0)|fail)
   refine g108 (hG.cl (by omega)) (hG.bnd (by omega)) (hs.get 3 rfl) ?_
   generalize grt allK (ctr C)=z1 at hwd gC ⊢
   generalize grt allK (ctr (incS l))=z2 at hwd gS ⊢
   generalize grt allK (ctr (incG l))=z3 at hwd gG ⊢
   repeat' (first|refine nX ?_|refine nY (fun K0 hK0=>?_)|refine zSt hs ?_|refine nN hs (fun _ _ hs=>?_)|refine nS hs (fun _ _ hs=>?_)|refine sX hs (fun _ hs=>?_)|(refine hK0 _ _ ?_;clear hK0)|fail)
   rw[hwd,<- q2]
   refine vG hs 5 rfl (ints [c0,c1,c2,0,0]) rfl rfl (by show 0+2+1<=5;decide) rfl (fun H6 _ hs=>?_)
   have hs:HS H none' (rdL m b c b2 b4 b5 k6 k7 k8 k9 k10 M (ctr C) (ctr (incS l)) (ctr (incG l)) (ctr (incT l)) [c0,c1,c2,0,0]) _:=hs
   repeat' (first|refine nX ?_|refine nY (fun K0 hK0=>?_)|refine zSt hs ?_|refine nN hs (fun _ _ hs=>?_)|refine nS hs (fun _ _ hs=>?_)|refine sX hs (fun _ hs=>?_)|(refine hK0 _ _ ?_;clear hK0)|fail)
   refine g108 (hT.cl (by omega)) (hT.bnd (by omega)) (hs.get 4 rfl) ?_
   rw[hjn,<- q3]
   repeat' (first|refine nX ?_|refine nY (fun K0 hK0=>?_)|refine zSt hs ?_|refine nN hs (fun _ _ hs=>?_)|refine nS hs (fun _ _ hs=>?_)|refine sX hs (fun _ hs=>?_)|(refine hK0 _ _ ?_;clear hK0)|fail)
   refine vG hs 5 rfl (ints [c0,c1,c2,c3,0]) rfl rfl (by show 0+3+1<=5;decide) rfl (fun H7 _ hs=>?_)
   have hs:HS H none' (rdL m b c b2 b4 b5 k6 k7 k8 k9 k10 M (ctr C) (ctr (incS l)) (ctr (incG l)) (ctr (incT l)) [c0,c1,c2,c3,0]) _:=hs
   repeat' (first|refine nX ?_|refine nY (fun K0 hK0=>?_)|refine zSt hs ?_|refine nN hs (fun _ _ hs=>?_)|refine nS hs (fun _ _ hs=>?_)|refine sX hs (fun _ hs=>?_)|(refine hK0 _ _ ?_;clear hK0)|fail)
   refine c52 hm1 hm2 hm3 hm4 (fun H8 hn=>?_)
   have hs:=qR hs hn
   clear hn
   repeat' (first|refine nX ?_|refine nY (fun K0 hK0=>?_)|refine zSt hs ?_|refine nN hs (fun _ _ hs=>?_)|refine nS hs (fun _ _ hs=>?_)|refine sX hs (fun _ hs=>?_)|(refine hK0 _ _ ?_;clear hK0)|fail)
   refine vG hs 5 rfl (ints [c0,c1,c2,c3,tmF [c0,c1,c2,c3] (prL m)]) rfl rfl (by show 0+4+1<=5;decide) rfl (fun H9 _ hs=>?_)
   have hs:HS H none' (rdL m b c b2 b4 b5 k6 k7 k8 k9 k10 M (ctr C) (ctr (incS l)) (ctr (incG l)) (ctr (incT l)) [c0,c1,c2,c3,tmF [c0,c1,c2,c3] (prL m)]) _:=hs
   repeat' (first|refine nX ?_|refine nY (fun K0 hK0=>?_)|refine zSt hs ?_|refine nN hs (fun _ _ hs=>?_)|refine nS hs (fun _ _ hs=>?_)|refine sX hs (fun _ hs=>?_)|(refine hK0 _ _ ?_;clear hK0)|fail)
   refine vG hs 6 rfl (ints [c0,c1,c2,c3,tmF [c0,c1,c2,c3] (prL m)]) rfl rfl (by show 0+5<=5;decide) rfl (fun H10 _ hs=>?_)
   repeat' (first|refine nX ?_|refine nY (fun K0 hK0=>?_)|refine zSt hs ?_|refine nN hs (fun _ _ hs=>?_)|refine nS hs (fun _ _ hs=>?_)|refine sX hs (fun _ hs=>?_)|(refine hK0 _ _ ?_;clear hK0)|fail)
   change resK T _ _ _ _
   refine zl (by rfl) (by rfl) (hs.get 6 rfl) (by rfl) ?_
   refine⟨_,rfl,_,rfl,_,rfl,_,rfl,_,rfl, ?_⟩
   exact h _ (qf hs)
end Go.Af.Tryz
