/-
  What the steps of a round cost, as the reference counts: the same. No program is in sight.
  Rows of loads in memory: add, greatest (the reference's).
  Loads: add and greatest, as calls; homes, routes and prices of the reference.
-/
import Derived.Test.YtgdbclgcbbbenaaGreatMPA
import Derived.Test.YtgdbclgcbbbenaaGreatMPD
import Derived.Test.YtgdbclgcbbbenaaGreatMX
import Derived.Test.YtgdbclgcbbbenaaGreatMCA
set_option linter.all false
namespace Go.Af.Pl
open Go Go.Af
theorem grt_le0 (p:List Int->Bool) (B:Int) : ∀ (l:Ctr) (n:Int),l.foldl (fun n x=>if p x.1 then max n x.2 else n) n<=B↔n<=B/\∀ x∈l,p x.1=true->x.2<=B
 | [],n=>by simp
 | x::l,n=>by
   rw[List.foldl_cons,grt_le0 p B l]
   constructor
   ·rintro ⟨h1,h2⟩
    split at h1
    ·exact⟨by omega,fun y hy hp=>by
      rcases List.mem_cons.1 hy with rfl | hy
      ·omega
      ·exact h2 y hy hp⟩
    ·rename_i hn
     exact⟨h1,fun y hy hp=>by
      rcases List.mem_cons.1 hy with rfl | hy
      ·exact absurd hp hn
      ·exact h2 y hy hp⟩
   ·rintro ⟨h1,h2⟩
    refine⟨?_,fun y hy hp=>h2 y (List.mem_cons_of_mem _ hy) hp⟩
    split
    ·rename_i hp
     have:=h2 x List.mem_cons_self hp
     omega
    ·exact h1
theorem yD {k:List Int} : ∀ {xs:Ctr},(∀ x∈xs,x.1≠k)->sumK k xs=0
 | [],_=>rfl
 | x::l,h=>by
   unfold sumK
   rw[if_neg (fun e=>h x List.mem_cons_self e.symm),yD (fun y hy=>h y (List.mem_cons_of_mem _ hy))]
   rfl
theorem grt_le {p:List Int->Bool} {xs:Ctr} {B:Int}:grt p (ctr xs)<=B↔0<=B/\∀ k,p k=true->sumK k xs<=B:=by
 unfold grt
 rw[grt_le0]
 constructor
 ·rintro ⟨h1,h2⟩
  refine⟨h1,fun k hp=>?_⟩
  by_cases hk:k∈keys xs
  ·exact h2 (k,sumK k xs) ((mem_cnt (zh xs) k _).2 ⟨(add_mem k xs []).2 (.inr hk),cnt_ctr k xs⟩) hp
  ·rw[yD (fun x hx e=>hk (by rw[<- e];exact List.mem_map_of_mem hx))]
   exact h1
 ·rintro ⟨h1,h2⟩
  refine⟨h1,fun x hx hp=>?_⟩
  obtain ⟨k,v⟩:=x
  have:=((mem_cnt (zh xs) k v).1 hx).2
  rw[cnt_ctr] at this
  have h3:=h2 k hp
  dsimp only
  omega
theorem le_eq {a b:Int} (h : ∀ B,a<=B↔b<=B):a=b:=by
 have h1:=(h a).1 (Int.le_refl _)
 have h2:=(h b).2 (Int.le_refl _)
 omega
theorem xk (k:List Int) (x:List Int × Int) (l:Ctr):sumK k (x::l)=(if k=x.1 then x.2 else 0)+sumK k l:=rfl
def sumF (g:List Int × Int->Int):Ctr->Int
 | []=>0
 | x::l=>g x+sumF g l
theorem zH (k:List Int) (f:List Int × Int->Ctr) : ∀ M:Ctr,sumK k (M.flatMap f)=sumF (fun x=>sumK k (f x)) M
 | []=>rfl
 | x::M=>by rw[List.flatMap_cons,xe,zH k f M];rfl
theorem sumF_congr {g g' : List Int × Int->Int} : ∀ {M:Ctr},(∀ x∈M,g x=g' x)->sumF g M=sumF g' M
 | [],_=>rfl
 | x::M,h=>by
   unfold sumF
   rw[h x List.mem_cons_self,sumF_congr (fun y hy=>h y (List.mem_cons_of_mem _ hy))]
theorem sumF_zero {g:List Int × Int->Int} : ∀ {M:Ctr},(∀ x∈M,g x=0)->sumF g M=0
 | [],_=>rfl
 | x::M,h=>by
   unfold sumF
   rw[h x List.mem_cons_self,sumF_zero (fun y hy=>h y (List.mem_cons_of_mem _ hy))]
   rfl
theorem sumF_bump (c:List Int->Prop) [DecidablePred c] (k:List Int) (n:Int) : ∀ l:Ctr,sumF (fun x=>if c x.1 then x.2 else 0) (bump l k n)=sumF (fun x=>if c x.1 then x.2 else 0) l+if c k then n else 0
 | []=>by simp[bump,sumF]
 | x::l=>by
   have ih:=sumF_bump c k n l
   unfold bump
   by_cases h:x.1=k
   ·rw[if_pos h]
    unfold sumF
    rw[<- h]
    dsimp only
    split <;> omega
   ·rw[if_neg h]
    unfold sumF
    rw[ih,Int.add_assoc]
theorem sumF_add (c:List Int->Prop) [DecidablePred c] : ∀ (xs l:Ctr),sumF (fun x=>if c x.1 then x.2 else 0) (add l xs)=sumF (fun x=>if c x.1 then x.2 else 0) l+sumF (fun x=>if c x.1 then x.2 else 0) xs
 | [],l=>by simp[sumF]
 | x::xs,l=>by
   show sumF _ (add (bump l x.1 x.2) xs)=_
   rw[sumF_add c xs,sumF_bump,Int.add_assoc]
   rfl
theorem sumF_ctr (c:List Int->Prop) [DecidablePred c] (xs:Ctr):sumF (fun x=>if c x.1 then x.2 else 0) (ctr xs)=sumF (fun x=>if c x.1 then x.2 else 0) xs:=by
 rw[sumF_add];simp[sumF]
end Go.Af.Pl
namespace Go.Af.Tryz
open Go Go.Proofs Go.Af.Pl Co Ne
open Go.Af.Coll (St)
def incS (l:List St):Ctr:=(l.filter (fun x=>decide (x.fr≠x.to))).map (fun x=>([x.fr,0],1))
def incG (l:List St):Ctr:=(l.filter (fun x=>decide (x.fr≠x.to))).map (fun x=>([x.to,0],1))
def incT (l:List St):Ctr:=(l.filter (fun x=>decide (x.jn≠0))).map (fun x=>([x.to,0],1))
def chn2 (p:List Int) (n:Int) (k:Nat):Ctr:=(List.range k).map (fun i=>([p[i]!,p[i+1]!],n))
def incC (s:Sh) (m:Mc) (x:List Int × Int):Ctr:=chn2 (pthF s m x.1) x.2 ((pthF s m x.1).length-1)
def allK (_:List Int):Bool:=true
theorem sum_chn (p:List Int) (n a b:Int) : ∀ k:Nat,sumK [0,a,b] (chn p n k)=sumK [a,b] (chn2 p n k)
 | 0=>rfl
 | k+1=>by
   unfold chn chn2
   rw[List.range_succ,List.map_append,List.map_append,xe,xe]
   have:=sum_chn p n a b k
   unfold chn chn2 at this
   rw[this]
   simp[sumK]
theorem chn_zero {p:List Int} {n:Int} {k:Nat} {q:List Int} (h : ∀ a b,q≠[0,a,b]):sumK q (chn p n k)=0:=yD (fun x hx e=>by
 obtain ⟨i,_,rfl⟩:=List.mem_map.1 hx
 exact h _ _ e.symm)
theorem incR_0 (s:Sh) (m:Mc) (a b:Int) (x:List Int × Int):sumK [0,a,b] (incR s m x)=sumK [a,b] (incC s m x):=by
 unfold incR incC
 rw[xk,xk,if_neg (by simp),if_neg (by simp),sum_chn]
 omega
theorem incR_1 (s:Sh) (m:Mc) (a:Int) (x:List Int × Int):sumK [1,a,0] (incR s m x)=if x.1[0]! = a then x.2 else 0:=by
 unfold incR
 rw[xk,xk,chn_zero (fun a b=>by simp)]
 dsimp only
 generalize x.1[0]! = u
 by_cases h:u=a
 ·subst h;simp
 ·have h' : ¬ a=u:=fun e=>h e.symm
  simp[h,h']
theorem incR_2 (s:Sh) (m:Mc) (a:Int) (x:List Int × Int):sumK [2,a,0] (incR s m x)=if x.1[1]! = a then x.2 else 0:=by
 unfold incR
 rw[xk,xk,chn_zero (fun a b=>by simp)]
 dsimp only
 generalize x.1[1]! = u
 by_cases h:u=a
 ·subst h;simp
 ·have h' : ¬ a=u:=fun e=>h e.symm
  simp[h,h']
theorem incR_n {s:Sh} {m:Mc} {x:List Int × Int} {k:List Int} (h0 : ∀ a b,k≠[0,a,b]) (h1 : ∀ a,k≠[1,a,0]) (h2 : ∀ a,k≠[2,a,0]):sumK k (incR s m x)=0:=by
 unfold incR
 rw[xk,xk,chn_zero h0,if_neg (h1 _),if_neg (h2 _)]
 rfl
theorem sumF_S (a:Int) : ∀ l:List St,sumF (fun x=>if x.1[0]! = a then x.2 else 0) (incM l)=sumK [a,0] (incS l)
 | []=>rfl
 | x::l=>by
   have ih:=sumF_S a l
   unfold incM incS at ih ⊢
   by_cases h:x.fr=x.to
   ·rw[List.filter_cons_of_neg (by simp[h])];exact ih
   ·rw[List.filter_cons_of_pos (by simp[h]),List.map_cons,List.map_cons]
    unfold sumF sumK
    rw[ih]
    by_cases e:x.fr=a
    ·simp[e]
    ·have e' : ¬ a=x.fr:=fun h=>e h.symm
     simp[e,e']
theorem sumF_G (a:Int) : ∀ l:List St,sumF (fun x=>if x.1[1]! = a then x.2 else 0) (incM l)=sumK [a,0] (incG l)
 | []=>rfl
 | x::l=>by
   have ih:=sumF_G a l
   unfold incM incG at ih ⊢
   by_cases h:x.fr=x.to
   ·rw[List.filter_cons_of_neg (by simp[h])];exact ih
   ·rw[List.filter_cons_of_pos (by simp[h]),List.map_cons,List.map_cons]
    unfold sumF sumK
    rw[ih]
    by_cases e:x.to=a
    ·simp[e]
    ·have e' : ¬ a=x.to:=fun h=>e h.symm
     simp[e,e']
theorem sumJ (a:Int) : ∀ l:List St,sumK [3,a,0] (incJ l)=sumK [a,0] (incT l)
 | []=>rfl
 | x::l=>by
   have ih:=sumJ a l
   unfold incJ incT at ih ⊢
   by_cases h:x.jn=0
   ·rw[List.filter_cons_of_neg (by simp[h])];exact ih
   ·rw[List.filter_cons_of_pos (by simp[h]),List.map_cons,List.map_cons]
    unfold sumK
    rw[ih]
    by_cases e:x.to=a
    ·simp[e]
    ·have e' : ¬ a=x.to:=fun h=>e h.symm
     simp[e']
theorem incJ_zero {l:List St} {k:List Int} (h : ∀ a,k≠[3,a,0]):sumK k (incJ l)=0:=yD (fun x hx e=>by
 obtain ⟨y,_,rfl⟩:=List.mem_map.1 hx
 exact h _ e.symm)
theorem two_zero {l:List St} {f:St->Int} {p:St->Bool} {k:List Int} (h : ∀ a,k≠[a,0]):sumK k ((l.filter p).map (fun x=>([f x,0],1)))=0:=yD (fun x hx e=>by
 obtain ⟨y,_,rfl⟩:=List.mem_map.1 hx
 exact h _ e.symm)
theorem incC_zero {s:Sh} {m:Mc} {x:List Int × Int} {k:List Int} (h : ∀ a b,k≠[a,b]):sumK k (incC s m x)=0:=yD (fun x hx e=>by
 obtain ⟨y,_,rfl⟩:=List.mem_map.1 hx
 exact h _ _ e.symm)
theorem lod_0 (s:Sh) (m:Mc) (l:List St) (a b:Int):sumK [0,a,b] (incJ l++(msgF l).flatMap (incR s m))=sumK [a,b] ((msgF l).flatMap (incC s m)):=by
 rw[xe,incJ_zero (by simp),zH,zH,Int.zero_add]
 exact sumF_congr (fun x _=>incR_0 s m a b x)
theorem lod_1 (s:Sh) (m:Mc) (l:List St) (a:Int):sumK [1,a,0] (incJ l++(msgF l).flatMap (incR s m))=sumK [a,0] (incS l):=by
 rw[xe,incJ_zero (by simp),zH,Int.zero_add,sumF_congr (fun x _=>incR_1 s m a x)]
 unfold msgF
 rw[sumF_ctr (fun k=>k[0]! = a),sumF_S]
theorem lod_2 (s:Sh) (m:Mc) (l:List St) (a:Int):sumK [2,a,0] (incJ l++(msgF l).flatMap (incR s m))=sumK [a,0] (incG l):=by
 rw[xe,incJ_zero (by simp),zH,Int.zero_add,sumF_congr (fun x _=>incR_2 s m a x)]
 unfold msgF
 rw[sumF_ctr (fun k=>k[1]! = a),sumF_G]
theorem lod_3 (s:Sh) (m:Mc) (l:List St) (a:Int):sumK [3,a,0] (incJ l++(msgF l).flatMap (incR s m))=sumK [a,0] (incT l):=by
 rw[xe,sumJ,zH,sumF_zero (fun x _=>incR_n (by simp) (by simp) (by simp)),Int.add_zero]
theorem words_eq (s:Sh) (m:Mc) (l:List St):max (max (grt allK (ctr ((msgF l).flatMap (incC s m)))) (grt allK (ctr (incS l)))) (grt allK (ctr (incG l)))=grt noJ (lodF s m l):=by
 refine le_eq (fun B=>?_)
 unfold lodF
 rw[show ∀ a b c:Int,max (max a b) c<=B↔a<=B/\b<=B/\c<=B from fun a b c=>by omega,grt_le,grt_le,grt_le,grt_le]
 constructor
 ·rintro ⟨⟨h0,h1⟩,⟨_,h2⟩,⟨_,h3⟩⟩
  refine⟨h0,fun k hk=>?_⟩
  by_cases e0 : ∃ a b,k = [0,a,b]
  ·obtain ⟨a,b,rfl⟩:=e0
   rw[lod_0];exact h1 _ rfl
  by_cases e1 : ∃ a,k = [1,a,0]
  ·obtain ⟨a,rfl⟩:=e1
   rw[lod_1];exact h2 _ rfl
  by_cases e2 : ∃ a,k = [2,a,0]
  ·obtain ⟨a,rfl⟩:=e2
   rw[lod_2];exact h3 _ rfl
  rw[xe,incJ_zero (fun a e=>by rw[e] at hk;simp[noJ] at hk),zH,sumF_zero (fun x _=>incR_n (fun a b e=>e0 ⟨a,b,e⟩) (fun a e=>e1 ⟨a,e⟩) (fun a e=>e2 ⟨a,e⟩))]
  exact h0
 ·rintro ⟨h0,h1⟩
  refine⟨⟨h0,fun k _=>?_⟩,⟨h0,fun k _=>?_⟩,⟨h0,fun k _=>?_⟩⟩
  ·by_cases e : ∃ a b,k = [a,b]
   ·obtain ⟨a,b,rfl⟩:=e
    rw[<- lod_0];exact h1 _ (by simp[noJ])
   ·rw[zH,sumF_zero (fun x _=>incC_zero (fun a b h=>e ⟨a,b,h⟩))];exact h0
  ·by_cases e : ∃ a,k = [a,0]
   ·obtain ⟨a,rfl⟩:=e
    rw[<- lod_1 s m];exact h1 _ (by simp[noJ])
   ·unfold incS
    rw[two_zero (fun a h=>e ⟨a,h⟩)];exact h0
  ·by_cases e : ∃ a,k = [a,0]
   ·obtain ⟨a,rfl⟩:=e
    rw[<- lod_2 s m];exact h1 _ (by simp[noJ])
   ·unfold incG
    rw[two_zero (fun a h=>e ⟨a,h⟩)];exact h0
theorem joins_eq (s:Sh) (m:Mc) (l:List St):grt allK (ctr (incT l))=grt isJ (lodF s m l):=by
 refine le_eq (fun B=>?_)
 unfold lodF
 rw[grt_le,grt_le]
 constructor
 ·rintro ⟨h0,h1⟩
  refine⟨h0,fun k hk=>?_⟩
  by_cases e3 : ∃ a,k = [3,a,0]
  ·obtain ⟨a,rfl⟩:=e3
   rw[lod_3];exact h1 _ rfl
  have hk3:k[0]! = 3:=of_decide_eq_true hk
  rw[xe,incJ_zero (fun a e=>e3 ⟨a,e⟩),zH,sumF_zero (fun x _=>incR_n (fun a b e=>by rw[e] at hk3;simp at hk3) (fun a e=>by rw[e] at hk3;simp at hk3) (fun a e=>by rw[e] at hk3;simp at hk3))]
  exact h0
 ·rintro ⟨h0,h1⟩
  refine⟨h0,fun k _=>?_⟩
  by_cases e : ∃ a,k = [a,0]
  ·obtain ⟨a,rfl⟩:=e
   rw[<- lod_3 s m];exact h1 _ (by simp[isJ])
  ·unfold incT
   rw[two_zero (fun a h=>e ⟨a,h⟩)];exact h0
end Go.Af.Tryz
namespace Go.Af.Tryz
open Go Go.Proofs Go.Af.Pl Co Ne
set_option maxRecDepth 100000
set_option maxHeartbeats 4000000
attribute [local irreducible] awp qj qm qP qH qJ isCells qA qx qZ qX qI roundEnd wZ wO keyK vZ wP wW

def flC (O:List (List Int)):List Value:=O.flatMap ints
theorem flC_get {z:Nat} : ∀ {O:List (List Int)} {i k:Nat},(∀ x∈O,x.length=z)->i<O.length->k<z->(flC O)[i*z+k]? = some (.int .i64 (O[i]![k]!))
 | x::O,0,k,h,_,hk=>by
   have hx:=h x List.mem_cons_self
   show (ints x++flC O)[0*z+k]? = _
   rw[Nat.zero_mul,Nat.zero_add,List.getElem?_append_left (by simp;omega),qQ,List.getElem?_eq_getElem (by omega)]
   simp[getElem!_pos x k (by omega)]
 | x::O,i+1,k,h,hi,hk=>by
   have hx:=h x List.mem_cons_self
   have ih:=flC_get (O:=O) (i:=i) (k:=k) (fun y hy=>h y (List.mem_cons_of_mem _ hy)) (by simpa using hi) hk
   show (ints x++flC O)[(i+1)*z+k]? = _
   rw[List.getElem?_append_right (by simp[hx,Nat.add_mul];omega)]
   rw[show (i+1)*z+k-(ints x).length=i*z+k by simp[hx,Nat.add_mul];omega,ih]
   simp
theorem flC_len {z:Nat} : ∀ {O:List (List Int)},(∀ x∈O,x.length=z)->(flC O).length=O.length*z
 | [],_=>by simp[flC]
 | x::O,h=>by
   have ih:=flC_len (O:=O) (fun y hy=>h y (List.mem_cons_of_mem _ hy))
   show (ints x++flC O).length=_
   rw[List.length_append,ih]
   simp[h x List.mem_cons_self,Nat.add_mul];omega
theorem flC_app (O P:List (List Int)):flC (O++P)=flC O++flC P:=List.flatMap_append
theorem Ld_fl {z:Nat} {O:List (List Int)} {i k:Nat} {K:Value->Prop} (h : ∀ x∈O,x.length=z) (hi:i<O.length) (hk:k<z) (hK:K (.int .i64 (O[i]![k]!))):Ld (flC O) (0+i*z+k) K :=
 ⟨_,by rw[Nat.zero_add];exact flC_get h hi hk,hK⟩
theorem flC_set {z:Nat} {O:List (List Int)} {i k:Nat} {v:Int} (h : ∀ x∈O,x.length=z) (hi:i<O.length) (hk:k<z):(flC O).set (i*z+k) (.int .i64 v)=flC (O.set i (O[i]!.set k v)):=by
 have hx:O[i]!.length=z:=h _ (by rw[getElem!_pos O i hi];exact List.getElem_mem _)
 have h' : ∀ x∈O.set i (O[i]!.set k v),x.length=z:=fun x hx2=>by
  rcases List.mem_or_eq_of_mem_set hx2 with h1 | h1
  ·exact h x h1
  ·rw[h1,List.length_set];exact hx
 have hl:=flC_len h
 have hl' := flC_len h'
 rw[List.length_set] at hl'
 refine List.ext_getElem? (fun q=>?_)
 by_cases hq:q<O.length*z
 ·have hz:0<z:=by omega
  have hqi:q / z<O.length:=Nat.div_lt_of_lt_mul (by rw[Nat.mul_comm];exact hq)
  have hqk:q % z<z:=Nat.mod_lt _ hz
  have hqe:q=q / z*z+q % z:=by rw[Nat.mul_comm];exact (Nat.div_add_mod q z).symm
  rw[hqe,flC_get h' (by simpa using hqi) hqk,List.getElem?_set]
  by_cases e:i*z+k=q / z*z+q % z
  ·have e1:i=q / z:=by
    have a1:(i*z+k) / z=i:=by rw[Nat.mul_comm,Nat.mul_add_div hz,Nat.div_eq_of_lt hk];rfl
    rw[e,<- hqe] at a1;exact a1.symm
   have e2:k=q % z:=by rw[<- e1] at e;omega
   rw[if_pos e,if_pos (by rw[e,hl,<- hqe];exact hq),<- e1,<- e2,getElem!_pos (O.set i _) i (by simpa using hi),List.getElem_set_self,getElem!_pos (O[i]!.set k v) k (by simpa using (by omega:k<O[i]!.length)),List.getElem_set_self]
  ·rw[if_neg e,flC_get h hqi hqk]
   by_cases e1:i=q / z
   ·rw[<- e1,getElem!_pos (O.set i _) i (by simpa using hi),List.getElem_set_self]
    have e2:k≠q % z:=fun e2=>e (by rw[e1,e2])
    rw[getElem!_pos (O[i]!.set k v) (q % z) (by rw[List.length_set];omega),List.getElem_set_ne e2,getElem!_pos O[i]! (q % z) (by omega)]
   ·rw[getElem!_pos (O.set i _) (q / z) (by simpa using hqi),List.getElem_set_ne e1,getElem!_pos O (q / z) hqi]
 ·rw[List.getElem?_eq_none (by rw[List.length_set,hl];omega),List.getElem?_eq_none (by rw[hl'];omega)]
def loR (l:Ctr):List (List Int):=l.map (fun x=>[x.1[0]!,x.1[1]!,x.2])
theorem loR3 {l:Ctr} : ∀ x∈loR l,x.length=3:=fun x hx=>by
 obtain ⟨y,_,rfl⟩:=List.mem_map.1 hx;rfl
theorem loR_len (l:Ctr):(loR l).length=l.length:=by simp[loR]
theorem loR_get {l:Ctr} {i:Nat} (h:i<l.length):(loR l)[i]! = [l[i]!.1[0]!,l[i]!.1[1]!,l[i]!.2]:=by
 rw[getElem!_pos (loR l) i (by rw[loR_len];exact h),getElem!_pos l i h];simp[loR]
theorem bump_at {k:List Int} {n:Int} : ∀ {l:Ctr} {i:Nat},i<l.length->(∀ j,j<i->l[j]!.1≠k)->l[i]!.1=k->bump l k n=l.set i (k,l[i]!.2+n)
 | x::l,0,_,_,h2=>by
   have h2:x.1=k:=by simpa using h2
   unfold bump
   rw[if_pos h2]
   simp[h2]
 | x::l,i+1,hi,h1,h2=>by
   have h0:x.1≠k:=by have:=h1 0 (by omega);simpa using this
   unfold bump
   rw[if_neg h0,bump_at (i:=i) (by simpa using hi) (fun j hj=>by have:=h1 (j+1) (by omega);simpa using this) (by simpa using h2)]
   simp
theorem bump_new {k:List Int} {n:Int} : ∀ {l:Ctr},(∀ j,j<l.length->l[j]!.1≠k)->bump l k n=l ++ [(k,n)]
 | [],_=>rfl
 | x::l,h=>by
   have h0:x.1≠k:=by have:=h 0 (by simp);simpa using this
   unfold bump
   rw[if_neg h0,bump_new (fun j hj=>by have:=h (j+1) (by simpa using hj);simpa using this)]
   rfl
theorem loR_set {l:Ctr} {i:Nat} {a b n:Int} (hi:i<l.length) (h:l[i]!.1 = [a,b]):loR (l.set i ([a,b],n))=(loR l).set i ((loR l)[i]!.set 2 n):=by
 rw[loR_get hi,h]
 unfold loR
 rw[List.map_set]
 rfl
end Go.Af.Tryz
namespace Go.Af.Tryz
open Go Go.Proofs Go.Af.Pl Co Ne
set_option maxRecDepth 100000
set_option maxHeartbeats 4000000
attribute [local irreducible] awp qj qm qP qH qJ isCells qA qx qZ qX qI roundEnd wZ wO keyK vZ wP wW
abbrev loB (l:Ctr):Blk := .cells true 3 (flC (loR l))
theorem g105 {H0 H:List Blk} {o:Nat->Prop} {L:List (Bool × Nat × Blk)} {R:Value->List Blk->Prop} {k:Nat} {l:Ctr} {a b n:Int} (h2 : ∀ x∈l,x.1.length=2) (hlen:l.length<=1000000) (hv : ∀ x∈l,0<=x.2/\x.2<=1000000000000) (hn:0<=n/\n<=1000000)
 (hs:HS H0 o ((true,k,loB l)::L) H) (hR : ∀ H' k',HS H0 o ((true,k',loB (bump l [a,b] n))::L) H' -> R (sv k' (bump l [a,b] n).length) H') :
 qj Tryz.prog 105 [sv k l.length, .int .i64 a, .int .i64 b, .int .i64 n] H R:=by
 refine qc tok Tryz.call105 Tryz.func105 rfl Tryz.ntmps105 rfl (by simp) ?_
 refine qM (fun _ hKs=>hKs _ _ ?_);clear hKs
 have hrl:=loR_len l
 have hr3:=loR3 (l:=l)
 have hb:=hs.get 0 rfl
 repeat' (first|refine nX ?_|refine nY (fun K0 hK0=>?_)|refine zSt hs ?_|refine nN hs (fun _ _ hs=>?_)|refine nS hs (fun _ _ hs=>?_)|refine sX hs (fun _ hs=>?_)|(refine hK0 _ _ ?_;clear hK0)|fail)
 refine yC (α := Nat) tok (fun i=>i<=l.length/\∀ j,j<i->l[j]!.1≠[a,b]) (fun i=>[(0,sv k l.length),(1, .int .i64 a),(2, .int .i64 b),(3, .int .i64 n),(9, .int .i64 i)]) (fun _=>H) (fun i=>l.length-i)
  0 ⟨Nat.zero_le _,fun j hj=>absurd hj (by omega)⟩ ⟨⟨_,rfl, .rfl⟩,⟨_,rfl, .rfl⟩,⟨_,rfl, .rfl⟩,⟨_,rfl, .rfl⟩,⟨_,rfl, .rfl⟩,trivial⟩ WkH.rfl ?_
 rintro i ⟨hi,hne⟩
 try dsimp only at hi hne ⊢
 repeat' (first|refine nX ?_|refine nY (fun K0 hK0=>?_)|refine zSt hs ?_|refine nN hs (fun _ _ hs=>?_)|refine nS hs (fun _ _ hs=>?_)|refine sX hs (fun _ hs=>?_)|(refine hK0 _ _ ?_;clear hK0)|fail)
 refine aI (fun hc=>?_) (fun hc=>?_)
 ·have hlt:i<l.length:=by simp at hc;omega
  clear hc
  have hx2:l[i]!.1.length=2:=h2 _ (by rw[getElem!_pos l i hlt];exact List.getElem_mem _)
  have hxv:=hv l[i]! (by rw[getElem!_pos l i hlt];exact List.getElem_mem _)
  have hrow:=loR_get hlt
  have hltr:i<(loR l).length:=by rw[hrl];exact hlt
  obtain ⟨p,q,hpq⟩ : ∃ p q,l[i]!.1 = [p,q]:=by
   match hm:l[i]!.1,hx2 with
   | [p,q],_=>exact⟨p,q,rfl⟩
  rw[hpq] at hrow
  replace hrow:(loR l)[i]! = [p,q,l[i]!.2]:=hrow
  repeat' (first|refine nX ?_|refine nY (fun K0 hK0=>?_)|refine zSt hs ?_|refine nN hs (fun _ _ hs=>?_)|refine nS hs (fun _ _ hs=>?_)|refine sX hs (fun _ hs=>?_)|(refine hK0 _ _ ?_;clear hK0)|fail)
  refine Ld_fl (z:=3) (k:=0) hr3 hltr (by decide) ?_
  rw[hrow,show ([p,q,l[i]!.2]:List Int)[0]! = p from rfl]
  repeat' (first|refine nX ?_|refine nY (fun K0 hK0=>?_)|refine zSt hs ?_|refine nN hs (fun _ _ hs=>?_)|refine nS hs (fun _ _ hs=>?_)|refine sX hs (fun _ hs=>?_)|(refine dI (fun hc=>?_) (fun hc=>?_) <;> try (exfalso;omega))|(refine hK0 _ _ ?_;clear hK0)|fail)
  ·refine Ld_fl (z:=3) (k:=1) hr3 hltr (by decide) ?_
   rw[hrow,show ([p,q,l[i]!.2]:List Int)[1]! = q from rfl]
   repeat' (first|refine nX ?_|refine nY (fun K0 hK0=>?_)|refine zSt hs ?_|refine nN hs (fun _ _ hs=>?_)|refine nS hs (fun _ _ hs=>?_)|refine sX hs (fun _ hs=>?_)|(refine dI (fun hc=>?_) (fun hc=>?_) <;> try (exfalso;omega))|(refine hK0 _ _ ?_;clear hK0)|fail)
   ·have e0:p=a:=by omega
    have e1:q=b:=by omega
    rw[e0,e1] at hpq
    have hbn:=bump_at (n:=n) hlt hne hpq
    have hset:(flC (loR l)).set (0+i*3+2) (.int .i64 (l[i]!.2+n))=flC (loR (bump l [a,b] n)):=by
     rw[hbn,loR_set hlt hpq,Nat.zero_add];exact flC_set hr3 hltr (by decide)
    have hbl:(bump l [a,b] n).length=l.length:=by rw[hbn];simp
    refine Ld_fl (z:=3) (k:=2) hr3 hltr (by decide) ?_
    rw[hrow,show ([p,q,l[i]!.2]:List Int)[2]! = l[i]!.2 from rfl]
    repeat' (first|refine nX ?_|refine nY (fun K0 hK0=>?_)|refine zSt hs ?_|refine nN hs (fun _ _ hs=>?_)|refine nS hs (fun _ _ hs=>?_)|refine sX hs (fun _ hs=>?_)|(refine dI (fun hc=>?_) (fun hc=>?_) <;> try (exfalso;omega))|(refine hK0 _ _ ?_;clear hK0)|fail)
    refine vG hs 0 rfl (flC (loR (bump l [a,b] n))) rfl rfl (by dsimp only;rw[flC_len hr3];omega) hset (fun H5 _ hs=>?_)
    have e:=hR H5 k hs
    rw[hbl] at e
    repeat' (first|refine nX ?_|refine nY (fun K0 hK0=>?_)|refine zSt hs ?_|refine nN hs (fun _ _ hs=>?_)|refine nS hs (fun _ _ hs=>?_)|refine sX hs (fun _ hs=>?_)|(refine hK0 _ _ ?_;clear hK0)|fail)
    exact e
   ·have hnn : ∀ j,j<i+1->l[j]!.1≠[a,b]:=fun j hj=>by
     by_cases hji:j=i
     ·subst hji;rw[hpq];simp;omega
     ·exact hne j (by omega)
    exact⟨i+1,⟨hlt,hnn⟩,by omega,Or.inl ⟨⟨rfl,rfl,rfl,rfl,rfl,trivial⟩,rfl⟩⟩
  ·have hnn : ∀ j,j<i+1->l[j]!.1≠[a,b]:=fun j hj=>by
    by_cases hji:j=i
    ·subst hji;rw[hpq];simp;omega
    ·exact hne j (by omega)
   exact⟨i+1,⟨hlt,hnn⟩,by omega,Or.inl ⟨⟨rfl,rfl,rfl,rfl,rfl,trivial⟩,rfl⟩⟩
 ·have hie:i=l.length:=by simp at hc;omega
  subst hie
  have hbn:=bump_new (n:=n) hne
  have hfl:=flC_len hr3
  repeat' (first|refine nX ?_|refine nY (fun K0 hK0=>?_)|refine zSt hs ?_|refine nN hs (fun _ _ hs=>?_)|refine nS hs (fun _ _ hs=>?_)|refine sX hs (fun _ hs=>?_)|(refine hK0 _ _ ?_;clear hK0)|fail)
  refine app_hs hs 1 rfl (by decide) (hs.get 0 rfl) rfl rfl (by rw[hfl,hrl]) (by dsimp only;omega) (fun H4 k' _ _ hs=>?_)
  repeat' (first|refine nX ?_|refine nY (fun K0 hK0=>?_)|refine zSt hs ?_|refine nN hs (fun _ _ hs=>?_)|refine nS hs (fun _ _ hs=>?_)|refine sX hs (fun _ hs=>?_)|(refine hK0 _ _ ?_;clear hK0)|fail)
  have e:=hR H4 k' (by
   have h5:=hs.tail
   rw[hbn,loB,show loR (l ++ [([a,b],n)])=loR l ++ [[a,b,n]] by simp[loR],flC_app]
   exact h5)
  rw[hbn,List.length_append] at e
  exact e
theorem grt_app1 (l:Ctr) (x:List Int × Int):grt allK (l ++ [x])=max (grt allK l) x.2:=by simp[grt,allK]
theorem grt_in : ∀ {l:Ctr},(∀ x∈l,0<=x.2/\x.2<=1000000000000)->0<=grt allK l/\grt allK l<=1000000000000:=by
 intro l h
 have key : ∀ (l:Ctr) (n:Int),0<=n/\n<=1000000000000->(∀ x∈l,0<=x.2/\x.2<=1000000000000)->0<=l.foldl (fun n x=>if allK x.1 then max n x.2 else n) n/\l.foldl (fun n x=>if allK x.1 then max n x.2 else n) n<=1000000000000:=by
  intro l
  induction l with
  | nil=>intro n hn _;exact hn
  | cons x l ih =>
    intro n hn h
    have:=h x List.mem_cons_self
    refine ih _ ?_ (fun y hy=>h y (List.mem_cons_of_mem _ hy))
    simp only[allK,if_true]
    omega
 exact key l 0 (by omega) h
theorem g108 {H:List Blk} {R:Value->List Blk->Prop} {k:Nat} {w:Bool} {l:Ctr} (hlen:l.length<=1000000) (hv : ∀ x∈l,0<=x.2/\x.2<=1000000000000) (hb:bget H k=some (.cells w 3 (flC (loR l)))) (h:R (.int .i64 (grt allK l)) H) :
 qj Tryz.prog 108 [sv k l.length] H R:=by
 refine qc tok Tryz.call108 Tryz.func108 rfl Tryz.ntmps108 rfl (by simp) ?_
 refine qM (fun _ hKs=>hKs _ _ ?_);clear hKs
 have hrl:=loR_len l
 have hr3:=loR3 (l:=l)
 have hs:=HS.start H none'
 repeat' (first|refine nX ?_|refine nY (fun K0 hK0=>?_)|refine zSt hs ?_|refine nN hs (fun _ _ hs=>?_)|refine nS hs (fun _ _ hs=>?_)|refine sX hs (fun _ hs=>?_)|(refine hK0 _ _ ?_;clear hK0)|fail)
 refine yC (α := Nat) tok (fun i=>i<=l.length) (fun i=>[(0,sv k l.length),(3, .int .i64 (grt allK (l.take i))),(4, .int .i64 i)]) (fun _=>H) (fun i=>l.length-i)
  0 (Nat.zero_le _) ⟨⟨_,rfl, .rfl⟩,⟨_,rfl, .rfl⟩,⟨_,rfl, .rfl⟩,trivial⟩ WkH.rfl ?_
 rintro i hi
 try dsimp only at hi ⊢
 repeat' (first|refine nX ?_|refine nY (fun K0 hK0=>?_)|refine zSt hs ?_|refine nN hs (fun _ _ hs=>?_)|refine nS hs (fun _ _ hs=>?_)|refine sX hs (fun _ hs=>?_)|(refine hK0 _ _ ?_;clear hK0)|fail)
 refine aI (fun hc=>?_) (fun hc=>?_)
 ·have hlt:i<l.length:=by simp at hc;omega
  clear hc
  have hltr:i<(loR l).length:=by rw[hrl];exact hlt
  have hrow:=loR_get hlt
  have hxv:=hv l[i]! (by rw[getElem!_pos l i hlt];exact List.getElem_mem _)
  have htk:l.take (i+1)=l.take i ++ [l[i]!]:=by rw[List.take_succ_eq_append_getElem hlt,getElem!_pos l i hlt]
  have hg:=grt_app1 (l.take i) l[i]!
  rw[<- htk] at hg
  have hgi:=grt_in (l:=l.take i) (fun x hx=>hv x (List.mem_of_mem_take hx))
  repeat' (first|refine nX ?_|refine nY (fun K0 hK0=>?_)|refine zSt hs ?_|refine nN hs (fun _ _ hs=>?_)|refine nS hs (fun _ _ hs=>?_)|refine sX hs (fun _ hs=>?_)|(refine hK0 _ _ ?_;clear hK0)|fail)
  refine qi hb ⟨i,rfl,hlt, ?_⟩
  repeat' (first|refine nX ?_|refine nY (fun K0 hK0=>?_)|refine zSt hs ?_|refine nN hs (fun _ _ hs=>?_)|refine nS hs (fun _ _ hs=>?_)|refine sX hs (fun _ hs=>?_)|(refine hK0 _ _ ?_;clear hK0)|fail)
  refine qi hb ?_
  repeat' (first|refine nX ?_|refine nY (fun K0 hK0=>?_)|refine zSt hs ?_|refine nN hs (fun _ _ hs=>?_)|refine nS hs (fun _ _ hs=>?_)|refine sX hs (fun _ hs=>?_)|(refine hK0 _ _ ?_;clear hK0)|fail)
  refine ql hb ?_
  refine Ld_fl (z:=3) (k:=2) hr3 hltr (by decide) ?_
  rw[hrow,show ([l[i]!.1[0]!,l[i]!.1[1]!,l[i]!.2]:List Int)[2]! = l[i]!.2 from rfl]
  generalize grt allK (l.take i)=gi at hg hgi ⊢
  generalize l[i]!.2=v at hg hxv ⊢
  repeat' (first|refine nX ?_|refine nY (fun K0 hK0=>?_)|refine zSt hs ?_|refine nN hs (fun _ _ hs=>?_)|refine nS hs (fun _ _ hs=>?_)|refine sX hs (fun _ hs=>?_)|(refine dI (fun hc=>?_) (fun hc=>?_) <;> try (exfalso;omega))|(refine hK0 _ _ ?_;clear hK0)|fail)
  refine⟨i+1,hlt,by omega,Or.inl ⟨⟨rfl, ?_,rfl,trivial⟩,rfl⟩⟩
  rw[hg];rfl
 ·have hie:i=l.length:=by simp at hc;omega
  subst hie
  rw[List.take_length]
  repeat' (first|refine nX ?_|refine nY (fun K0 hK0=>?_)|refine zSt hs ?_|refine nN hs (fun _ _ hs=>?_)|refine nS hs (fun _ _ hs=>?_)|refine sX hs (fun _ hs=>?_)|(refine hK0 _ _ ?_;clear hK0)|fail)
  exact h
theorem c107 {H:List Blk} {m:Mc} {s:Sh} {b c:Nat} {r:Int} {R:Value->List Blk->Prop} (g:Mr H m b c) (k:McOk m s) (hr:0<=r/\r<m.hs.length) (h : ∀ H',HS H none' [] H' -> R (.int .i64 (homF m r)) H'):qj Tryz.prog 107 [mcV m b c, .int .i64 r] H R:=by
 obtain ⟨w,hc⟩:=g.h
 obtain ⟨w0,hb⟩:=g.s
 obtain ⟨i,rfl⟩ : ∃ i:Nat,r=i:=⟨r.toNat,by omega⟩
 have hi:i<m.hs.length:=by omega
 have hx:=(k.home hr).2.2
 have hin:=k.hs m.hs[i]! (by rw[getElem!_pos m.hs i hi];exact List.getElem_mem _)
 unfold homF at h
 rw[Int.toNat_natCast] at hx h
 refine qc tok Tryz.call107 Tryz.func107 rfl Tryz.ntmps107 rfl (by simp) ?_
 refine vg (((HS.start H none').add (c:=false) hc (fun i p hi=>by simp at hi) (fun h=>by cases h))) (fun H1 b1 e1 l1 hs=>?_)
 refine qM (fun _ hKs=>hKs _ _ ?_);clear hKs
 clear e1 l1
 repeat' (first|refine nX ?_|refine nY (fun K0 hK0=>?_)|refine zSt hs ?_|refine nN hs (fun _ _ hs=>?_)|refine nS hs (fun _ _ hs=>?_)|refine sX hs (fun _ hs=>?_)|(refine hK0 _ _ ?_;clear hK0)|fail)
 have hbb:=vK (qf hs) hb
 refine vk tok mx [0,1,0,4,0,28,60,127,255,511,511,1023,4095] [false,false,true,true,true,true,true,false,false,false,false,false,false] (.first 0 (.first 1 (.first 2 (.first 3 (.first 4 (.first 5 (.first 6 (.first 7 (.first 8 (.first 9 (.first 10 (.first 11 (.first 12 .done))))))))))))) (by kernel_rfl) ?_
 refine vz (fun K0 hK0=>?_)
 repeat' (first|refine nX ?_|refine nY (fun K0 hK0=>?_)|refine zSt hs ?_|refine nN hs (fun _ _ hs=>?_)|refine nS hs (fun _ _ hs=>?_)|refine sX hs (fun _ hs=>?_)|(refine hK0 _ _ ?_;clear hK0)|fail)
 refine Ld_at hi ?_
 repeat' (first|refine nX ?_|refine nY (fun K0 hK0=>?_)|refine zSt hs ?_|refine nN hs (fun _ _ hs=>?_)|refine nS hs (fun _ _ hs=>?_)|refine sX hs (fun _ hs=>?_)|(refine hK0 _ _ ?_;clear hK0)|fail)
 (first | refine Ne.c27 (by unfold I64;omega) hbb (Nat.le_refl _) ?_ | refine (Ne.c27 (by unfold I64;omega) hbb (Nat.le_refl _) ?_).call)
 rw[k.sh]
 unfold homeV
 dsimp only
 rw[if_neg (by omega)]
 repeat' (first|refine nX ?_|refine nY (fun K0 hK0=>?_)|refine zSt hs ?_|refine nN hs (fun _ _ hs=>?_)|refine nS hs (fun _ _ hs=>?_)|refine sX hs (fun _ hs=>?_)|(refine hK0 _ _ ?_;clear hK0)|fail)
 exact h _ (qf hs)
theorem l107 {m:Mc} {s:Sh} (k:McOk m s) {r:Int} (hr:0<=r/\r<m.hs.length) :
 qj Tryz.prog 107 [mcV m 0 1, .int .i64 r] [ro m.sd,ro m.hs] (fun v H=>v = .int .i64 (homF m r)/\H = [ro m.sd,ro m.hs]):=by
 refine qy (c107 (b:=0) (c:=1) ⟨⟨_,rfl⟩,⟨_,rfl⟩⟩ k hr (fun H' hs=>?_))
 have e0:=vK hs (b:=0) (B:=ro m.sd) rfl
 have e1:=vK hs (b:=1) (B:=ro m.hs) rfl
 refine⟨[(0,0),(1,0)], .int .i64 (homF m r),[ro m.sd,ro m.hs],by simp, ?_,⟨⟨_,e0,BRen.ints _ _ _⟩,⟨_,e1,BRen.ints _ _ _⟩,trivial⟩,rfl,VRen.plain rfl,rfl,rfl⟩
 intro i hi
 match i,hi with
 | 0,_=>rfl
 | 1,_=>rfl
theorem c107x {H:List Blk} {m:Mc} {s:Sh} {b c:Nat} {r:Int} {R:Value->List Blk->Prop} (g:Mr H m b c) (k:McOk m s) (hr:0<=r/\r<m.hs.length) (h:R (.int .i64 (homF m r)) H):qm Tryz.prog 107 [mcV m b c, .int .i64 r] H R:=by
 obtain ⟨w,hb⟩:=g.s
 obtain ⟨w2,hc⟩:=g.h
 refine vF (l107 k hr) [(b,0),(c,0)] rfl ?_ ⟨⟨_,hb,BRen.seg fun i x hx=>by rw[Nat.zero_add,qQ,hx];rfl⟩,⟨_,hc,BRen.seg fun i x hx=>by rw[Nat.zero_add,qQ,hx];rfl⟩,trivial⟩ rfl h
 exact .cons (.agg (.cons (.int _ _) (.cons (VRen.slice rfl rfl (Nat.le_refl _)) (.cons (.int _ _) (.cons (VRen.slice rfl rfl (Nat.le_refl _)) (.cons (.int _ _) (.cons (.int _ _) (.cons (.int _ _) (.cons (.int _ _) .nil))))))))) (.cons (.int _ _) .nil)
theorem c106 {H:List Blk} {m:Mc} {s:Sh} {b c:Nat} {x y:Int} {R:Value->List Blk->Prop} (g:Mr H m b c) (k:McOk m s) (hok:RtOk m.kd m.ho m.sd s x y)
 (h : ∀ H' k ys cp,HS H none' [(true,k,rw' ys)] H' -> ys.take (wz s x y).1.length=(wz s x y).1->R (.tuple ⟨[.slice (some ⟨k,0,none⟩) (wz s x y).1.length cp, .int .i64 0]⟩) H') :
 qj Tryz.prog 106 [spV m.kd (sv b m.sd.length) m.ho, .int .i64 x, .int .i64 y] H R:=by
 obtain ⟨w,hb⟩:=g.s
 have hp:=xN k.ok hok.hx hok.hy
 refine ((l14 m.kd m.ho m.sd x y).ok hok hb (Nat.le_refl _) (fun N v1 r=>?_)).call
 rcases r with ⟨_,e⟩ | ⟨q,ys,cp,rfl,hq,hy,hc⟩
 ·rw[e] at hp;simp at hp
 ·have hlt:=(List.getElem?_eq_some_iff.1 hq).1
  refine h _ (H.length+q) ys cp ?_ hy
  have h0:HS H none' [] (H++N.map rw'):=(HS.start H none').ext (by simp) (fun i hi=>bget_app_lt hi)
  refine h0.add (c:=true) ?_ (fun i p hi=>by simp at hi) (fun _=>.inr (by omega))
  rw[ve,List.getElem?_append_right (by omega),Nat.add_sub_cancel_left,List.getElem?_map,hq]
  rfl
theorem c52 {H:List Blk} {m:Mc} {b c:Nat} {a0 a1 a2 a3 a4:Int} {R:Value->List Blk->Prop} (h0:wC (a0*m.st)) (h1:wC (a1*m.hp)) (h2:wC (a2*m.wd)) (h3:wC (a3*m.jn)) (h : ∀ H',HS H none' [] H' -> R (.int .i64 (tmF [a0,a1,a2,a3] (prL m))) H') :
 qj Tryz.prog 52 [mcV m b c, .agg ⟨ints [a0,a1,a2,a3,a4]⟩] H R:=by
 have e:tmF [a0,a1,a2,a3] (prL m)=m.st*a0+m.hp*a1+m.wd*a2+m.jn*a3:=by
  show a0*m.st+a1*m.hp+a2*m.wd+a3*m.jn=_
  rw[Int.mul_comm a0,Int.mul_comm a1,Int.mul_comm a2,Int.mul_comm a3]
 rw[e] at h
 rw[Int.mul_comm] at h0 h1 h2 h3
 refine qc tok Tryz.call52 Tryz.func52 rfl Tryz.ntmps52 rfl (by simp) ?_
 refine vg (HS.start H none') (fun H1 b2 e1 l1 hs=>?_)
 refine vg hs (fun H2 b3 e2 l2 hs=>?_)
 refine qM (fun _ hKs=>hKs _ _ ?_);clear hKs
 clear e1 l1 e2 l2
 repeat' (first|refine nX ?_|refine nY (fun K0 hK0=>?_)|refine zSt hs ?_|refine nN hs (fun _ _ hs=>?_)|refine nS hs (fun _ _ hs=>?_)|refine sX hs (fun _ hs=>?_)|(refine hK0 _ _ ?_;clear hK0)|fail)
 exact h _ (qf hs)
end Go.Af.Tryz
