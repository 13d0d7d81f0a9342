/-
  The totals of each round, plainly.
  The costs of a round: how great they are, and how they hang together.
  The totals of each round (plan.Rounds).
  The totals of a schedule (plan.Measure).
-/
import Derived.Test.YtgdbclgcbbbenaaGreatMPD
import Derived.Test.YtgdbclgcbbbenaaGreatMGC
import Derived.Test.YtgdbclgcbbbenaaGreatMPC
import Derived.Test.YtgdbclgcbbbenaaGreatMCA
set_option linter.all false
namespace Go.Af.Tryz
open Go Go.Proofs Go.Af.Pl Co Ne
open Go.Af.Coll (St zo sndP cmpF badP)
set_option maxRecDepth 100000

structure SdOk (l:List St) (p:Int):Prop where
 r : ∀ x∈l,(0<=x.rd/\x.rd<256)/\(0<=x.fr/\x.fr<p)/\(0<=x.to/\x.to<p)
 s : ∀ j,j+1<l.length->l[j]!.rd<=l[j+1]!.rd
theorem bef_rd {a b:St} (h3:Go.Af.Coll.befF a b=true):a.rd<=b.rd:=by
 unfold Go.Af.Coll.befF Go.Af.Coll.keyL at h3
 unfold Go.Af.Coll.befL at h3
 split at h3
 ·have:=of_decide_eq_true h3;omega
 ·omega
theorem self_in {p n:Int} {prev:Option St} {x:St} (h:zo p n prev x=0):((0<=x.rd/\x.rd<256)/\(0<=x.fr/\x.fr<p)/\(0<=x.to/\x.to<p))/\∀ y,prev=some y->y.rd<=x.rd:=by
 unfold zo at h
 split at h
 ·cases h
 ·split at h
  ·cases h
  ·split at h
   ·cases h
   ·split at h
    ·cases h
    ·rename_i h1 h2 h3 h4
     refine⟨by omega,fun y hy=>?_⟩
     have hb:badP prev x=false:=by
      cases hb:badP prev x with
      | false=>rfl
      | true=>exact absurd (.inr (.inr hb)) h4
     subst hy
     exact bef_rd (by simpa [badP] using hb)
theorem sndP_in {p n:Int} : ∀ {l:List St} {prev:Option St} {c:Go.Af.Coll.Ck},sndP p n prev c l=0->SdOk l p/\∀ y x,prev=some y->l[0]? = some x->y.rd<=x.rd
 | [],_,_,_=>⟨⟨fun x hx=>(by cases hx),fun j hj=>(by simp at hj)⟩,fun y x _ h=>(by simp at h)⟩
 | x::l,prev,c,h=>by
   unfold sndP at h
   split at h
   ·rename_i h1;exact absurd h h1
   ·rename_i h1
    split at h
    ·rename_i h2;exact absurd h h2
    ·have h0:zo p n prev x=0:=Classical.not_not.1 h1
     obtain ⟨a,b⟩:=self_in h0
     obtain ⟨k,k2⟩:=sndP_in h
     refine⟨⟨fun y hy=>?_,fun j hj=>?_⟩,fun y z hy hz=>?_⟩
     ·rcases List.mem_cons.1 hy with rfl | hy
      ·exact a
      ·exact k.r y hy
     ·cases j with
      | zero =>
        cases l with
        | nil=>simp at hj
        | cons z l=>exact k2 x z rfl rfl
      | succ j=>exact k.s j (by simpa using hj)
     ·simp at hz;subst hz;exact b y hy
theorem snd_in {t:Tk} {l:List St} (h:sndF t l=0):chkF t=0/\SdOk l t.pr:=by
 unfold sndF at h
 split at h
 ·rename_i h1;exact absurd h h1
 ·rename_i h1;exact⟨Classical.not_not.1 h1,(sndP_in h).1⟩
theorem SdOk.le {l:List St} {p:Int} (k:SdOk l p) : ∀ (d i:Nat),i+d<l.length->l[i]!.rd<=l[i+d]!.rd
 | 0,i,_=>Int.le_refl _
 | d+1,i,h=>by
   have h1:=k.le d i (by omega)
   have h2:=k.s (i+d) (by omega)
   rw[show i+(d+1)=i+d+1 by omega]
   omega
def segF (l:List St) (r:Nat):List St:=l.filter (fun x=>decide (x.rd=(r:Int)))
def totR (s:Sh) (m:Mc) (l:List St) (r:Nat):List Int:=totF m (rdcF s m (segF l r))
def outT (s:Sh) (m:Mc) (l:List St) (k n:Nat):List (List Int):=(List.range n).map (fun r=>if r<k then totR s m l r else [0,0,0,0,0])
theorem rdc_nil (s:Sh) (m:Mc):rdcF s m [] = [0,0,0,0]:=rfl
theorem tot_nil (m:Mc):totF m [0,0,0,0] = [0,0,0,0,0]:=by
 show [0,0,0,0,0*m.st+0*m.hp+0*m.wd+0*m.jn]=_
 simp
theorem outT_up {s:Sh} {m:Mc} {l:List St} {k k' n:Nat} (hk:k<=k') (h : ∀ x∈l, ¬ ((k:Int)<=x.rd/\x.rd<k')):outT s m l k n=outT s m l k' n:=by
 unfold outT
 refine List.map_congr_left (fun r _=>?_)
 by_cases h1:r<k
 ·rw[if_pos h1,if_pos (by omega)]
 ·rw[if_neg h1]
  by_cases h2:r<k'
  ·rw[if_pos h2]
   have e:segF l r = []:=by
    unfold segF
    rw[List.filter_eq_nil_iff]
    intro x hx hd
    have:=of_decide_eq_true hd
    exact h x hx (by omega)
   unfold totR
   rw[e,rdc_nil,tot_nil]
  ·rw[if_neg h2]
theorem outT_set {s:Sh} {m:Mc} {l:List St} {r n:Nat} (hr:r<n):(outT s m l r n).set r (totR s m l r)=outT s m l (r+1) n:=by
 unfold outT
 apply List.ext_getElem
 ·simp
 ·intro i h1 h2
  simp only[List.getElem_set,List.getElem_map,List.getElem_range]
  by_cases h:r=i
  ·rw[if_pos h,if_pos (by omega),h]
  ·rw[if_neg h]
   by_cases h3:i<r
   ·rw[if_pos h3,if_pos (by omega)]
   ·rw[if_neg h3,if_neg (by omega)]
theorem outT_len (s:Sh) (m:Mc) (l:List St) (k n:Nat):(outT s m l k n).length=n:=by unfold outT;simp
theorem seg_eq {l:List St} {p:Int} (k:SdOk l p) {a b r:Nat} (hab:a<b) (hb:b<=l.length) (h1 : ∀ j,j<a->l[j]!.rd<r) (h2 : ∀ j,a<=j->j<b->l[j]!.rd=r) (h3:b<l.length->(r:Int)<l[b]!.rd):segF l r=(l.drop a).take (b-a):=by
 have e:l=l.take a++((l.drop a).take (b-a)++l.drop b):=by
  conv=>lhs;rw[<- List.take_append_drop a l,<- List.take_append_drop (b-a) (l.drop a),List.drop_drop]
  rw[show a+(b-a)=b by omega]
 have f1:(l.take a).filter (fun x=>decide (x.rd=(r:Int))) = []:=by
  rw[List.filter_eq_nil_iff]
  intro x hx hd
  obtain ⟨j,hj,rfl⟩:=List.getElem_of_mem hx
  rw[List.length_take] at hj
  have:=h1 j (by omega)
  rw[getElem!_pos l j (by omega)] at this
  have:=of_decide_eq_true hd
  rw[List.getElem_take] at this
  omega
 have f2:((l.drop a).take (b-a)).filter (fun x=>decide (x.rd=(r:Int)))=(l.drop a).take (b-a):=by
  rw[List.filter_eq_self]
  intro x hx
  obtain ⟨j,hj,rfl⟩:=List.getElem_of_mem hx
  rw[List.length_take,List.length_drop] at hj
  have:=h2 (a+j) (by omega) (by omega)
  rw[getElem!_pos l (a+j) (by omega)] at this
  rw[List.getElem_take,List.getElem_drop]
  exact decide_eq_true this
 have f3:(l.drop b).filter (fun x=>decide (x.rd=(r:Int))) = []:=by
  rw[List.filter_eq_nil_iff]
  intro x hx hd
  obtain ⟨j,hj,rfl⟩:=List.getElem_of_mem hx
  rw[List.length_drop] at hj
  have h4:=h3 (by omega)
  have h5:=k.le j b (by omega)
  have:=of_decide_eq_true hd
  rw[List.getElem_drop] at this
  rw[getElem!_pos l (b+j) (by omega)] at h5
  omega
 unfold segF
 conv=>lhs;rw[e]
 rw[List.filter_append,List.filter_append,f1,f2,f3,List.nil_append,List.append_nil]
end Go.Af.Tryz
namespace Go.Af.Tryz
open Go Go.Proofs Go.Af.Pl Co Ne
open Go.Af.Coll (St)
set_option maxRecDepth 100000

theorem grt_bd {p:List Int->Bool} {B:Int} (hB:0<=B) : ∀ {l:Ctr} {z:Int},0<=z->z<=B->(∀ x∈l,p x.1=true->x.2<=B)->z<=l.foldl (fun n x=>if p x.1 then max n x.2 else n) z/\l.foldl (fun n x=>if p x.1 then max n x.2 else n) z<=B
 | [],z,h0,h1,_=>⟨Int.le_refl _,h1⟩
 | x::l,z,h0,h1,h=>by
   have hx:=h x List.mem_cons_self
   simp only[List.foldl_cons]
   by_cases hp:p x.1=true
   ·rw[if_pos hp]
    have:=grt_bd (p:=p) hB (l:=l) (z:=max z x.2) (by omega) (by have:=hx hp;omega) (fun y hy=>h y (List.mem_cons_of_mem _ hy))
    omega
   ·rw[if_neg hp]
    exact grt_bd (p:=p) hB (l:=l) h0 h1 (fun y hy=>h y (List.mem_cons_of_mem _ hy))
theorem grt_ge {p:List Int->Bool} {x:List Int × Int} : ∀ {l:Ctr} {z:Int},x∈l->p x.1=true->x.2<=l.foldl (fun n x=>if p x.1 then max n x.2 else n) z
 | y::l,z,h,hp=>by
   have up : ∀ (l:Ctr) (z:Int),z<=l.foldl (fun n x=>if p x.1 then max n x.2 else n) z:=by
    intro l
    induction l with
    | nil=>intro z;exact Int.le_refl _
    | cons y l ih =>
      intro z
      simp only[List.foldl_cons]
      split
      ·have:=ih (max z y.2);omega
      ·exact ih z
   simp only[List.foldl_cons]
   rcases List.mem_cons.1 h with rfl | h
   ·rw[if_pos hp]
    have:=up l (max z x.2)
    omega
   ·exact grt_ge h hp
theorem incR_len {s:Sh} {m:Mc} {x:List Int × Int} (h:(pthF s m x.1).length<=100):(incR s m x).length<=101:=by
 unfold incR chn
 simp only[List.length_cons,List.length_map,List.length_range]
 omega
theorem flat_len {α β : Type} {f : α->List β} {k:Nat} : ∀ {l:List α},(∀ x∈l,(f x).length<=k)->(l.flatMap f).length<=k*l.length
 | [],_=>by simp
 | x::l,h=>by
   have h1:=h x List.mem_cons_self
   have h2:=flat_len (f:=f) (k:=k) (l:=l) (fun y hy=>h y (List.mem_cons_of_mem _ hy))
   rw[List.flatMap_cons,List.length_append,List.length_cons,Nat.mul_add,Nat.mul_one]
   omega
theorem pth_len {m:Mc} {s:Sh} (mk:McOk m s) {a b:Int} (ha:0<=a/\a<m.hs.length) (hb:0<=b/\b<m.hs.length):1<=(pthF s m [a,b]).length/\(pthF s m [a,b]).length<=100:=by
 have hrt:=mk.rt ha hb
 exact xN mk.ok hrt.hx hrt.hy
theorem msg_pos {S:List St} : ∀ x∈msgF S,1<=x.2:=fun x hx=>by
 obtain ⟨k,v⟩:=x
 obtain ⟨h1,h2⟩:=(mem_cnt (zh _) k v).1 hx
 have h3:=(add_mem k (incM S) []).1 h1
 rw[cnt_ctr] at h2
 rcases h3 with h3 | h3
 ·simp at h3
 have key : ∀ xs:Ctr,(∀ y∈xs,y.2=1)->k∈keys xs->1<=sumK k xs:=by
  intro xs
  induction xs with
  | nil=>intro _ hk;simp at hk
  | cons y xs ih =>
    intro hy hk
    have h1:=hy y List.mem_cons_self
    have h0:=(sumK_bound (B:=1) k (xs:=xs) (fun z hz=>by rw[hy z (List.mem_cons_of_mem _ hz)];exact⟨by decide,by decide⟩)).1
    unfold sumK
    by_cases e:k=y.1
    ·rw[if_pos e];omega
    ·rw[if_neg e]
     have:=ih (fun z hz=>hy z (List.mem_cons_of_mem _ hz)) (by
      rcases List.mem_cons.1 (show k∈y.1::keys xs from hk) with h | h
      ·exact absurd h e
      ·exact h)
     omega
 have:=key (incM S) (fun y hy=>by obtain ⟨z,_,e,_⟩:=incM_one y hy;rw[e]) h3
 dsimp only
 omega
theorem rdc_bd {m:Mc} {s:Sh} {S:List St} (mk:McOk m s) (hn:S.length<=1000) (hr : ∀ x∈S,(0<=x.fr/\x.fr<m.hs.length)/\(0<=x.to/\x.to<m.hs.length)) :
 ∃ a b c d,rdcF s m S = [a,b,c,d]/\(0<=a/\a<=1)/\(0<=b/\b<=99)/\(0<=c/\c<=200000000)/\(0<=d/\d<=200000000)/\(0<c↔a=1)/\(0<b->a=1):=by
 refine⟨_,_,_,_,rfl, ?_⟩
 have mok:=msg_ok rfl hn hr
 have mlen:=msg_len S
 have hlk:Lk (incJ S++(msgF S).flatMap (incR s m)) 200000:=by
  refine⟨fun x hx=>?_, ?_⟩
  ·rcases List.mem_append.1 hx with h | h
   ·have:=incJ_one x h;omega
   ·obtain ⟨y,hy,h⟩:=List.mem_flatMap.1 h
    obtain ⟨a,b,_,_,_,_,h1,h2⟩:=mok y hy
    have:=incR_ok x h
    omega
  ·have h1:=incJ_len S
   have h2:=flat_len (f:=incR s m) (k:=101) (l:=msgF S) (fun x hx=>by
    obtain ⟨a,b,e,ha,hb,_⟩:=mok x hx
    exact incR_len (by rw[e];exact (pth_len mk ha hb).2))
   rw[List.length_append]
   omega
 have hent : ∀ x∈lodF s m S,x.2<=200000000:=fun x hx=>by
  obtain ⟨k,v⟩:=x
  have h1:=((mem_cnt (zh _) k v).1 hx).2
  have h2:=hlk.bnd k
  dsimp only
  omega
 have g1:=grt_bd (p:=noJ) (B:=200000000) (by decide) (l:=lodF s m S) (z:=0) (by decide) (by decide) (fun x hx _=>hent x hx)
 have g2:=grt_bd (p:=isJ) (B:=200000000) (by decide) (l:=lodF s m S) (z:=0) (by decide) (by decide) (fun x hx _=>hent x hx)
 have hhop:0<=hopF s m (msgF S)/\hopF s m (msgF S)<=99:=by
  have h : ∀ (M:Ctr) (z:Int),(∀ x∈M,(pthF s m x.1).length<=100)->0<=z->z<=99->0<=M.foldl (fun z x=>max z (((pthF s m x.1).length:Int)-1)) z/\M.foldl (fun z x=>max z (((pthF s m x.1).length:Int)-1)) z<=99:=by
   intro M
   induction M with
   | nil=>intro z _ h0 h1;exact⟨h0,h1⟩
   | cons x M ih =>
     intro z hM h0 h1
     have:=hM x List.mem_cons_self
     exact ih (max z (((pthF s m x.1).length:Int)-1)) (fun y hy=>hM y (List.mem_cons_of_mem _ hy)) (by omega) (by omega)
  exact h (msgF S) 0 (fun x hx=>by
   obtain ⟨a,b,e,ha,hb,_⟩:=mok x hx
   rw[e];exact (pth_len mk ha hb).2) (by decide) (by decide)
 have hone:(msgF S = []/\oneF (msgF S)=0)\/(msgF S≠[]/\oneF (msgF S)=1):=by
  cases hM:msgF S with
  | nil=>exact .inl ⟨rfl,rfl⟩
  | cons x M=>exact .inr ⟨by simp,rfl⟩
 refine⟨by omega,hhop,g1,g2, ?_, ?_⟩
 ·rcases hone with ⟨e,h0⟩ | ⟨e,h1⟩
  ·have hz:grt noJ (lodF s m S)=0:=by
    have hb:=grt_bd (p:=noJ) (B:=0) (by decide) (l:=lodF s m S) (z:=0) (by decide) (by decide) (fun x hx hp=>by
     exfalso
     have h3:x.1[0]! = 3:=by
      refine add_all (P:=fun k=>k[0]! = 3) (xs:=incJ S++(msgF S).flatMap (incR s m)) (fun y hy=>?_) x hx
      rw[e,List.flatMap_nil,List.append_nil] at hy
      obtain ⟨z,_,rfl⟩:=List.mem_map.1 hy
      rfl
     unfold noJ at hp
     rw[h3] at hp
     cases hp)
    unfold grt
    omega
   rw[hz,h0]
   omega
  ·obtain ⟨x,hx⟩:=List.exists_mem_of_ne_nil _ e
   obtain ⟨a,b,ek,ha,hb,_⟩:=mok x hx
   have hp:=msg_pos x hx
   have hin:([1,a,0],x.2)∈incJ S++(msgF S).flatMap (incR s m):=by
    refine List.mem_append_right _ (List.mem_flatMap.2 ⟨x,hx, ?_⟩)
    unfold incR
    rw[ek]
    exact List.mem_cons_self
   have hk : [1,a,0]∈keys (lodF s m S):=(add_mem _ _ []).2 (.inr (List.mem_map.2 ⟨_,hin,rfl⟩))
   have hge:x.2<=sumK [1,a,0] (incJ S++(msgF S).flatMap (incR s m)):=by
    have h : ∀ xs:Ctr,(∀ y∈xs,0<=y.2/\y.2<=1000)->([1,a,0],x.2)∈xs->x.2<=sumK [1,a,0] xs:=by
     intro xs
     induction xs with
     | nil=>intro _ h;cases h
     | cons y xs ih =>
       intro hy h
       have h0:=(sumK_bound [1,a,0] (xs:=xs) (fun z hz=>hy z (List.mem_cons_of_mem _ hz))).1
       have hy0:=hy y List.mem_cons_self
       unfold sumK
       rcases List.mem_cons.1 h with rfl | h
       ·rw[if_pos rfl];dsimp only;omega
       ·have:=ih (fun z hz=>hy z (List.mem_cons_of_mem _ hz)) h
        split <;> omega
    exact h _ (fun y hy=>(hlk.k y hy).2) hin
   have hmem:([1,a,0],cnt (lodF s m S) [1,a,0])∈lodF s m S:=(mem_cnt (zh _) _ _).2 ⟨hk,rfl⟩
   have hg:=grt_ge (p:=noJ) (z:=0) hmem rfl
   rw[show cnt (lodF s m S) [1,a,0]=sumK [1,a,0] (incJ S++(msgF S).flatMap (incR s m)) from cnt_ctr _ _] at hg
   dsimp only at hg
   rw[h1]
   constructor
   ·intro _;rfl
   ·intro _
    unfold grt
    omega
 ·intro hb
  rcases hone with ⟨e,h0⟩ | ⟨_,h1⟩
  ·rw[e] at hb
   exact absurd (show (0:Int)<0 from hb) (by decide)
  ·exact h1
end Go.Af.Tryz
namespace Go.Af.Tryz
open Go Go.Proofs Go.Af.Pl Co Ne
open Go.Af.Coll (St)
set_option maxRecDepth 100000
set_option maxHeartbeats 4000000
attribute [local irreducible] awp qj qm qP qH qJ isCells qA qx qZ qX qI roundEnd wZ wO keyK vZ wP wW

theorem c53x {H:List Blk} {m:Mc} {s:Sh} {b c d k0 n cp:Nat} {l:List St} {R:Value->List Blk->Prop} (g:Mr H m b c) (hst:Sts H l d) (mk:McOk m s) (hk0:k0+n<=l.length) (hn:n<=1000)
 (hr : ∀ x∈(l.drop k0).take n,(0<=x.fr/\x.fr<m.hs.length)/\(0<=x.to/\x.to<m.hs.length)) (h:R (.agg ⟨ints (rdcF s m ((l.drop k0).take n))⟩) H):qm Tryz.prog 53 [mcV m b c, .slice (some ⟨d,0+k0*6,none⟩) n cp] H R:=by
 obtain ⟨w,hb⟩:=g.s
 obtain ⟨w2,hc⟩:=g.h
 obtain ⟨w3,hd⟩:=hst.s
 refine vF (l53 (cp:=cp) mk hk0 hn hr) [(b,0),(c,0),(d,0)] rfl ?_ ⟨⟨_,hb,BRen.seg fun i x hx=>by rw[Nat.zero_add,qQ,hx];rfl⟩,⟨_,hc,BRen.seg fun i x hx=>by rw[Nat.zero_add,qQ,hx];rfl⟩,⟨_,hd, ?_⟩,trivial⟩ rfl h
 ·exact .cons (.agg (.cons (.int _ _) (.cons (VRen.slice rfl rfl (Nat.le_refl _)) (.cons (.int _ _) (.cons (VRen.slice rfl rfl (Nat.le_refl _)) (.cons (.int _ _) (.cons (.int _ _) (.cons (.int _ _) (.cons (.int _ _) .nil))))))))) (.cons (VRen.slice rfl (by omega) (Nat.le_refl _)) .nil)
 ·exact BRen.cells (fun h=>by cases h) (fun i x2 hx=>⟨x2,by rw[Nat.zero_add];exact hx,VRen.plain (stsC_plain _ x2 (List.mem_of_getElem? hx))⟩)
theorem zA {a b:Int} (ha:0<=a/\a<=1000000000000) (hb:0<=b/\b<=1000000):wC (a*b) :=
 ⟨Int.mul_nonneg ha.1 hb.1,Int.le_trans (Int.mul_le_mul ha.2 hb.2 hb.1 (by decide)) (by decide)⟩
def totC (O:List (List Int)):List Value:=O.flatMap ints
theorem totC_len {O:List (List Int)} (h : ∀ x∈O,x.length=5):(totC O).length=5*O.length:=by
 unfold totC
 induction O with
 | nil=>rfl
 | cons x O ih =>
   have h1:=h x List.mem_cons_self
   have h2:=ih (fun y hy=>h y (List.mem_cons_of_mem _ hy))
   rw[List.flatMap_cons,List.length_append,h2,List.length_cons,zf,h1]
   omega
theorem totC_zero (n:Nat):vI n [.int .i64 0, .int .i64 0, .int .i64 0, .int .i64 0, .int .i64 0]=totC (List.replicate n [0,0,0,0,0]):=by
 show (List.replicate n _).flatten=(List.replicate n [0,0,0,0,0]).flatMap ints
 rw[List.flatMap_def,List.map_replicate]
 rfl
theorem setSeg_at : ∀ (xs A B C:List Value),B.length=xs.length->setSeg (A++(B++C)) A.length xs=A++(xs++C)
 | [],A,B,C,h=>by
   have:B = []:=List.eq_nil_of_length_eq_zero (by simpa using h)
   subst this;rfl
 | x::xs,A,[],C,h=>by simp at h
 | x::xs,A,y::B,C,h=>by
   show setSeg ((A++(y::B++C)).set A.length x) (A.length+1) xs=_
   have e:(A++(y::B++C)).set A.length x=(A ++ [x])++(B++C):=by
    rw[List.set_append_right _ _ (Nat.le_refl _),Nat.sub_self]
    simp
   rw[e]
   have:=setSeg_at xs (A ++ [x]) B C (by simpa using h)
   rw[List.length_append,List.length_singleton] at this
   rw[this]
   simp
theorem totC_set {O:List (List Int)} {r:Nat} {x:List Int} (h : ∀ x∈O,x.length=5) (hr:r<O.length) (hx:x.length=5):setSeg (totC O) (0+r*5) (ints x)=totC (O.set r x):=by
 have e:O=O.take r++(O[r]::O.drop (r+1)):=by rw[List.getElem_cons_drop,List.take_append_drop]
 have e2:O.set r x=O.take r++(x::O.drop (r+1)):=by rw[List.set_eq_take_append_cons_drop,if_pos hr]
 have hA:(totC (O.take r)).length=0+r*5:=by
  rw[totC_len (fun y hy=>h y (List.mem_of_mem_take hy)),List.length_take];omega
 have f1:totC O=totC (O.take r)++(ints O[r]++totC (O.drop (r+1))):=by
  conv=>lhs;rw[e]
  unfold totC
  rw[List.flatMap_append,List.flatMap_cons]
 have f2:totC (O.set r x)=totC (O.take r)++(ints x++totC (O.drop (r+1))):=by
  rw[e2]
  unfold totC
  rw[List.flatMap_append,List.flatMap_cons]
 rw[f1,f2,<- hA]
 exact setSeg_at _ _ _ _ (by rw[zf,zf,h _ (List.getElem_mem hr),hx])
theorem rnd_nat {t:Tk} {l:List St} (hsd:SdOk l t.pr) (hS:sndF t l=0) : ∃ n:Nat,Co.rndF t l=n/\n<=256/\∀ j,j<l.length->l[j]!.rd<n:=by
 unfold Co.rndF
 by_cases h0:l.length=0
 ·exact⟨0,by rw[if_pos (.inr h0)];rfl,by omega,fun j hj=>by omega⟩
 ·rw[if_neg (by omega)]
  have hm:l[l.length-1]! ∈ l:=by rw[getElem!_pos l _ (by omega)];exact List.getElem_mem _
  have h1:=(hsd.r _ hm).1
  refine⟨(l[l.length-1]!.rd+1).toNat,by omega,by omega,fun j hj=>?_⟩
  have h2:=hsd.le (l.length-1-j) j (by omega)
  rw[show j+(l.length-1-j)=l.length-1 by omega] at h2
  omega
theorem outT_zero (s:Sh) (m:Mc) (l:List St) (n:Nat):outT s m l 0 n=List.replicate n [0,0,0,0,0]:=by
 rw[List.eq_replicate_iff]
 exact⟨outT_len _ _ _ _ _,fun x hx=>by obtain ⟨r,_,rfl⟩:=List.mem_map.1 hx;rw[if_neg (Nat.not_lt_zero r)]⟩
theorem outT5 {s:Sh} {m:Mc} {l:List St} {k n:Nat} : ∀ x∈outT s m l k n,x.length=5:=fun x hx=>by
 obtain ⟨r,_,rfl⟩:=List.mem_map.1 hx
 split <;> rfl
structure Q1 where
 H:List Blk
 k:Nat
 r:Nat
structure Q2 where
 H:List Blk
 t:Nat
theorem c18 {H:List Blk} {m:Mc} {t:Tk} {alg:Int} {l:List St} {b c e f d:Nat} {R:Value->List Blk->Prop} (g:Mr H m b c) (gr:Gr H t.sz e) (hst:Sts H l d) (hh:m.hs.length<=9223372036854775807) (hl:t.sz.length<=9223372036854775807) (hw:t.ws.length<=9223372036854775807) (hll:l.length<=1000)
 (hbad : ∀ H' z,HS H none' [] H' -> z≠0->(z=sndF t l\/(sndF t l=0/\z=chkM m t.pr))->R (.tuple ⟨[.slice none 0 0, .int .i64 z]⟩) H')
 (h : ∀ H' k s,HS H none' [(true,k, .cells true 5 (totC ((List.range (Co.rndF t l).toNat).map (totR s m l))))] H' -> sndF t l=0->chkM m t.pr=0->McOk m s->R (.tuple ⟨[sv k (Co.rndF t l).toNat, .int .i64 0]⟩) H') :
 qj Tryz.prog 18 [mcV m b c,schV t alg e f d l.length] H R:=by
 obtain ⟨w1,hd0⟩:=hst.s
 refine qc tok Tryz.call18 Tryz.func18 rfl Tryz.ntmps18 rfl (by simp) ?_
 refine vg (HS.start H none') (fun H1 b2 e1 l1 hs=>?_)
 refine vg hs (fun H2 b3 e2 l2 hs=>?_)
 refine qM (fun _ hKs=>hKs _ _ ?_);clear hKs
 clear e1 l1 e2 l2
 repeat' (first|refine nX ?_|refine nY (fun K0 hK0=>?_)|refine zSt hs ?_|refine nN hs (fun _ _ hs=>?_)|refine nS hs (fun _ _ hs=>?_)|refine sX hs (fun _ hs=>?_)|(refine hK0 _ _ ?_;clear hK0)|fail)
 refine c27 (gr.up (qf hs)) (hst.up (qf hs)) hl hw (by omega) (fun H2 hn=>?_)
 have hs:=qR hs hn
 clear hn
 by_cases hS:sndF t l=0
 ·rw[hS]
  repeat' (first|refine nX ?_|refine nY (fun K0 hK0=>?_)|refine zSt hs ?_|refine nN hs (fun _ _ hs=>?_)|refine nS hs (fun _ _ hs=>?_)|refine sX hs (fun _ hs=>?_)|(refine dI (fun hc=>?_) (fun hc=>?_) <;> try (exfalso;omega))|(refine hK0 _ _ ?_;clear hK0)|fail)
  refine c39 (g.up (qf hs)) hh (fun H3 hn=>?_)
  have hs:=qR hs hn
  clear hn
  by_cases hC:chkM m t.pr=0
  ·rw[hC]
   repeat' (first|refine nX ?_|refine nY (fun K0 hK0=>?_)|refine zSt hs ?_|refine nN hs (fun _ _ hs=>?_)|refine nS hs (fun _ _ hs=>?_)|refine sX hs (fun _ hs=>?_)|(refine dI (fun hc=>?_) (fun hc=>?_) <;> try (exfalso;omega))|(refine hK0 _ _ ?_;clear hK0)|fail)
   obtain ⟨hck,hsd⟩:=snd_in hS
   obtain ⟨⟨s,mk⟩,hpr,hpl⟩:=chkM_ok hC
   have hn0:=rnd_nat hsd hS
   obtain ⟨n,hN,hn256,hrl⟩:=hn0
   rw[hN] at h ⊢
   rw[Int.toNat_natCast] at h
   refine⟨n,n,⟨rfl,rfl⟩,⟨Nat.le_refl _,by show _*(40+1)<=_;omega⟩,totC (List.replicate n [0,0,0,0,0]),totC_zero n, ?_⟩
   refine vg hs (fun H4 ob e4 l4 hs=>?_)
   clear e4 l4
   repeat' (first|refine nX ?_|refine nY (fun K0 hK0=>?_)|refine zSt hs ?_|refine nN hs (fun _ _ hs=>?_)|refine nS hs (fun _ _ hs=>?_)|refine sX hs (fun _ hs=>?_)|(refine hK0 _ _ ?_;clear hK0)|fail)
   clear hbad
   refine qF (α := Q1) tok (fun z=>HS H none' [(true,ob, .cells true 5 (totC (outT s m l z.r n))),(true,b3, .cells true 1 (schC t alg e f d l.length)),(true,b2, .cells true 1 (mcC m b c))] z.H/\z.k<=l.length/\z.r<=n/\(∀ j,j<z.k->l[j]!.rd<z.r)/\(∀ j,z.k<=j->j<l.length->(z.r:Int)<=l[j]!.rd))
    (fun z=>[(2, .pointer (some ⟨b2,0,none⟩)),(3, .pointer (some ⟨b3,0,none⟩)),(9,sv ob n),(10, .int .i64 (z.k:Int))]) (fun z=>z.H) (fun z=>l.length-z.k)
    ⟨_,0,0⟩ ⟨by rw[outT_zero];exact hs,Nat.zero_le _,Nat.zero_le _,(fun j hj=>absurd hj (Nat.not_lt_zero _)),fun j _ hj=>(hsd.r _ (by rw[getElem!_pos l j hj];exact List.getElem_mem _)).1.1⟩ (Or.inl ⟨⟨rfl,rfl,rfl,rfl,trivial⟩,rfl⟩) ?_
   clear hs
   rintro ⟨H5,k0,r⟩ ⟨hs,hk,hr,hlo,hhi⟩
   dsimp only at hs hk hr hlo hhi ⊢
   repeat' (first|refine nX ?_|refine nY (fun K0 hK0=>?_)|refine zSt hs ?_|refine nN hs (fun _ _ hs=>?_)|refine nS hs (fun _ _ hs=>?_)|refine sX hs (fun _ hs=>?_)|(refine hK0 _ _ ?_;clear hK0)|fail)
   refine aI (fun hc=>?_) (fun hc=>?_)
   ·have hlt:k0<l.length:=by simp at hc;omega
    clear hc
    repeat' (first|refine nX ?_|refine nY (fun K0 hK0=>?_)|refine zSt hs ?_|refine nN hs (fun _ _ hs=>?_)|refine nS hs (fun _ _ hs=>?_)|refine sX hs (fun _ hs=>?_)|(refine hK0 _ _ ?_;clear hK0)|fail)
    refine qF (α := Q2) tok (fun z=>HS H none' [(true,ob, .cells true 5 (totC (outT s m l r n))),(true,b3, .cells true 1 (schC t alg e f d l.length)),(true,b2, .cells true 1 (mcC m b c))] z.H/\k0<=z.t/\z.t<=l.length/\∀ j,k0<=j->j<z.t->l[j]!.rd=l[k0]!.rd)
     (fun z=>[(2, .pointer (some ⟨b2,0,none⟩)),(3, .pointer (some ⟨b3,0,none⟩)),(9,sv ob n),(10, .int .i64 (k0:Int)),(11, .int .i64 (z.t:Int))]) (fun z=>z.H) (fun z=>l.length-z.t)
     ⟨_,k0⟩ ⟨hs,Nat.le_refl _,hk,fun j h1 h2=>by dsimp only at h2;omega⟩ (Or.inl ⟨⟨rfl,rfl,rfl,rfl,rfl,trivial⟩,rfl⟩) ?_
    clear hs
    rintro ⟨H6,t1⟩ ⟨hs,ht0,ht1,hsame⟩
    dsimp only at hs ht0 ht1 hsame ⊢
    have hd:=vK (qf hs) hd0
    refine qG tok mx [0,0,2,6,15,31,63,127,63,511,1023,2047,63,4159,63,28735,61503,127039,262143,524287] [false,false,false,false,false,false,false,false,true,false,false,false,true,true,true,true,true,true,false,false] [0,1,2,3,4,5,6,7,8,9,10,11,12,13,14,15,16,17,18,19] (by kernel_rfl) ?_
    refine vC (fun K0 hK0=>?_)
    repeat' (first|refine nX ?_|refine nY (fun K0 hK0=>?_)|refine zSt hs ?_|refine nN hs (fun _ _ hs=>?_)|refine nS hs (fun _ _ hs=>?_)|refine sX hs (fun _ hs=>?_)|(refine dI (fun hc=>?_) (fun hc=>?_) <;> try (exfalso;omega))|(refine hK0 _ _ ?_;clear hK0)|fail)
    ·have htl:t1<l.length:=by omega
     iterate 6 (
      all_goals try (first | refine qi hd ⟨t1,rfl,htl, ?_⟩ | refine qi hd ⟨k0,rfl,hlt, ?_⟩ | refine qi hd ?_ | refine ql hd (Ld_st (k:=0) htl (by decide) rfl ?_) | refine ql hd (Ld_st (k:=0) hlt (by decide) rfl ?_))
      all_goals try (
       repeat' (first|refine nX ?_|refine nY (fun K0 hK0=>?_)|refine zSt hs ?_|refine nN hs (fun _ _ hs=>?_)|refine nS hs (fun _ _ hs=>?_)|refine sX hs (fun _ hs=>?_)|(refine dI (fun hc=>?_) (fun hc=>?_) <;> try (exfalso;omega))|(refine hK0 _ _ ?_;clear hK0)|fail)
       ))
     ·refine⟨⟨_,t1+1⟩,⟨hs,by dsimp only;omega,htl,fun j h1 h2=>?_⟩,by dsimp only;omega,Or.inl ⟨⟨rfl,rfl,rfl,rfl,rfl,trivial⟩,rfl⟩⟩
      rcases Nat.lt_or_ge j t1 with h3 | h3
      ·exact hsame j h1 h3
      ·have:j=t1:=by dsimp only at h2;omega
       subst this
       omega
     ·have hk1:k0<t1:=by
       rcases Nat.lt_or_ge k0 t1 with h3 | h3
       ·exact h3
       ·have:t1=k0:=by omega
        subst this
        exfalso
        omega
      have hgt:t1<l.length->l[k0]!.rd<l[t1]!.rd:=fun _=>by
       have:=hsd.le (t1-k0) k0 (by omega)
       rw[show k0+(t1-k0)=t1 by omega] at this
       omega
      have hx:=hsd.r _ (by rw[getElem!_pos l k0 hlt];exact List.getElem_mem _:l[k0]! ∈ l)
      have hrn:=hrl k0 hlt
      have hrr:=hhi k0 (Nat.le_refl _) hlt
      obtain ⟨q,hq⟩ : ∃ q:Nat,l[k0]!.rd=q:=⟨l[k0]!.rd.toNat,by omega⟩
      have hseg:segF l q=(l.drop k0).take (t1-k0):=seg_eq hsd hk1 ht1 (fun j hj=>by have:=hlo j hj;omega) (fun j h1 h2=>by rw[hsame j h1 h2,hq]) (fun h=>by have:=hgt h;omega)
      have hrg : ∀ x∈(l.drop k0).take (t1-k0),(0<=x.fr/\x.fr<m.hs.length)/\(0<=x.to/\x.to<m.hs.length):=fun x hx=>by
       have:=hsd.r x (List.mem_of_mem_drop (List.mem_of_mem_take hx))
       omega
      have hsl:((l.drop k0).take (t1-k0)).length<=1000:=by rw[List.length_take,List.length_drop];omega
      obtain ⟨x0,x1,x2,x3,hrd,y0,y1,y2,y3,_,_⟩:=rdc_bd mk hsl hrg
      have hup:outT s m l r n=outT s m l q n:=outT_up (by omega) (fun x hx hc=>by
       obtain ⟨j,hj,rfl⟩:=List.getElem_of_mem hx
       rw[<- getElem!_pos l j hj] at hc
       rcases Nat.lt_or_ge j k0 with h1 | h1
       ·have:=hlo j h1;omega
       ·have:=hsd.le (j-k0) k0 (by omega)
        rw[show k0+(j-k0)=j by omega] at this
        omega)
      have htot:totR s m l q=totF m [x0,x1,x2,x3]:=by unfold totR;rw[hseg,hrd]
      have hset:=outT_set (s:=s) (m:=m) (l:=l) (r:=q) (n:=n) (by omega)
      rw[hup] at hs
      refine qG tok mx [0,0,2,0,14,30,62,0,0,0,512,0,0,7680,16128,32640,65535,131071] [false,false,false,true,false,false,false,true,true,true,true,true,true,true,true,true,false,false] [0,1,2,3,4,5,6,7,8,9,10,11,12,13,14,15,16,17] (by kernel_rfl) ?_
      refine vC (fun K0 hK0=>?_)
      repeat' (first|refine nX ?_|refine nY (fun K0 hK0=>?_)|refine zSt hs ?_|refine nN hs (fun _ _ hs=>?_)|refine nS hs (fun _ _ hs=>?_)|refine sX hs (fun _ hs=>?_)|(refine dI (fun hc=>?_) (fun hc=>?_) <;> try (exfalso;omega))|(refine hK0 _ _ ?_;clear hK0)|fail)
      iterate 8 (
       all_goals try (first | refine qi hd ⟨k0,rfl,hlt, ?_⟩ | refine qi hd ?_ | refine ql hd (Ld_st (k:=0) hlt (by decide) rfl ?_) | refine ql hd ⟨rfl,t1,rfl,k0,rfl,⟨Nat.le_of_lt hk1,ht1⟩, ?_⟩)
       all_goals try (
        repeat' (first|refine nX ?_|refine nY (fun K0 hK0=>?_)|refine zSt hs ?_|refine nN hs (fun _ _ hs=>?_)|refine nS hs (fun _ _ hs=>?_)|refine sX hs (fun _ hs=>?_)|(refine dI (fun hc=>?_) (fun hc=>?_) <;> try (exfalso;omega))|(refine hK0 _ _ ?_;clear hK0)|fail)
        ))
      refine c53x (g.up (qf hs)) (hst.up (qf hs)) mk (by omega) (by omega) hrg ?_
      rw[hrd]
      repeat' (first|refine nX ?_|refine nY (fun K0 hK0=>?_)|refine zSt hs ?_|refine nN hs (fun _ _ hs=>?_)|refine nS hs (fun _ _ hs=>?_)|refine sX hs (fun _ hs=>?_)|(refine dI (fun hc=>?_) (fun hc=>?_) <;> try (exfalso;omega))|(refine hK0 _ _ ?_;clear hK0)|fail)
      refine c51x (g.up (qf hs)) (zA (by omega) hpr.1) (zA (by omega) hpr.2.1) (zA (by omega) hpr.2.2.1) (zA (by omega) hpr.2.2.2) ?_
      rw[<- htot]
      repeat' (first|refine nX ?_|refine nY (fun K0 hK0=>?_)|refine zSt hs ?_|refine nN hs (fun _ _ hs=>?_)|refine nS hs (fun _ _ hs=>?_)|refine sX hs (fun _ hs=>?_)|(refine dI (fun hc=>?_) (fun hc=>?_) <;> try (exfalso;omega))|(refine hK0 _ _ ?_;clear hK0)|fail)
      refine⟨q,hq,by omega, ?_⟩
      repeat' (first|refine nX ?_|refine nY (fun K0 hK0=>?_)|refine zSt hs ?_|refine nN hs (fun _ _ hs=>?_)|refine nS hs (fun _ _ hs=>?_)|refine sX hs (fun _ hs=>?_)|(refine dI (fun hc=>?_) (fun hc=>?_) <;> try (exfalso;omega))|(refine hK0 _ _ ?_;clear hK0)|fail)
      refine vG hs 0 rfl (totC (outT s m l (q+1) n)) rfl rfl (by show 0+q*5+5<=_;rw[totC_len outT5,outT_len];omega) ((totC_set outT5 (by rw[outT_len];omega) rfl).trans (congrArg totC hset)) (fun H9 e9 hs=>?_)
      clear e9
      repeat' (first|refine nX ?_|refine nY (fun K0 hK0=>?_)|refine zSt hs ?_|refine nN hs (fun _ _ hs=>?_)|refine nS hs (fun _ _ hs=>?_)|refine sX hs (fun _ hs=>?_)|(refine dI (fun hc=>?_) (fun hc=>?_) <;> try (exfalso;omega))|(refine hK0 _ _ ?_;clear hK0)|fail)
      refine⟨⟨_,t1,q+1⟩,⟨hs,ht1,by dsimp only;omega,fun j hj=>?_,fun j h1 h2=>?_⟩,by dsimp only;omega,Or.inl ⟨⟨rfl,rfl,rfl,rfl,trivial⟩,rfl⟩⟩
      ·dsimp only at hj ⊢
       rcases Nat.lt_or_ge j k0 with h3 | h3
       ·have:=hlo j h3;omega
       ·rw[hsame j h3 hj,hq];omega
      ·dsimp only at h1 ⊢
       have h3:=hgt (by omega)
       have h4:=hsd.le (j-t1) t1 (by omega)
       rw[show t1+(j-t1)=j by omega] at h4
       omega
    ·have hk1:k0<t1:=by omega
     have hgt:t1<l.length->l[k0]!.rd<l[t1]!.rd:=fun h=>by omega
     have hx:=hsd.r _ (by rw[getElem!_pos l k0 hlt];exact List.getElem_mem _:l[k0]! ∈ l)
     have hrn:=hrl k0 hlt
     have hrr:=hhi k0 (Nat.le_refl _) hlt
     obtain ⟨q,hq⟩ : ∃ q:Nat,l[k0]!.rd=q:=⟨l[k0]!.rd.toNat,by omega⟩
     have hseg:segF l q=(l.drop k0).take (t1-k0):=seg_eq hsd hk1 ht1 (fun j hj=>by have:=hlo j hj;omega) (fun j h1 h2=>by rw[hsame j h1 h2,hq]) (fun h=>by have:=hgt h;omega)
     have hrg : ∀ x∈(l.drop k0).take (t1-k0),(0<=x.fr/\x.fr<m.hs.length)/\(0<=x.to/\x.to<m.hs.length):=fun x hx=>by
      have:=hsd.r x (List.mem_of_mem_drop (List.mem_of_mem_take hx))
      omega
     have hsl:((l.drop k0).take (t1-k0)).length<=1000:=by rw[List.length_take,List.length_drop];omega
     obtain ⟨x0,x1,x2,x3,hrd,y0,y1,y2,y3,_,_⟩:=rdc_bd mk hsl hrg
     have hup:outT s m l r n=outT s m l q n:=outT_up (by omega) (fun x hx hc=>by
      obtain ⟨j,hj,rfl⟩:=List.getElem_of_mem hx
      rw[<- getElem!_pos l j hj] at hc
      rcases Nat.lt_or_ge j k0 with h1 | h1
      ·have:=hlo j h1;omega
      ·have:=hsd.le (j-k0) k0 (by omega)
       rw[show k0+(j-k0)=j by omega] at this
       omega)
     have htot:totR s m l q=totF m [x0,x1,x2,x3]:=by unfold totR;rw[hseg,hrd]
     have hset:=outT_set (s:=s) (m:=m) (l:=l) (r:=q) (n:=n) (by omega)
     rw[hup] at hs
     refine qG tok mx [0,0,2,0,14,30,62,0,0,0,512,0,0,7680,16128,32640,65535,131071] [false,false,false,true,false,false,false,true,true,true,true,true,true,true,true,true,false,false] [0,1,2,3,4,5,6,7,8,9,10,11,12,13,14,15,16,17] (by kernel_rfl) ?_
     refine vC (fun K0 hK0=>?_)
     repeat' (first|refine nX ?_|refine nY (fun K0 hK0=>?_)|refine zSt hs ?_|refine nN hs (fun _ _ hs=>?_)|refine nS hs (fun _ _ hs=>?_)|refine sX hs (fun _ hs=>?_)|(refine dI (fun hc=>?_) (fun hc=>?_) <;> try (exfalso;omega))|(refine hK0 _ _ ?_;clear hK0)|fail)
     iterate 8 (
      all_goals try (first | refine qi hd ⟨k0,rfl,hlt, ?_⟩ | refine qi hd ?_ | refine ql hd (Ld_st (k:=0) hlt (by decide) rfl ?_) | refine ql hd ⟨rfl,t1,rfl,k0,rfl,⟨Nat.le_of_lt hk1,ht1⟩, ?_⟩)
      all_goals try (
       repeat' (first|refine nX ?_|refine nY (fun K0 hK0=>?_)|refine zSt hs ?_|refine nN hs (fun _ _ hs=>?_)|refine nS hs (fun _ _ hs=>?_)|refine sX hs (fun _ hs=>?_)|(refine dI (fun hc=>?_) (fun hc=>?_) <;> try (exfalso;omega))|(refine hK0 _ _ ?_;clear hK0)|fail)
       ))
     refine c53x (g.up (qf hs)) (hst.up (qf hs)) mk (by omega) (by omega) hrg ?_
     rw[hrd]
     repeat' (first|refine nX ?_|refine nY (fun K0 hK0=>?_)|refine zSt hs ?_|refine nN hs (fun _ _ hs=>?_)|refine nS hs (fun _ _ hs=>?_)|refine sX hs (fun _ hs=>?_)|(refine dI (fun hc=>?_) (fun hc=>?_) <;> try (exfalso;omega))|(refine hK0 _ _ ?_;clear hK0)|fail)
     refine c51x (g.up (qf hs)) (zA (by omega) hpr.1) (zA (by omega) hpr.2.1) (zA (by omega) hpr.2.2.1) (zA (by omega) hpr.2.2.2) ?_
     rw[<- htot]
     repeat' (first|refine nX ?_|refine nY (fun K0 hK0=>?_)|refine zSt hs ?_|refine nN hs (fun _ _ hs=>?_)|refine nS hs (fun _ _ hs=>?_)|refine sX hs (fun _ hs=>?_)|(refine dI (fun hc=>?_) (fun hc=>?_) <;> try (exfalso;omega))|(refine hK0 _ _ ?_;clear hK0)|fail)
     refine⟨q,hq,by omega, ?_⟩
     repeat' (first|refine nX ?_|refine nY (fun K0 hK0=>?_)|refine zSt hs ?_|refine nN hs (fun _ _ hs=>?_)|refine nS hs (fun _ _ hs=>?_)|refine sX hs (fun _ hs=>?_)|(refine dI (fun hc=>?_) (fun hc=>?_) <;> try (exfalso;omega))|(refine hK0 _ _ ?_;clear hK0)|fail)
     refine vG hs 0 rfl (totC (outT s m l (q+1) n)) rfl rfl (by show 0+q*5+5<=_;rw[totC_len outT5,outT_len];omega) ((totC_set outT5 (by rw[outT_len];omega) rfl).trans (congrArg totC hset)) (fun H9 e9 hs=>?_)
     clear e9
     repeat' (first|refine nX ?_|refine nY (fun K0 hK0=>?_)|refine zSt hs ?_|refine nN hs (fun _ _ hs=>?_)|refine nS hs (fun _ _ hs=>?_)|refine sX hs (fun _ hs=>?_)|(refine dI (fun hc=>?_) (fun hc=>?_) <;> try (exfalso;omega))|(refine hK0 _ _ ?_;clear hK0)|fail)
     refine⟨⟨_,t1,q+1⟩,⟨hs,ht1,by dsimp only;omega,fun j hj=>?_,fun j h1 h2=>?_⟩,by dsimp only;omega,Or.inl ⟨⟨rfl,rfl,rfl,rfl,trivial⟩,rfl⟩⟩
     ·dsimp only at hj ⊢
      rcases Nat.lt_or_ge j k0 with h3 | h3
      ·have:=hlo j h3;omega
      ·rw[hsame j h3 hj,hq];omega
     ·dsimp only at h1 ⊢
      have h3:=hgt (by omega)
      have h4:=hsd.le (j-t1) t1 (by omega)
      rw[show t1+(j-t1)=j by omega] at h4
      omega
   ·have hk0:k0=l.length:=by simp at hc;omega
    repeat' (first|refine nX ?_|refine nY (fun K0 hK0=>?_)|refine zSt hs ?_|refine nN hs (fun _ _ hs=>?_)|refine nS hs (fun _ _ hs=>?_)|refine sX hs (fun _ hs=>?_)|(refine dI (fun hc=>?_) (fun hc=>?_) <;> try (exfalso;omega))|(refine hK0 _ _ ?_;clear hK0)|fail)
    have e1:outT s m l r n=(List.range n).map (totR s m l):=by
     rw[outT_up hr (fun x hx hc=>by
      obtain ⟨j,hj,rfl⟩:=List.getElem_of_mem hx
      rw[<- getElem!_pos l j hj] at hc
      have:=hlo j (by omega)
      omega)]
     unfold outT
     exact List.map_congr_left fun i hi=>if_pos (List.mem_range.1 hi)
    rw[e1] at hs
    exact h _ ob s (hs.pick [0] (by decide) rfl) hS hC mk
  ·skip
   repeat' (first|refine nX ?_|refine nY (fun K0 hK0=>?_)|refine zSt hs ?_|refine nN hs (fun _ _ hs=>?_)|refine nS hs (fun _ _ hs=>?_)|refine sX hs (fun _ hs=>?_)|(refine dI (fun hc=>?_) (fun hc=>?_) <;> try (exfalso;omega))|(refine hK0 _ _ ?_;clear hK0)|fail)
   exact hbad _ _ (qf hs) hC (.inr ⟨hS,rfl⟩)
 ·skip
  repeat' (first|refine nX ?_|refine nY (fun K0 hK0=>?_)|refine zSt hs ?_|refine nN hs (fun _ _ hs=>?_)|refine nS hs (fun _ _ hs=>?_)|refine sX hs (fun _ hs=>?_)|(refine dI (fun hc=>?_) (fun hc=>?_) <;> try (exfalso;omega))|(refine hK0 _ _ ?_;clear hK0)|fail)
  exact hbad _ _ (qf hs) hS (.inl rfl)
end Go.Af.Tryz
namespace Go.Af.Tryz
open Go Go.Proofs Go.Af.Pl Co Ne
open Go.Af.Coll (St)
set_option maxRecDepth 100000
set_option maxHeartbeats 4000000
attribute [local irreducible] awp qj qm qP qH qJ isCells qA qx qZ qX qI roundEnd wZ wO keyK vZ wP wW

def RowOk (m:Mc) (x:List Int):Prop := ∃ a b c d,x=totF m [a,b,c,d]/\(0<=a/\a<=1)/\(0<=b/\b<=99)/\(0<=c/\c<=200000000)/\(0<=d/\d<=200000000)/\(0<c↔a=1)/\(0<b->a=1)
theorem totR_ok {s:Sh} {m:Mc} {l:List St} (mk:McOk m s) (hsd:SdOk l m.hs.length) (hll:l.length<=1000) (r:Nat):RowOk m (totR s m l r):=by
 obtain ⟨a,b,c,d,h,h1⟩:=rdc_bd (S:=segF l r) mk (Nat.le_trans (List.length_filter_le _ _) hll) (fun x hx=>by
  have:=hsd.r x (List.mem_filter.1 hx).1
  omega)
 exact⟨a,b,c,d,by unfold totR;rw[h],h1⟩
def suF (j:Nat) (O:List (List Int)):Int:=(O.map (fun x=>x[j]!)).sum
def sum4 (O:List (List Int)):List Int := [suF 0 O,suF 1 O,suF 2 O,suF 3 O]
theorem xE (j:Nat) (O:List (List Int)) (k:Nat) (hk:k<O.length):suF j (O.take (k+1))=suF j (O.take k)+O[k]![j]! := by
 unfold suF
 rw[List.take_succ,List.getElem?_eq_getElem hk,List.map_append,List.sum_append,getElem!_pos O k hk]
 simp
theorem xm {m:Mc} {O:List (List Int)} (h : ∀ x∈O,RowOk m x) (j:Nat) (hj:j<4) : ∀ k,k<=O.length->0<=suF j (O.take k)/\suF j (O.take k)<=k*200000000
 | 0,_=>⟨Int.le_refl _,Int.le_refl _⟩
 | k+1,hk=>by
   have ih:=xm h j hj k (by omega)
   rw[xE j O k (by omega)]
   obtain ⟨a,b,c,d,e,h1,h2,h3,h4,_⟩:=h (O[k]!) (by rw[getElem!_pos O k (by omega)];exact List.getElem_mem _)
   have:0<=O[k]![j]! /\ O[k]![j]! <= 200000000:=by
    rw[e]
    match j,hj with
    | 0,_=>exact⟨h1.1,by show a<=_;omega⟩
    | 1,_=>exact⟨h2.1,by show b<=_;omega⟩
    | 2,_=>exact⟨h3.1,by show c<=_;omega⟩
    | 3,_=>exact⟨h4.1,by show d<=_;omega⟩
   omega
def msrF (s:Sh) (m:Mc) (t:Tk) (l:List St):List Int:=totF m (sum4 ((List.range (Co.rndF t l).toNat).map (totR s m l)))
theorem totC_get : ∀ (O:List (List Int)) (i k:Nat),(∀ x∈O,x.length=5)->i<O.length->k<5->(totC O)[5*i+k]? = (ints O[i]!)[k]?
 | [],i,k,_,hi,hk=>by simp at hi
 | s::r,0,k,h,hi,hk=>by
   show (ints s++totC r)[5*0+k]? = _
   rw[List.getElem?_append_left (by rw[zf,h s List.mem_cons_self];omega),Nat.mul_zero,Nat.zero_add]
   rfl
 | s::r,i+1,k,h,hi,hk=>by
   show (ints s++totC r)[5*(i+1)+k]? = _
   rw[List.getElem?_append_right (by rw[zf,h s List.mem_cons_self];omega)]
   have e:5*(i+1)+k-(ints s).length=5*i+k:=by rw[zf,h s List.mem_cons_self];omega
   rw[e,totC_get r i k (fun x hx=>h x (List.mem_cons_of_mem _ hx)) (by simpa using hi) hk]
   rfl
theorem Ld_tot {O:List (List Int)} {i k:Nat} {v:Value} {K:Value->Prop} (h5 : ∀ x∈O,x.length=5) (hi:i<O.length) (hk:k<5) (hv:(ints O[i]!)[k]? = some v) (h:K v):Ld (totC O) (0+i*5+k) K :=
 ⟨v,by rw[show 0+i*5+k=5*i+k by omega,totC_get O i k h5 hi hk,hv],h⟩
theorem seg_tot {O:List (List Int)} {i:Nat} {a0 a1 a2 a3 a4:Int} {K:List Value->Prop} (h5 : ∀ x∈O,x.length=5) (hi:i<O.length) (hx:O[i]! = [a0,a1,a2,a3,a4]) (h:K (ints [a0,a1,a2,a3,a4])):segK (totC O) (0+i*5) 5 K :=
 Ld_tot (k:=0) h5 hi (by decide) (by rw[hx];rfl) (Ld_tot (k:=1) h5 hi (by decide) (by rw[hx];rfl) (Ld_tot (k:=2) h5 hi (by decide) (by rw[hx];rfl) (Ld_tot (k:=3) h5 hi (by decide) (by rw[hx];rfl) (Ld_tot (k:=4) h5 hi (by decide) (by rw[hx];rfl) h))))
theorem RowOk.len {m:Mc} {x:List Int} (h:RowOk m x):x.length=5:=by obtain ⟨a,b,c,d,rfl,_⟩:=h;rfl
structure Q3 where
 H:List Blk
 k:Nat
theorem c14 {H:List Blk} {m:Mc} {t:Tk} {alg:Int} {l:List St} {b c e f d:Nat} {R:Value->List Blk->Prop} (g:Mr H m b c) (gr:Gr H t.sz e) (hst:Sts H l d) (hh:m.hs.length<=9223372036854775807) (hl:t.sz.length<=9223372036854775807) (hw:t.ws.length<=9223372036854775807) (hll:l.length<=1000)
 (hbad : ∀ H' z,HS H none' [] H' -> z≠0->(z=sndF t l\/(sndF t l=0/\z=chkM m t.pr))->R (.tuple ⟨[.agg ⟨ints [0,0,0,0,0]⟩, .int .i64 z]⟩) H')
 (h : ∀ H' s,HS H none' [] H' -> sndF t l=0->chkM m t.pr=0->McOk m s->R (.tuple ⟨[.agg ⟨ints (msrF s m t l)⟩, .int .i64 0]⟩) H') :
 qj Tryz.prog 14 [mcV m b c,schV t alg e f d l.length] H R:=by
 refine qc tok Tryz.call14 Tryz.func14 rfl Tryz.ntmps14 rfl (by simp) ?_
 refine vg (HS.start H none') (fun H1 b2 e1 l1 hs=>?_)
 refine vg hs (fun H2 b3 e2 l2 hs=>?_)
 refine vg hs (fun H3 b4 e3 l3 hs=>?_)
 refine qM (fun _ hKs=>hKs _ _ ?_);clear hKs
 clear e1 l1 e2 l2 e3 l3
 repeat' (first|refine nX ?_|refine nY (fun K0 hK0=>?_)|refine zSt hs ?_|refine nN hs (fun _ _ hs=>?_)|refine nS hs (fun _ _ hs=>?_)|refine sX hs (fun _ hs=>?_)|(refine hK0 _ _ ?_;clear hK0)|fail)
 refine c18 (g.up (qf hs)) (gr.up (qf hs)) (hst.up (qf hs)) hh hl hw hll (fun H4 z hn hz hv=>?_) (fun H4 k s hn hS hC mk=>?_)
 ·have hs:=qR hs hn
  clear hn
  repeat' (first|refine nX ?_|refine nY (fun K0 hK0=>?_)|refine zSt hs ?_|refine nN hs (fun _ _ hs=>?_)|refine nS hs (fun _ _ hs=>?_)|refine sX hs (fun _ hs=>?_)|(refine dI (fun hc=>?_) (fun hc=>?_) <;> try (exfalso;omega))|(refine hK0 _ _ ?_;clear hK0)|fail)
  change resK T _ _ _ _
  refine zl (by rfl) (by rfl) (hs.get 0 rfl) (by rfl) ?_
  refine⟨_,rfl,_,rfl,_,rfl,_,rfl,_,rfl, ?_⟩
  exact hbad _ _ (qf hs) hz hv
 ·have hs:=hs.call hn rfl
  clear hn
  obtain ⟨hck,hsd⟩:=snd_in hS
  obtain ⟨_,hpr,hpl⟩:=chkM_ok hC
  obtain ⟨n,hN,hn256,hrl⟩:=rnd_nat hsd hS
  have h:=fun H' hn=>h H' s hn hS hC mk
  unfold msrF at h
  rw[hN] at hs h ⊢
  rw[Int.toNat_natCast] at hs h ⊢
  rw[<- hpl] at hsd
  have hrow : ∀ x∈(List.range n).map (totR s m l),RowOk m x:=fun x hx=>by
   obtain ⟨r,_,rfl⟩:=List.mem_map.1 hx
   exact totR_ok mk hsd hll r
  have hOl:((List.range n).map (totR s m l)).length=n:=by simp
  revert hs h hrow hOl
  generalize (List.range n).map (totR s m l)=O
  intro hs0 h hrow hOl
  repeat' (first|refine nX ?_|refine nY (fun K0 hK0=>?_)|refine zSt hs ?_|refine nN hs (fun _ _ hs=>?_)|refine nS hs (fun _ _ hs=>?_)|refine sX hs (fun _ hs=>?_)|(refine dI (fun hc=>?_) (fun hc=>?_) <;> try (exfalso;omega))|(refine hK0 _ _ ?_;clear hK0)|fail)
  refine vg hs0 (fun H5 b8 e5 l5 hs=>?_)
  clear e5 l5 hs0
  repeat' (first|refine nX ?_|refine nY (fun K0 hK0=>?_)|refine zSt hs ?_|refine nN hs (fun _ _ hs=>?_)|refine nS hs (fun _ _ hs=>?_)|refine sX hs (fun _ hs=>?_)|(refine dI (fun hc=>?_) (fun hc=>?_) <;> try (exfalso;omega))|(refine hK0 _ _ ?_;clear hK0)|fail)
  refine qF (α := Q3) tok (fun z=>HS H none' [(true,b8, .cells true 1 (ints (sum4 (O.take z.k)))),(true,k, .cells true 5 (totC O)),(true,b4, .cells true 1 (ints [0,0,0,0,0])),(true,b3, .cells true 1 (schC t alg e f d l.length)),(true,b2, .cells true 1 (mcC m b c))] z.H/\z.k<=n)
   (fun z=>[(2, .pointer (some ⟨b2,0,none⟩)),(3, .pointer (some ⟨b3,0,none⟩)),(4, .pointer (some ⟨b4,0,none⟩)),(8, .pointer (some ⟨b8,0,none⟩)),(23,sv k n),(24, .int .i64 n),(25, .int .i64 (z.k:Int))]) (fun z=>z.H) (fun z=>n-z.k)
   ⟨_,0⟩ ⟨hs,Nat.zero_le _⟩ (Or.inl ⟨⟨rfl,rfl,rfl,rfl,rfl,rfl,rfl,trivial⟩,rfl⟩) ?_
  clear hs
  rintro ⟨H6,i⟩ ⟨hs,hi⟩
  dsimp only at hs hi ⊢
  repeat' (first|refine nX ?_|refine nY (fun K0 hK0=>?_)|refine zSt hs ?_|refine nN hs (fun _ _ hs=>?_)|refine nS hs (fun _ _ hs=>?_)|refine sX hs (fun _ hs=>?_)|(refine hK0 _ _ ?_;clear hK0)|fail)
  refine aI (fun hc=>?_) (fun hc=>?_)
  ·have hlt:i<n:=by simp at hc;omega
   clear hc
   have hx:=hrow O[i]! (by rw[getElem!_pos O i (by omega)];exact List.getElem_mem _)
   obtain ⟨x0,x1,x2,x3,hx,y0,y1,y2,y3,_,_⟩:=hx
   have u0:=xm hrow 0 (by decide) i (by omega)
   have u1:=xm hrow 1 (by decide) i (by omega)
   have u2:=xm hrow 2 (by decide) i (by omega)
   have u3:=xm hrow 3 (by decide) i (by omega)
   repeat' (first|refine nX ?_|refine nY (fun K0 hK0=>?_)|refine zSt hs ?_|refine nN hs (fun _ _ hs=>?_)|refine nS hs (fun _ _ hs=>?_)|refine sX hs (fun _ hs=>?_)|(refine hK0 _ _ ?_;clear hK0)|fail)
   replace hx:O[i]! = [x0,x1,x2,x3,tmF [x0,x1,x2,x3] (prL m)]:=hx
   refine seg_tot (fun x hx=>(hrow x hx).len) (by omega) hx ?_
   repeat' (first|refine nX ?_|refine nY (fun K0 hK0=>?_)|refine zSt hs ?_|refine nN hs (fun _ _ hs=>?_)|refine nS hs (fun _ _ hs=>?_)|refine sX hs (fun _ hs=>?_)|(refine hK0 _ _ ?_;clear hK0)|fail)
   refine c50 (fun H7 hn=>?_)
   have hs:=qR hs hn
   clear hn
   repeat' (first|refine nX ?_|refine nY (fun K0 hK0=>?_)|refine zSt hs ?_|refine nN hs (fun _ _ hs=>?_)|refine nS hs (fun _ _ hs=>?_)|refine sX hs (fun _ hs=>?_)|(refine hK0 _ _ ?_;clear hK0)|fail)
   refine vcg_unroll tok 5 ?_
   iterate 5 (
    all_goals try (
     change vcg _ _ _ _ _ _ _ _ _
     repeat' (first|refine nX ?_|refine nY (fun K0 hK0=>?_)|refine zSt hs ?_|refine nN hs (fun _ _ hs=>?_)|refine nS hs (fun _ _ hs=>?_)|refine sX hs (fun _ hs=>?_)|(refine dI (fun hc=>?_) (fun hc=>?_) <;> try (exfalso;omega))|(refine hK0 _ _ ?_;clear hK0)|fail)
     )
    iterate 3 (
     all_goals try (first | refine eI 0 (aI ⟨rfl,by decide⟩ ?_) | refine eI 1 (aI ⟨rfl,by decide⟩ ?_) | refine eI 2 (aI ⟨rfl,by decide⟩ ?_) | refine eI 3 (aI ⟨rfl,by decide⟩ ?_) | refine eI 0 (aI rfl (aI (by decide) ?_)) | refine eI 1 (aI rfl (aI (by decide) ?_)) | refine eI 2 (aI rfl (aI (by decide) ?_)) | refine eI 3 (aI rfl (aI (by decide) ?_)))
     all_goals try (
      repeat' (first|refine nX ?_|refine nY (fun K0 hK0=>?_)|refine zSt hs ?_|refine nN hs (fun _ _ hs=>?_)|refine nS hs (fun _ _ hs=>?_)|refine sX hs (fun _ hs=>?_)|(refine dI (fun hc=>?_) (fun hc=>?_) <;> try (exfalso;omega))|(refine hK0 _ _ ?_;clear hK0)|fail)
      )
     )
    )
   have e1:sum4 (O.take (i+1)) = [suF 0 (O.take i)+x0,suF 1 (O.take i)+x1,suF 2 (O.take i)+x2,suF 3 (O.take i)+x3]:=by
    unfold sum4
    rw[xE 0 O i (by omega),xE 1 O i (by omega),xE 2 O i (by omega),xE 3 O i (by omega),hx]
    rfl
   refine⟨⟨_,i+1⟩,⟨?_,hlt⟩,by dsimp only;omega,Or.inl ⟨⟨rfl,rfl,rfl,rfl,rfl,rfl,rfl,trivial⟩,rfl⟩⟩
   dsimp only
   rw[e1]
   exact hs.pick [1,2,3,4,5] (by decide) rfl
  ·have hin:i=n:=by simp at hc;omega
   have eO:O.take i=O:=by rw[hin,<- hOl,List.take_length]
   have u0:=xm hrow 0 (by decide) i (by omega)
   have u1:=xm hrow 1 (by decide) i (by omega)
   have u2:=xm hrow 2 (by decide) i (by omega)
   have u3:=xm hrow 3 (by decide) i (by omega)
   rw[eO] at hs u0 u1 u2 u3
   repeat' (first|refine nX ?_|refine nY (fun K0 hK0=>?_)|refine zSt hs ?_|refine nN hs (fun _ _ hs=>?_)|refine nS hs (fun _ _ hs=>?_)|refine sX hs (fun _ hs=>?_)|(refine hK0 _ _ ?_;clear hK0)|fail)
   refine c51 (g.up (qf hs)) (zA (by omega) hpr.1) (zA (by omega) hpr.2.1) (zA (by omega) hpr.2.2.1) (zA (by omega) hpr.2.2.2) (fun H7 hn=>?_)
   have hs:=qR hs hn
   clear hn
   repeat' (first|refine nX ?_|refine nY (fun K0 hK0=>?_)|refine zSt hs ?_|refine nN hs (fun _ _ hs=>?_)|refine nS hs (fun _ _ hs=>?_)|refine sX hs (fun _ hs=>?_)|(refine hK0 _ _ ?_;clear hK0)|fail)
   change resK T _ _ _ _
   refine zl (by rfl) (by rfl) (hs.get 2 rfl) (by rfl) ?_
   refine⟨_,rfl,_,rfl,_,rfl,_,rfl,_,rfl, ?_⟩
   exact h _ (qf hs)
end Go.Af.Tryz
