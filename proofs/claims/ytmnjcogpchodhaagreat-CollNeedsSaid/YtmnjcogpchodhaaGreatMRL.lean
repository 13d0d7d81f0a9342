/- A part of the proof. -/
import Derived.Test.YtmnjcogpchodhaaGreatMRK
set_option linter.all false
set_option maxHeartbeats 4000000
set_option maxRecDepth 100000
namespace Go.Af.Tryz
open Go Go.Proofs
open Go.Af.Coll (St befF)

theorem st_in {t:Tk} (hc:chkF t=0) : ∀ x y,0<=x->0<=y->tget (stT t) x y=inF t x y:=fun x y hx hy=>by
 have kt:=yz hc;have hpr:=kt.pr;have hpa:=kt.pa;have hsl:sltF t=blkF t*t.pa:=by unfold sltF;rw[if_pos hc]
 have hb0:=ww kt;have hn:0<=sltF t:=by rw[hsl];exact Int.mul_nonneg (by omega) (by omega)
 have hd:=dm_st (t:=t) (by omega) hn
 have key : ∀ (r:Int) (fs:List Int) (row:List (List Og)) (y:Int),0<=y->(∀ f∈fs,0<=f/\f<row.length)->(fs.foldl (fun row i=>row.set i.toNat [(r,i)]) row)[y.toNat]! = if y∈fs then [(r,y)] else row[y.toNat]! := by
  intro r fs
  induction fs with
  | nil=>intro row y _ _;simp
  | cons f fs ih =>
    intro row y hy hf;have hff:=hf f List.mem_cons_self;rw[List.foldl_cons,ih _ y hy (fun q hq=>by rw[List.length_set];exact hf q (List.mem_cons_of_mem _ hq))];by_cases hm:y∈fs
    ·rw[if_pos hm,if_pos (List.mem_cons_of_mem _ hm)]
    ·rw[if_neg hm]
     by_cases e:y=f
     ·subst e
      rw[if_pos List.mem_cons_self,getElem!_pos _ _ (by rw[List.length_set];omega),List.getElem_set_self]
     ·rw[if_neg (fun h=>(List.mem_cons.1 h).elim e hm)]
      have:f.toNat≠y.toNat:=by omega
      rw[List.getElem!_eq_getElem?_getD,List.getElem!_eq_getElem?_getD,List.getElem?_set_ne this]
 unfold inF;by_cases hxp:x<t.pr
 ·have e:(stT t)[x.toNat]! = stR t (sltF t).toNat x:=by
   unfold stT;rw[getElem!_pos _ x.toNat (by simp;omega)];simp only[List.getElem_map,List.getElem_range];rw[show ((x.toNat:Nat):Int)=x by omega]
  unfold tget;rw[e];unfold stR
  rw[key x (fstF t x) _ y hy (fun f hf=>by
   have:=XL kt ⟨hx,hxp⟩ hf;rw[List.length_replicate,hsl]
   omega)]
  by_cases hm:y∈fstF t x
  ·rw[if_pos hm,if_pos ⟨hx,hxp,hm⟩]
  ·rw[if_neg hm,if_neg (fun h=>hm h.2.2)]
   by_cases hl:y.toNat<(sltF t).toNat
   ·rw[getElem!_pos (List.replicate (sltF t).toNat ([]:List Og)) y.toNat (by rw[List.length_replicate];exact hl),List.getElem_replicate]
   ·rw[getElem!_neg (List.replicate (sltF t).toNat ([]:List Og)) y.toNat (by rw[List.length_replicate];exact hl)]
    rfl
 ·rw[if_neg (fun h=>hxp h.2.1)]
  unfold tget;have : ¬ x.toNat<(stT t).length:=by have:=hd.1;omega
  rw[getElem!_neg (stT t) x.toNat this];rfl
theorem Vk {t:Tk} (kt:TkOk t) (h1:t.pr≠1) {x:St} (hx:x∈(grpF 0 (chnF t)).flatten) : ∃ (k:Nat) (v:Int),0<=v/\v<t.pr-1/\0<=chS t k v/\chS t k v<t.pa/\x=chX t k v:=by
 obtain ⟨S,hS,hx⟩:=List.mem_flatten.1 hx;obtain ⟨i,hi,rfl⟩:=List.getElem_of_mem hS;have hi' : i<(chnF t).length:=by rw[xm] at hi;exact hi
 rw[Vf _ _ _ _ hi',ch_at h1,Nat.zero_add] at hx;obtain ⟨v,h⟩:=(Zh kt).1 hx;exact⟨i,v,h⟩
theorem ch_one {t:Tk} (kt:TkOk t):chnF t = []\/t.pr≠1:=by
 by_cases h1:t.pr=1
 ·left
  unfold chnF;rw[if_pos h1]
 ·exact .inr h1
theorem ch_C {t:Tk} {n:Int} (kt:TkOk t) (hop:t.op=1) (hr:RsOk t.pr n (grpF 0 (chnF t))):NdC t (grpF 0 (chnF t)).flatten:=by
 have hpr:=kt.pr;have hb:blkF t=1:=by unfold blkF;rw[if_neg (by omega),if_neg (by omega),if_neg (by omega)]
 rcases ch_one kt with e | h1
 ·rw[e]
  exact⟨.nil,fun x hx=>(by cases hx),fun x hx=>(by cases hx),fun x hx=>(by cases hx)⟩
 ·have hX : ∀ k v,chX t k v=⟨k,relF t v,relF t (v+1),chS t k v,chS t k v,0⟩:=fun k v=>by
   unfold chX;rw[if_neg (by omega)]
  have hS : ∀ k v,chS t k v=k-v:=fun k v=>by
   unfold chS;rw[if_neg (by omega)]
  refine⟨(ZW hr).imp_of_mem (fun {x y} hx hy f e=>?_),fun x hx=>?_,fun x hx=>?_,fun x hx=>.inl ?_⟩
  ·obtain ⟨k,v,a1,a2,a3,a4,rfl⟩:=Vk kt h1 hx
   obtain ⟨k',v',b1,b2,b3,b4,rfl⟩:=Vk kt h1 hy;rw[hX,hX] at e f;dsimp only at e;have hv:=uJ (by omega) (by omega) (by omega) e.1;rw[hS,hS] at e;exact (f (by dsimp only;omega)).1 ⟨e.1,by dsimp only;rw[hS,hS];exact e.2⟩
  ·obtain ⟨k,v,a1,a2,a3,a4,rfl⟩:=Vk kt h1 hx
   rw[hX];dsimp only
   have hne:relF t (v+1)≠t.ro:=fun e=>by
    rw[<- (Xl kt).2] at e;have:=uJ (by omega) (by omega) (by omega) e;omega
   unfold fstF;rw[if_pos ⟨.inl hop,hne⟩];exact List.not_mem_nil
  ·obtain ⟨k,v,a1,a2,a3,a4,rfl⟩:=Vk kt h1 hx
   rw[hX];dsimp only;intro e;have:=uJ (by omega) (by omega) (by omega) e.1;omega
  ·obtain ⟨k,v,a1,a2,a3,a4,rfl⟩:=Vk kt h1 hx
   rw[hX];dsimp only;rw[ZA (.inl hop)];unfold slo;rw[if_pos hop,yg];omega
theorem ch_R {t:Tk} {n:Int} (kt:TkOk t) (hop:t.op=2) (hr:RsOk t.pr n (grpF 0 (chnF t))):NdR t (grpF 0 (chnF t)).flatten:=by
 have hpr:=kt.pr;rcases ch_one kt with e | h1
 ·rw[e]
  exact⟨.nil,fun x hx=>(by cases hx)⟩
 ·have hX : ∀ k v,chX t k v=⟨k,relF t (v+1),relF t v,chS t k v,chS t k v,2⟩:=fun k v=>by
   unfold chX;rw[if_pos hop]
  have hS : ∀ k v,chS t k v=k-(t.pr-2-v):=fun k v=>by
   unfold chS;rw[if_pos hop]
  refine⟨(ZW hr).imp_of_mem (fun {x y} hx hy f e=>?_),fun x hx=>?_⟩
  ·obtain ⟨k,v,a1,a2,a3,a4,rfl⟩:=Vk kt h1 hx
   obtain ⟨k',v',b1,b2,b3,b4,rfl⟩:=Vk kt h1 hy;rw[hX,hX] at e f;dsimp only at e;have hv:=uJ (by omega) (by omega) (by omega) e.1;have hv' : v=v' := by omega
   subst hv';rw[hS,hS] at e;exact (f (by dsimp only;omega)).1 ⟨rfl,by dsimp only;rw[hS,hS];exact e.2⟩
  ·obtain ⟨k,v,a1,a2,a3,a4,rfl⟩:=Vk kt h1 hx
   rw[hX];dsimp only;intro e;rw[<- (Xl kt).2] at e;have:=uJ (by omega) (by omega) (by omega) e;omega
theorem nd_all {t:Tk} {a:Int} (kt:TkOk t) (h16:t.pr<=16) (ha:a∈algK t.op) (h4:a≠4) :
 ((t.op=1\/t.op=5\/t.op=6)->NdC t (grpF 0 (qZ t a)).flatten)/\(t.op=2->NdR t (grpF 0 (qZ t a)).flatten):=by
 have hpr:=kt.pr;have hpa:=kt.pa;have hro:=kt.ro;by_cases h0:t.op=1\/t.op=2\/t.op=5\/t.op=6
 ·obtain ⟨⟨g,hg⟩, -⟩:=all_gd kt h16 ha (by omega)
  by_cases h3:a=3
  ·subst h3
   have hop:t.op=1\/t.op=2:=by
    rcases h0 with h | h | h | h
    ·exact .inl h
    ·exact .inr h
    ·have:=al5 h ha;omega
    ·have:=al6 h ha;omega
   have hrn:qZ t 3=chnF t:=by
    rcases hop with h | h
    ·rw[rn1 h];rfl
    ·rw[rn2 h];rfl
   have hok:=hg.ok;rw[hrn] at hok ⊢;exact⟨fun h=>ch_C kt (by omega) hok,fun h=>ch_R kt h hok⟩
  ·have h11:t.op≠11:=by omega
   have h7:t.op=3->a≠7:=by omega
   obtain ⟨⟨g0,hg0⟩, -⟩:=UM kt h16 ha (by omega) h11 h3 (fun _=>h4) h7
   have e:(grpF 0 (qZ t a)).flatten=(grpF 0 (qZ (bT t) a)).flatten.flatMap (exX (spB t)):=by
    rw[rn_ex (by omega) h11 h3 (fun _=>h4) h7 ha kt.op,Uw (fun ms hms m hm=>?_),flat_fm];have:=((ZE (bT_ok kt h11) ha).ok ms hms m hm).len;exact Pq.const (fun b=>uG (by omega) b) this.symm
   have hk : ∀ x∈(grpF 0 (qZ (bT t) a)).flatten,StOk t.pr (blkF t) x:=fun x hx=>by
    obtain ⟨S,hS,hx⟩:=List.mem_flatten.1 hx;exact hg0.ok.ok S hS x hx
   obtain ⟨i,hi⟩ : ∃ i:Nat,t.pr=((i+1:Nat):Int):=⟨(t.pr-1).toNat,by omega⟩;have hi16:i<16:=by omega
   obtain ⟨ro,hr⟩ : ∃ r:Nat,t.ro=(r:Int):=⟨t.ro.toNat,by omega⟩;have hri:ro<i+1:=by omega
   have eT : ∀ op:Int,t.op=op->bT t=⟨op,((i+1:Nat):Int),(ro:Int),1,[],[]⟩:=fun op h=>by unfold bT;rw[h,hi,hr]
   rw[e];refine⟨fun hop=>exl_C (by omega) hk h11 hop (ckCn_ok (t:=bT t) hop ?_),fun hop=>exl_R (by omega) hk (ckRn_ok (t:=bT t) ?_)⟩
   ·rcases hop with h | h | h
    ·have:a=1\/a=2:=by have:=al1 h ha;omega
     rw[eT 1 h];rcases this with rfl | rfl
     ·exact qB (qB kn1_1 hi16) hri
     ·exact qB (qB kn1_2 hi16) hri
    ·rw[eT 5 h]
     rcases al5 h ha with rfl | rfl
     ·exact qB (qB kn5_1 hi16) hri
     ·exact qB (qB kn5_2 hi16) hri
    ·rw[eT 6 h]
     rcases al6 h ha with rfl | rfl
     ·exact qB (qB kn6_1 hi16) hri
     ·exact qB (qB kn6_2 hi16) hri
   ·have:a=1\/a=2:=by have:=al2 hop ha;omega
    rw[eT 2 hop];rcases this with rfl | rfl
    ·exact qB (qB kn2_1 hi16) hri
    ·exact qB (qB kn2_2 hi16) hri
 ·exact⟨fun h=>absurd h (by omega),fun h=>absurd h (by omega)⟩
theorem all_need {t:Tk} {a:Int} {l:List St} {i:Nat} (hc:chkF t=0) (h16:t.pr<=16) (hop:t.op=1\/t.op=2\/t.op=5\/t.op=6) (ha:a∈algK t.op) (h4:a≠4) (pm:l.Perm (stsF 0 (qZ t a))) (hs:l.Pairwise (fun a b=>befF b a=false)) (hi:i<l.length) :
 sndF t (l.take i++l.drop (i+1))=0/\rgtF t (l.take i++l.drop (i+1))=false:=by
 have kt:=yz hc;have hpr:=kt.pr;have hsl:sltF t=blkF t*t.pa:=by unfold sltF;rw[if_pos hc]
 obtain ⟨⟨h,g⟩, -⟩:=all_gd kt h16 ha (by omega);rw[Uu] at pm;have hr:=g.ok;rw[<- hsl] at hr;refine⟨er_snd hc hr pm hs i, ?_⟩;have nd:=nd_all kt h16 ha h4;by_cases h2:t.op=2
 ·exact er_red hc hr pm hs (st_in hc) hi h2 ((nd.2 h2).perm pm.symm)
 ·exact er_copy hc hr pm hs (st_in hc) hi ((nd.1 (by omega)).perm pm.symm)
end Go.Af.Tryz
