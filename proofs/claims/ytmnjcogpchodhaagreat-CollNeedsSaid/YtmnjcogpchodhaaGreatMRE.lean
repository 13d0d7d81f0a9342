/- A part of the proof. -/
import Derived.Test.YtmnjcogpchodhaaGreatMRD
set_option linter.all false
set_option maxHeartbeats 4000000
set_option maxRecDepth 100000
namespace Go.Af.Tryz
open Go Go.Proofs
open Go.Af.Coll (St)

theorem VA : ∀ (n:Nat) (v hi:Int),hi-v<=n->lpF n v 1 hi=(List.range (hi-v).toNat).map (fun i:Nat=>v+(i:Int))
 | 0,v,hi,h=>by
   rw[lpF,show (hi-v).toNat=0 by omega];rfl
 | n+1,v,hi,h=>by
   rw[lpF];by_cases hv:v<hi
   ·rw[if_pos hv,VA n (v+1) hi (by omega),show (hi-v).toNat=(hi-(v+1)).toNat+1 by omega,List.range_succ_eq_map,List.map_cons,List.map_map]
    congr 1
    ·simp
    ·apply List.map_congr_left
     intro i _;simp only[Function.comp];omega
   ·rw[if_neg hv,show (hi-v).toNat=0 by omega]
    rfl
def vF (t:Tk) (p:Int):Int:=(p-t.ro) % t.pr
section
variable {t:Tk} (hp:1<=t.pr)
include hp
theorem ZF (v:Int):0<=relF t v/\relF t v<t.pr:=⟨Int.emod_nonneg _ (by omega),Int.emod_lt_of_pos _ (by omega)⟩
theorem v_rng (p:Int):0<=vF t p/\vF t p<t.pr:=⟨Int.emod_nonneg _ (by omega),Int.emod_lt_of_pos _ (by omega)⟩
theorem v_rel {v:Int} (h:0<=v/\v<t.pr):vF t (relF t v)=v:=by
 unfold vF relF;rw[Int.emod_sub_emod,show v+t.ro-t.ro=v by omega,Int.emod_eq_of_lt h.1 h.2]
theorem rel_v {p:Int} (h:0<=p/\p<t.pr):relF t (vF t p)=p:=by
 unfold vF relF;rw[Int.emod_add_emod,show p-t.ro+t.ro=p by omega,Int.emod_eq_of_lt h.1 h.2]
theorem uJ {v w:Int} (hv:0<=v/\v<t.pr) (hw:0<=w/\w<t.pr) (h:relF t v=relF t w):v=w:=by
 rw[<- v_rel hp hv,<- v_rel hp hw,h]
end
theorem Xl {t:Tk} (kt:TkOk t):vF t t.ro=0/\relF t 0=t.ro:=by
 unfold vF relF;rw[Int.sub_self,Int.zero_emod,Int.zero_add];exact⟨rfl,Int.emod_eq_of_lt kt.ro.1 kt.ro.2⟩
def chX (t:Tk) (k v:Int):St:=if t.op=2 then ⟨k,relF t (v+1),relF t v,chS t k v,chS t k v,2⟩ else ⟨k,relF t v,relF t (v+1),chS t k v,chS t k v,0⟩
theorem Zh {t:Tk} (kt:TkOk t) {k:Int} {x:St}:x∈stRd k (chR t k)↔∃ v,0<=v/\v<t.pr-1/\0<=chS t k v/\chS t k v<t.pa/\x=chX t k v:=by
 have hpr:=kt.pr;unfold stRd chR;rw[VA 64 0 (t.pr-1) (by omega)];simp only[List.mem_flatMap,List.mem_map,List.mem_range]
 have hm : ∀ v,stM k (chM t k v) = [chX t k v]:=fun v=>by
  unfold chM chX;split <;> rfl
 constructor
 ·rintro ⟨m,⟨_,⟨i,hi,rfl⟩,hm'⟩,hx⟩
  unfold chG at hm';split at hm'
  ·rename_i h
   rcases List.mem_singleton.1 hm' with rfl
   rw[hm,List.mem_singleton] at hx;exact⟨0+(i:Int),by omega,by omega,h.1,h.2,hx⟩
  ·cases hm'
 ·rintro ⟨v,h0,h1,h2,h3,rfl⟩
  refine⟨chM t k v,⟨v,⟨v.toNat,by omega,by omega⟩, ?_⟩,by rw[hm];exact List.mem_singleton.2 rfl⟩;unfold chG;rw[if_pos ⟨h2,h3⟩];exact List.mem_singleton.2 rfl
theorem ch_pw {t:Tk} (kt:TkOk t) {k:Int}:(stRd k (chR t k)).Pairwise Fit:=by
 have hpr:=kt.pr
 have hm : ∀ v,(chG t k v).flatMap (stM k)=if 0<=chS t k v/\chS t k v<t.pa then [chX t k v] else []:=fun v=>by
  unfold chG;split
  ·have:stM k (chM t k v) = [chX t k v]:=by
    unfold chM chX;split <;> rfl
   rw[List.flatMap_cons,this];rfl
  ·rfl
 unfold stRd chR;rw[VA 64 0 (t.pr-1) (by omega),List.flatMap_assoc,List.pairwise_flatMap];refine⟨fun v _=>?_, ?_⟩
 ·rw[hm]
  split
  ·exact List.pairwise_singleton _ _
  ·exact .nil
 ·rw[List.pairwise_map]
  refine List.pairwise_lt_range.imp_of_mem (fun {i j} hi hj hij x hx y hy=>?_);have hi:=List.mem_range.1 hi;have hj:=List.mem_range.1 hj;rw[hm] at hx hy;split at hx
  ·split at hy
   ·rcases List.mem_singleton.1 hx with rfl
    rcases List.mem_singleton.1 hy with rfl
    have n1:relF t (0+(i:Int))≠relF t (0+(j:Int)):=fun e=>by have:=uJ (by omega) (by omega) (by omega) e;omega
    have n2:relF t (0+(i:Int)+1)≠relF t (0+(j:Int)+1):=fun e=>by have:=uJ (by omega) (by omega) (by omega) e;omega
    unfold chX;split
    ·exact fun _=>⟨fun e=>n1 e.1,fun _ _=>⟨fun e=>absurd e n2,fun e=>absurd e n1⟩⟩
    ·exact fun _=>⟨fun e=>n2 e.1,fun _ _=>⟨fun e=>absurd e n1,fun e=>absurd e n2⟩⟩
   ·cases hy
  ·cases hx
def chF (t:Tk) (k:Nat):Fs:=fun p s =>
 if 0<=p/\p<t.pr/\0<=s/\s<t.pa then
  if t.op=2 then if vF t p=t.pr-1\/s+t.pr-2-vF t p<k then (List.range (t.pr-vF t p).toNat).map (fun j:Nat=>(relF t (vF t p+(j:Int)),s)) else [(p,s)]
  else if vF t p=0\/s+vF t p<=k then [(t.ro,s)] else []
 else []
theorem ch_in {t:Tk} (kt:TkOk t) (hop:t.op=1\/t.op=2) (h1:t.pr≠1):inF t=chF t 0:=by
 have hpr:=kt.pr;have hpa:=kt.pa;have hro:=kt.ro;have hb:blkF t=1:=by unfold blkF;rw[if_neg (by omega),if_neg (by omega),if_neg (by omega)]
 funext p s
 unfold inF chF fstF;rw[hb];by_cases hps:0<=p/\p<t.pr
 ·have hv:=v_rng (t:=t) (by omega) p
  have hs:s∈spnF t 0 1↔0<=s/\s<t.pa:=by rw[yg];omega
  have h0:vF t p=0↔p=t.ro:=by
   constructor
   ·intro h
    have:=rel_v (t:=t) (by omega) hps;rw[h,(Xl kt).2] at this;exact this.symm
   ·intro h
    rw[h];exact (Xl kt).1
  rw[if_neg (show ¬ (t.op=5\/t.op=7) by omega),if_neg (show ¬ t.op=8 by omega),if_neg (show ¬ t.op=11 by omega)];rcases hop with hop | hop
  ·by_cases hr:p=t.ro
   ·rw[if_neg (show ¬ ((t.op=1\/t.op=6)/\p≠t.ro) by omega)]
    by_cases hsr:0<=s/\s<t.pa
    ·rw[if_pos ⟨hps.1,hps.2,hs.2 hsr⟩,if_pos ⟨hps.1,hps.2,hsr.1,hsr.2⟩,if_neg (by omega),if_pos (.inl (h0.2 hr)),hr]
    ·rw[if_neg (fun h=>hsr (hs.1 h.2.2)),if_neg (by omega)]
   ·rw[if_pos (show (t.op=1\/t.op=6)/\p≠t.ro by omega)]
    have:vF t p≠0:=fun h=>hr (h0.1 h)
    rw[if_neg (by simp)];split
    ·rw[if_neg (by omega),if_neg (by omega)]
    ·rfl
  ·rw[if_neg (show ¬ ((t.op=1\/t.op=6)/\p≠t.ro) by omega)]
   by_cases hsr:0<=s/\s<t.pa
   ·rw[if_pos ⟨hps.1,hps.2,hs.2 hsr⟩,if_pos ⟨hps.1,hps.2,hsr.1,hsr.2⟩,if_pos hop]
    split
    ·rename_i hc
     have hv1:vF t p=t.pr-1:=by omega
     rw[hv1,show (t.pr-(t.pr-1)).toNat=1 by omega];have:=rel_v (t:=t) (by omega) hps;rw[hv1] at this;simp[this]
    ·rfl
   ·rw[if_neg (fun h=>hsr (hs.1 h.2.2)),if_neg (by omega)]
 ·rw[if_neg (by omega),if_neg (by omega)]
theorem chF_b {t:Tk} {k:Nat} {p s:Int} (hop:t.op=1) (h:0<=p/\p<t.pr/\0<=s/\s<t.pa):chF t k p s=if vF t p=0\/s+vF t p<=k then [(t.ro,s)] else []:=by
 unfold chF;rw[if_pos h,if_neg (by omega)]
theorem chF_r {t:Tk} {k:Nat} {p s:Int} (hop:t.op=2) (h:0<=p/\p<t.pr/\0<=s/\s<t.pa):chF t k p s=if vF t p=t.pr-1\/s+t.pr-2-vF t p<k then (List.range (t.pr-vF t p).toNat).map (fun j:Nat=>(relF t (vF t p+(j:Int)),s)) else [(p,s)]:=by
 unfold chF;rw[if_pos h,if_pos hop]
theorem ch_rnd {t:Tk} (kt:TkOk t) (hop:t.op=1\/t.op=2) (k:Nat):Rnd (chF t k) (stRd (k:Int) (chR t k)) (chF t (k+1)):=by
 have hpr:=kt.pr;have hpa:=kt.pa;refine⟨fun x hx=>?_,fun p s hp0 hs0 hn=>?_⟩
 ·obtain ⟨v,h0,h1,h2,h3,rfl⟩:=(Zh kt).1 hx
  have r0:=ZF (t:=t) (by omega) v;have r1:=ZF (t:=t) (by omega) (v+1);have e0:=v_rel (t:=t) (by omega) (v:=v) (by omega);have e1:=v_rel (t:=t) (by omega) (v:=v+1) (by omega);unfold chX;rcases hop with hop | hop
  ·have hS:chS t k v=k-v:=by unfold chS;rw[if_neg (by omega)]
   rw[hS] at h2 h3;rw[if_neg (by omega),hS];dsimp only;have a0:chF t k (relF t v) (k-v) = [(t.ro,k-v)]:=by rw[chF_b hop ⟨r0.1,r0.2,h2,h3⟩,e0,if_pos (by omega)]
   have a1:chF t (k+1) (relF t (v+1)) (k-v) = [(t.ro,k-v)]:=by rw[chF_b hop ⟨r1.1,r1.2,h2,h3⟩,e1,if_pos (by omega)]
   unfold joinL;rw[a0,a1,if_pos rfl];simp
  ·have hS:chS t k v=k-(t.pr-2-v):=by unfold chS;rw[if_pos hop]
   rw[hS] at h2 h3;rw[if_pos hop,hS];dsimp only;have a0:chF t k (relF t v) (k-(t.pr-2-v)) = [(relF t v,k-(t.pr-2-v))]:=by rw[chF_r hop ⟨r0.1,r0.2,h2,h3⟩,e0,if_neg (by omega)]
   have a1:chF t k (relF t (v+1)) (k-(t.pr-2-v))=(List.range (t.pr-(v+1)).toNat).map (fun j:Nat=>(relF t (v+1+(j:Int)),k-(t.pr-2-v))):=by rw[chF_r hop ⟨r1.1,r1.2,h2,h3⟩,e1,if_pos (by omega)]
   have a2:chF t (k+1) (relF t v) (k-(t.pr-2-v))=(List.range (t.pr-v).toNat).map (fun j:Nat=>(relF t (v+(j:Int)),k-(t.pr-2-v))):=by rw[chF_r hop ⟨r0.1,r0.2,h2,h3⟩,e0,if_pos (by omega)]
   unfold joinL;rw[a0,a1,a2,if_neg (by omega),if_neg (by omega)];have hl:(t.pr-v).toNat=(t.pr-(v+1)).toNat+1:=by omega
   refine⟨fun e=>?_, ?_, ?_⟩
   ·have:=congrArg List.length e
    simp at this;omega
   ·simp
    omega
   ·rw[hl,List.range_succ_eq_map,List.map_cons,List.map_map,List.singleton_append]
    congr 1
    ·simp
    ·apply List.map_congr_left
     intro j _;simp only[Function.comp];rw[show v+((j.succ:Nat):Int)=v+1+(j:Int) by omega]
 ·by_cases hr:0<=p/\p<t.pr/\0<=s/\s<t.pa
  ·have hv:=v_rng (t:=t) (by omega) p
   have er:=rel_v (t:=t) (by omega) (p:=p) ⟨hr.1,hr.2.1⟩;rcases hop with hop | hop
   ·rw[chF_b hop hr,chF_b hop hr]
    by_cases hc:vF t p≠0/\s+vF t p=k+1
    ·exfalso
     have hS:chS t k (vF t p-1)=s:=by unfold chS;rw[if_neg (by omega)];omega
     refine hn (chX t k (vF t p-1)) ((Zh kt).2 ⟨vF t p-1,by omega,by omega,by omega,by omega,rfl⟩) ?_;unfold chX;rw[if_neg (by omega),hS];dsimp only;rw[show vF t p-1+1=vF t p by omega];exact⟨er,rfl⟩
    ·by_cases h1:vF t p=0\/s+vF t p<=k
     ·rw[if_pos h1,if_pos (by omega)]
     ·rw[if_neg h1,if_neg (by omega)]
   ·rw[chF_r hop hr,chF_r hop hr]
    by_cases hc:vF t p≠t.pr-1/\s+t.pr-2-vF t p=k
    ·exfalso
     have hS:chS t k (vF t p)=s:=by unfold chS;rw[if_pos hop];omega
     refine hn (chX t k (vF t p)) ((Zh kt).2 ⟨vF t p,by omega,by omega,by omega,by omega,rfl⟩) ?_;unfold chX;rw[if_pos hop,hS];dsimp only;exact⟨er,rfl⟩
    ·by_cases h1:vF t p=t.pr-1\/s+t.pr-2-vF t p<k
     ·rw[if_pos h1,if_pos (by omega)]
     ·rw[if_neg h1,if_neg (by omega)]
  ·unfold chF
   rw[if_neg hr,if_neg hr]
theorem Vf : ∀ (rs:List (List Msg)) (k i:Nat) (h:i<(grpF k rs).length) (h' : i<rs.length),(grpF k rs)[i]=stRd ((k+i:Nat):Int) rs[i]
 | ms::rs,k,0,_,_=>rfl
 | ms::rs,k,i+1,h,h' => by
   have:=Vf rs (k+1) i (by simpa [grpF] using h) (by simpa using h');simp only[grpF,List.getElem_cons_succ];rw[this,show k+1+i=k+(i+1) by omega]
theorem run_of {f:Nat->Fs} : ∀ {rs:List (List Msg)} {k:Nat},(∀ i (h:i<rs.length),Rnd (f (k+i)) (stRd ((k+i:Nat):Int) rs[i]) (f (k+i+1)))->Run (f k) (grpF k rs) (f (k+rs.length))
 | [],k,_=>.nil _
 | ms::rs,k,h=>by
   have h0:=h 0 (by simp)
   have:=run_of (f:=f) (rs:=rs) (k:=k+1) (fun i hi=>by
    have:=h (i+1) (by simpa using hi);rw[show k+(i+1)=k+1+i by omega] at this
    exact this)
   rw[List.length_cons,show k+(rs.length+1)=k+1+rs.length by omega];exact .cons h0 this
theorem ch_len {t:Tk} (h1:t.pr≠1):(chnF t).length=(t.pa+t.pr-2).toNat:=by
 unfold chnF;rw[if_neg h1,List.length_map,List.length_range]
theorem ch_at {t:Tk} (h1:t.pr≠1) {i:Nat} (h:i<(chnF t).length):(chnF t)[i]=chR t i:=by
 unfold chnF at h ⊢;simp only[if_neg h1,List.getElem_map,List.getElem_range]
theorem ch_gd {t:Tk} (kt:TkOk t) (hop:t.op=1\/t.op=2) : ∃ g,Gd t t.pa (chnF t) g:=by
 have hpr:=kt.pr;have hpa:=kt.pa;have hro:=kt.ro;have hb:blkF t=1:=by unfold blkF;rw[if_neg (by omega),if_neg (by omega),if_neg (by omega)]
 have hxs : ∀ i:Nat,i<(spnF t 0 1).length->(spnF t 0 1)[i]! = (i:Int)/\(i:Int)<t.pa:=fun i hi=>by
  rw[vU] at hi;have:=xQ t 0 1 hi;omega
 by_cases h1:t.pr=1
 ·refine⟨inF t, ?_, ?_,fun r hr w hw=>?_⟩
  ·unfold chnF
   rw[if_pos h1];exact⟨by simp[grpF],fun i hi=>by simp[grpF] at hi,fun S hS=>by simp[grpF] at hS,fun S hS=>by simp[grpF] at hS⟩
  ·unfold chnF
   rw[if_pos h1];exact .nil _
  ·have hr0:r=0:=by omega
   subst hr0;have hro0:t.ro=0:=by omega
   have hin : ∀ s,0<=s/\s<t.pa->inF t 0 s = [(0,s)]:=fun s hs=>by
    have e:fstF t 0=spnF t 0 1:=by
     unfold fstF;rw[hb,if_neg (by omega),if_neg (by omega),if_neg (by omega),if_neg (by omega)]
    unfold inF;rw[e,if_pos ⟨by omega,by omega,(yg _ _ _ _).2 (by omega)⟩]
   unfold finF at hw;rw[hb] at hw;rcases hop with hop | hop
   ·rw[if_pos hop] at hw
    obtain ⟨i,hi,rfl⟩:=yh.1 hw;have:=hxs i hi;unfold hasF;dsimp only;rw[this.1,if_pos (by decide)];rw[show inF t ((0:Nat):Int) (i:Int) = [(0,(i:Int))] from hin i (by omega),hro0];simp
   ·rw[if_neg (by omega),if_neg (by omega),if_neg (by omega),if_neg (by omega),if_neg (by omega),if_pos hop,if_pos (by omega)] at hw
    obtain ⟨i,hi,rfl⟩:=uQ.1 hw;have:=hxs i hi;unfold hasF;dsimp only;rw[this.1,if_neg (by omega)];rw[show inF t ((0:Nat):Int) (i:Int) = [(0,(i:Int))] from hin i (by omega),h1];simp[badK,cntL]
 ·have hl:=ch_len h1
  refine⟨chF t (chnF t).length,⟨?_,fun i hi x hx=>?_,fun S hS=>?_,fun S hS x hx=>?_⟩, ?_,fun r hr w hw=>?_⟩
  ·rw[xm,hl];omega
  ·have hi' := hi
   rw[xm] at hi';rw[Vf _ _ _ _ hi',ch_at h1] at hx;rw[show ((0+i:Nat):Int)=(i:Int) by omega] at hx;obtain ⟨v,_,_,_,_,rfl⟩:=(Zh kt).1 hx;unfold chX;split <;> rfl
  ·obtain ⟨i,hi,rfl⟩:=List.getElem_of_mem hS
   have hi' := hi;rw[xm] at hi';rw[Vf _ _ _ _ hi',ch_at h1,show ((0+i:Nat):Int)=(i:Int) by omega];exact ch_pw kt
  ·obtain ⟨i,hi,rfl⟩:=List.getElem_of_mem hS
   have hi' := hi;rw[xm] at hi';rw[Vf _ _ _ _ hi',ch_at h1,show ((0+i:Nat):Int)=(i:Int) by omega] at hx;obtain ⟨v,_,_,h2,h3,rfl⟩:=(Zh kt).1 hx;have r0:=ZF (t:=t) (by omega) v;have r1:=ZF (t:=t) (by omega) (v+1);unfold chX;split
   ·exact⟨r1,r0,⟨h2,h3⟩,⟨h2,h3⟩,by simp⟩
   ·exact⟨r0,r1,⟨h2,h3⟩,⟨h2,h3⟩,by simp⟩
  ·rw[ch_in kt hop h1]
   have:=run_of (f:=chF t) (rs:=chnF t) (k:=0) (fun i hi=>by
    rw[ch_at h1,Nat.zero_add]
    exact ch_rnd kt hop i)
   rw[Nat.zero_add] at this;exact this
  ·unfold finF at hw
   rw[hb] at hw;have hv:=v_rng (t:=t) (by omega) (r:Int);rcases hop with hop | hop
   ·rw[if_pos hop] at hw
    obtain ⟨i,hi,rfl⟩:=yh.1 hw;have:=hxs i hi;unfold hasF chF;dsimp only;rw[this.1,if_pos (by decide),if_pos (by omega),if_neg (by omega),if_pos (by rw[hl];omega)];simp
   ·rw[if_neg (by omega),if_neg (by omega),if_neg (by omega),if_neg (by omega),if_neg (by omega),if_pos hop] at hw
    split at hw
    ·rename_i hrr
     obtain ⟨i,hi,rfl⟩:=uQ.1 hw;have:=hxs i hi;have hv0:vF t (r:Int)=0:=by rw[hrr];exact (Xl kt).1
     unfold hasF chF;dsimp only;rw[this.1,if_neg (by omega),if_pos (by omega),if_pos hop,hv0,if_pos (by rw[hl];omega),Bool.and_eq_true];refine⟨by simp, ?_⟩;rw[List.all_eq_true];intro q hq;have hq:=List.mem_range.1 hq
     have hc:cntL ((List.range (t.pr-0).toNat).map (fun j:Nat=>(relF t (0+(j:Int)),(i:Int)))) (q:Int)=1:=by
      have hvq:=v_rng (t:=t) (by omega) (q:Int);unfold cntL;rw[List.countP_map]
      have:(List.range (t.pr-0).toNat).countP ((fun o:Og=>decide (o.1=(q:Int))) ∘ fun j:Nat=>(relF t (0+(j:Int)),(i:Int)))=(List.range (t.pr-0).toNat).countP (fun x:Nat=>decide ((x:Int)=((vF t (q:Int)).toNat:Int))):=by
       refine List.countP_congr (fun j hj=>?_);have hj:=List.mem_range.1 hj;simp only[Function.comp,decide_eq_true_eq];constructor
       ·intro e
        rw[<- e,v_rel (by omega) (by omega)];omega
       ·intro e
        rw[show (0:Int)+(j:Int)=vF t (q:Int) by omega];exact rel_v (by omega) (by omega)
      rw[this,Xb _ List.nodup_range,if_pos (List.mem_range.2 (by omega))];rfl
     rw[hc];unfold badK;rw[Bool.not_eq_true',decide_eq_false_iff_not];omega
    ·cases hw
end Go.Af.Tryz
namespace Go.Af.Tryz
open Go Go.Proofs
open Go.Af.Coll (St)

def numF:List Int->List Int->Int->Int
 | s::sz,x::xs,n=>numF sz xs (n*s+x)
 | _,_,n=>n
inductive Vc:List Int->List Int->Prop
 | nil:Vc [] []
 | cons {s x:Int} {sz xs:List Int}:0<=x->x<s->Vc sz xs->Vc (s::sz) (x::xs)
theorem ZK : ∀ {sz:List Int} {a b:Int},rngL sz=true->a<=b->mulL sz a<=mulL sz b
 | [],_,_,_,h=>h
 | s::sz,a,b,hg,h=>by
   have hs:=(xx hg s List.mem_cons_self).1;have hg' : rngL sz=true:=by unfold rngL at hg ⊢; rw[List.all_cons,Bool.and_eq_true] at hg;exact hg.2
   rw[mulL,mulL];exact ZK hg' (Int.mul_le_mul_of_nonneg_right h (by omega))
theorem num_lo : ∀ {sz xs:List Int} {n:Int},rngL sz=true->Vc sz xs->mulL sz n<=numF sz xs n
 | _,_,n,_, .nil=>Int.le_refl _
 | s::sz,x::xs,n,hg, .cons h0 h1 h=>by
   have hg' : rngL sz=true:=by unfold rngL at hg ⊢; rw[List.all_cons,Bool.and_eq_true] at hg;exact hg.2
   rw[mulL,numF];exact Int.le_trans (ZK hg' (by omega)) (num_lo hg' h)
theorem num_hi : ∀ {sz xs:List Int} {n:Int},rngL sz=true->Vc sz xs->numF sz xs n<mulL sz (n+1)
 | _,_,n,_, .nil=>by rw[numF,mulL];omega;exact fun _ _ _ _ e=>by cases e
 | s::sz,x::xs,n,hg, .cons h0 h1 h=>by
   have hg' : rngL sz=true:=by unfold rngL at hg ⊢; rw[List.all_cons,Bool.and_eq_true] at hg;exact hg.2
   rw[mulL,numF];refine Int.lt_of_lt_of_le (num_hi hg' h) (ZK hg' ?_);rw[Int.add_mul];omega
theorem num_co : ∀ {sz xs:List Int} {n:Int},Vc sz xs->0<=n->coF sz (numF sz xs n)=xs/\quoF sz (numF sz xs n)=n
 | _,_,n, .nil,_=>⟨rfl,by rw[numF];rfl;exact fun _ _ _ _ e=>by cases e⟩
 | s::sz,x::xs,n, .cons h0 h1 h,hn=>by
   have hm:0<=n*s:=Int.mul_nonneg hn (by omega);have ih:=num_co (n:=n*s+x) h (by omega);have e1:quoF (s::sz) (numF sz xs (n*s+x))=(quoF sz (numF sz xs (n*s+x))).tdiv s:=rfl;rw[numF,coF,e1,ih.1,ih.2,Int.tdiv_eq_ediv_of_nonneg (by omega),Int.tmod_eq_emod_of_nonneg (by omega),Int.add_comm,Int.add_mul_emod_self_right,Int.add_mul_ediv_right _ _ (by omega),Int.emod_eq_of_lt h0 h1,Int.ediv_eq_zero_of_lt h0 h1];exact⟨rfl,by omega⟩
theorem co_num : ∀ {sz:List Int} {x:Int},rngL sz=true->0<=x->numF sz (coF sz x) (quoF sz x)=x/\Vc sz (coF sz x)/\0<=quoF sz x
 | [],x,_,h=>⟨rfl, .nil,h⟩
 | s::sz,x,hg,h=>by
   have hs:=(xx hg s List.mem_cons_self).1;have hg' : rngL sz=true:=by unfold rngL at hg ⊢; rw[List.all_cons,Bool.and_eq_true] at hg;exact hg.2
   have ih:=co_num (sz:=sz) hg' h;have e1:quoF (s::sz) x=(quoF sz x).tdiv s:=rfl;have a:=Int.emod_nonneg (quoF sz x) (show s≠0 by omega);have b:=Int.emod_lt_of_pos (quoF sz x) (show 0<s by omega);have c:=Int.mul_ediv_add_emod (quoF sz x) s;rw[e1,coF,numF,Int.tdiv_eq_ediv_of_nonneg ih.2.2,Int.tmod_eq_emod_of_nonneg ih.2.2,Int.mul_comm,c];exact⟨ih.1, .cons a b ih.2.1,Int.ediv_nonneg ih.2.2 (by omega)⟩
theorem quo_0 {sz:List Int} {x:Int} (hg:rngL sz=true) (h:0<=x/\x<mulL sz 1):quoF sz x=0:=by
 have a:=co_num hg h.1;have b:=num_lo (n:=quoF sz x) hg a.2.1;rw[a.1] at b;by_cases hq:1<=quoF sz x
 ·have:=ZK (sz:=sz) hg hq
  omega
 ·omega
theorem wrp_in {w:Bool} {s x:Int} (h:0<=x/\x<s):wrpF w s x=x:=by
 unfold wrpF;split
 ·exact Int.emod_eq_of_lt h.1 h.2
 ·rfl
theorem rnk_v : ∀ {sz xs:List Int} {ws:List Bool} {n:Int},Vc sz xs->ws.length=sz.length->rnkF sz ws xs n=numF sz xs n
 | _,_,[],n, .nil,_=>rfl
 | _,_,_::_,n, .nil,h=>by simp at h
 | _::_,_::_,[],_, .cons _ _ _,h=>by simp at h
 | s::sz,x::xs,w::ws,n, .cons h0 h1 h,hl=>by
   rw[rnkF,wrp_in ⟨h0,h1⟩,if_neg (by omega),rnk_v h (by simpa using hl),numF]
theorem Vc.len : ∀ {sz xs:List Int},Vc sz xs->xs.length=sz.length
 | _,_, .nil=>rfl
 | _,_, .cons _ _ h=>by rw[List.length_cons,List.length_cons,h.len]
theorem Vc.set : ∀ {sz xs:List Int} {d:Nat} {z:Int},Vc sz xs->d<sz.length->0<=z/\z<sz[d]! -> Vc sz (xs.set d z)
 | _,_,_,_, .nil,h,_=>by simp at h
 | _,_,0,_, .cons _ _ h,_,hz=>.cons hz.1 hz.2 h
 | _,_,d+1,_, .cons a b h,hd,hz=>.cons a b (h.set (by simpa using hd) (by simpa using hz))
theorem Vc.at' : ∀ {sz xs:List Int} {d:Nat},Vc sz xs->d<sz.length->0<=xs[d]! /\ xs[d]! < sz[d]!
 | _,_,_, .nil,h=>by simp at h
 | _,_,0, .cons a b _,_=>⟨a,b⟩
 | _,_,d+1, .cons _ _ h,hd=>by simpa using h.at' (d:=d) (by simpa using hd)
theorem Yu : ∀ {sz xs:List Int} {ws:List Bool} {d:Nat} {z n:Int},Vc sz xs->ws.length=sz.length->d<sz.length->rnkF sz ws (xs.set d z) n=if wrpF ws[d]! sz[d]! z<0\/sz[d]! <= wrpF ws[d]! sz[d]! z then -2 else numF sz (xs.set d (wrpF ws[d]! sz[d]! z)) n
 | _,_,_,_,_,_, .nil,_,h=>by simp at h
 | _::_,_::_,[],_,_,_, .cons _ _ _,h,_=>by simp at h
 | s::sz,x::xs,w::ws,0,z,n, .cons h0 h1 h,hl,_=>by
   show (if wrpF w s z<0\/s<=wrpF w s z then -2 else rnkF sz ws xs (n*s+wrpF w s z))=if wrpF w s z<0\/s<=wrpF w s z then -2 else numF sz xs (n*s+wrpF w s z)
   rw[rnk_v h (by simpa using hl)]
 | s::sz,x::xs,w::ws,d+1,z,n, .cons h0 h1 h,hl,hd=>by
   have ih:=Yu (d:=d) (z:=z) (n:=n*s+x) h (show ws.length=sz.length by simpa using hl) (by simpa using hd);rw[List.set_cons_succ,rnkF,wrp_in ⟨h0,h1⟩,if_neg (by omega),ih];simp only[List.getElem!_cons_succ,List.set_cons_succ,numF]
theorem sh_back {sz:List Int} {ws:List Bool} {r z q:Int} {d:Nat} (hg:rngL sz=true) (hl:ws.length=sz.length) (hd:d<sz.length) (hr:0<=r/\r<mulL sz 1) (h:rnkF sz ws (mvL sz r d z) 0=q) (hq:q ≠ -2):(0<=q/\q<mulL sz 1)/\rnkF sz ws (mvL sz q d (-z)) 0=r:=by
 have hc:=co_num hg hr.1;rw[quo_0 hg hr] at hc;have hv:=hc.2.1;have hs:=(xx hg _ (List.getElem_mem hd)).1;rw[<- getElem!_pos sz d hd] at hs;have hx:=hv.at' hd;unfold mvL at h;rw[Yu hv hl hd] at h;generalize hzz:wrpF ws[d]! sz[d]! ((coF sz r)[d]! + z)=z' at h;split at h
 ·exact absurd h.symm hq
 ·rename_i hb
  have hv' := hv.set hd (z:=z') ⟨by omega,by omega⟩;have hco:=num_co (n:=0) hv' (Int.le_refl 0);rw[h] at hco;have lo:=num_lo (n:=0) hg hv';have hi:=num_hi (n:=0) hg hv'
  have m0 : ∀ l:List Int,mulL l 0=0:=fun l=>by
   induction l with
   | nil=>rfl
   | cons s l ih=>rw[mulL,Int.zero_mul,ih]
  rw[h,m0] at lo;rw[h,Int.zero_add] at hi;refine⟨⟨lo,hi⟩, ?_⟩;have hdl:d<(coF sz r).length:=by rw[hv.len];exact hd
  unfold mvL;rw[hco.1,List.set_set,Yu hv hl hd]
  have e1:((coF sz r).set d z')[d]! = z' := by
   rw[getElem!_pos _ d (by rw[List.length_set];exact hdl),List.getElem_set_self]
  rw[e1]
  have e2:wrpF ws[d]! sz[d]! (z' + -z)=(coF sz r)[d]! := by
   unfold wrpF at hzz ⊢;split
   ·rename_i hw
    rw[if_pos hw] at hzz;rw[<- hzz,Int.emod_add_emod,show (coF sz r)[d]! + z + -z=(coF sz r)[d]! by omega,Int.emod_eq_of_lt hx.1 hx.2]
   ·rename_i hw
    rw[if_neg hw] at hzz;omega
  rw[e2,if_neg (by omega)]
  have e3:(coF sz r).set d (coF sz r)[d]! = coF sz r:=by
   rw[getElem!_pos _ d hdl,List.set_getElem_self]
  rw[e3];exact hc.1
theorem Wn {t:Tk} (kt:TkOk t) (hop:t.op=11) {d:Nat} {r:Int} {b:Bool} (hd:d<t.sz.length) (hr:0<=r/\r<t.pr) (hq:neF t r d b ≠ -2):(0<=neF t r d b/\neF t r d b<t.pr)/\neF t (neF t r d b) d (!b)=r:=by
 have hh:=kt.halo hop;have hpr:=kt.pr
 have hc:crdE t.sz t.ws.length r=0:=by
  unfold crdE;rw[hh,if_neg (by omega),if_neg (by omega)]
 have ok:=UI hc
 have hm:mulL t.sz 1=t.pr:=by
  unfold cntF at hh;split at hh
  ·omega
  ·exact hh
 rw[<- hm] at hr ⊢;unfold neF mvF at hq ⊢;dsimp only at hq ⊢;split at hq
 ·exact absurd rfl hq
 ·rename_i hy
  rw[if_neg hy];have:=sh_back (z:=if b then -wrpF t.ws[d]! t.sz[d]! 1 else wrpF t.ws[d]! t.sz[d]! 1) ok.1 ok.2.2.1 hd hr rfl hq;refine⟨this.1, ?_⟩;rw[if_neg hy];have e:=this.2
  cases b with
  | true=>simpa using e
  | false=>simpa using e
def haX (t:Tk) (j:Nat) (r:Int) (i:Nat):St:=⟨j,r,neF t r (j / 2) (decide (j % 2=1)),i,(1+(j:Int))*t.pa+i,0⟩
theorem ha_dec (j:Nat):decide (((j % 2:Nat):Int)=1)=decide (j % 2=1):=by
 by_cases h:j % 2=1
 ·rw[h];rfl
 ·rw[decide_eq_false h,decide_eq_false (by omega)]
theorem ha_st {t:Tk} (hpa:1<=t.pa) (j:Nat) (r:Int):(haG t (j / 2) ((j % 2:Nat):Int) r).flatMap (stM j)=if neF t r (j / 2) (decide (j % 2=1)) = -2 then [] else (List.range t.pa.toNat).map (haX t j r):=by
 unfold haG;rw[ha_dec];split
 ·rfl
 ·rw[List.flatMap_cons,List.flatMap_nil,List.append_nil]
  unfold stM haM;dsimp only[blM];rw[ha_dec];have l1:(spnF t 0 (0+1)).length=t.pa.toNat:=zi hpa 0;rw[l1]
  apply List.map_congr_left
  intro i hi;have hi:=List.mem_range.1 hi;have a:=zA hpa 0 (i:=i) (by omega);have b:=zA hpa (1+2*((j / 2:Nat):Int)+((j % 2:Nat):Int)) (i:=i) (by omega);unfold spB at a b;rw[a,b];unfold haX;rw[show 1+2*((j / 2:Nat):Int)+((j % 2:Nat):Int)=1+(j:Int) by omega,Int.zero_mul,Int.zero_add]
theorem ha_rd {t:Tk} (kt:TkOk t) (j:Nat):stRd (j:Int) (haR t (j / 2) ((j % 2:Nat):Int))=(List.range t.pr.toNat).flatMap (fun r:Nat=>if neF t r (j / 2) (decide (j % 2=1)) = -2 then [] else (List.range t.pa.toNat).map (haX t j r)):=by
 have hpr:=kt.pr;unfold stRd haR;rw[VA 64 0 t.pr (by omega),List.flatMap_assoc,List.flatMap_map,Int.sub_zero];congr 1
 funext r
 rw[ha_st kt.pa.1,Int.zero_add]
theorem Ul {t:Tk} (kt:TkOk t) {j:Nat} {x:St}:x∈stRd (j:Int) (haR t (j / 2) ((j % 2:Nat):Int))↔∃ (r i:Nat),(r:Int)<t.pr/\(i:Int)<t.pa/\neF t r (j / 2) (decide (j % 2=1)) ≠ -2/\x=haX t j r i:=by
 have hpr:=kt.pr;have hpa:=kt.pa;rw[ha_rd kt,List.mem_flatMap];constructor
 ·rintro ⟨r,hr,hx⟩
  have hr:=List.mem_range.1 hr;split at hx
  ·cases hx
  ·rename_i h
   obtain ⟨i,hi,rfl⟩:=List.mem_map.1 hx;have hi:=List.mem_range.1 hi;exact⟨r,i,by omega,by omega,h,rfl⟩
 ·rintro ⟨r,i,hr,hi,h,rfl⟩
  refine⟨r,List.mem_range.2 (by omega), ?_⟩;rw[if_neg h];exact List.mem_map.2 ⟨i,List.mem_range.2 (by omega),rfl⟩
def haF (t:Tk) (j:Nat):Fs:=fun p s =>
 if 0<=p/\p<t.pr/\0<=s then
  if s / t.pa=0 then [(p,s)]
  else if s / t.pa-1<j/\neF t p ((s / t.pa-1).toNat / 2) (decide ((s / t.pa-1).toNat % 2=0)) ≠ -2 then [(neF t p ((s / t.pa-1).toNat / 2) (decide ((s / t.pa-1).toNat % 2=0)),s % t.pa)] else []
 else []
theorem dec_not (j:Nat):decide (j % 2=0) = !decide (j % 2=1):=by
 rcases Nat.mod_two_eq_zero_or_one j with h | h
 ·rw[h];rfl
 ·rw[h];rfl
theorem ha_at {t:Tk} (hpa:1<=t.pa) (b:Int) {i:Nat} (h:(i:Int)<t.pa):(b*t.pa+i) / t.pa=b/\(b*t.pa+i) % t.pa=i:=by
 rw[Int.add_comm,Int.add_mul_ediv_right _ _ (by omega),Int.add_mul_emod_self_right,Int.ediv_eq_zero_of_lt (by omega) h,Int.emod_eq_of_lt (by omega) h];omega
theorem ha_in {t:Tk} (kt:TkOk t) (hop:t.op=11):inF t=haF t 0:=by
 have hpa:=kt.pa
 funext p s
 have hf:fstF t p=spnF t 0 1:=by
  unfold fstF;rw[if_neg (by omega),if_neg (by omega),if_neg (by omega),if_pos hop]
 have hs:s∈spnF t 0 1↔0<=s/\s<t.pa:=by rw[yg];omega
 unfold inF haF;rw[hf];by_cases h:0<=p/\p<t.pr/\0<=s
 ·rw[if_pos h]
  have q0:=Int.ediv_nonneg h.2.2 (show 0<=t.pa by omega);have q1:s / t.pa<1↔s<1*t.pa:=Int.ediv_lt_iff_lt_mul (by omega);by_cases hc:s<t.pa
  ·rw[if_pos ⟨h.1,h.2.1,hs.2 ⟨h.2.2,hc⟩⟩,if_pos (by omega)]
  ·rw[if_neg (fun h' => hc (hs.1 h'.2.2).2),if_neg (by omega),if_neg (by omega)]
 ·rw[if_neg h,if_neg (fun h' => h ⟨h'.1,h'.2.1,(hs.1 h'.2.2).1⟩)]
theorem ha_rnd {t:Tk} (kt:TkOk t) (hop:t.op=11) {j:Nat} (hj:j<2*t.sz.length):Rnd (haF t j) (stRd (j:Int) (haR t (j / 2) ((j % 2:Nat):Int))) (haF t (j+1)):=by
 have hpr:=kt.pr;have hpa:=kt.pa;have hd:j / 2<t.sz.length:=by omega
 refine⟨fun x hx=>?_,fun p s hp0 hs0 hn=>?_⟩
 ·obtain ⟨r,i,hr,hi,hq,rfl⟩:=(Ul kt).1 hx
  have hb:=Wn kt hop hd ⟨by omega,hr⟩ hq;have h1:=ha_at hpa.1 (1+(j:Int)) hi;have hm:0<=(1+(j:Int))*t.pa:=Int.mul_nonneg (by omega) (by omega)
  have a0:haF t j (r:Int) (i:Int) = [((r:Int),(i:Int))]:=by
   unfold haF;rw[if_pos ⟨by omega,hr,by omega⟩,if_pos (Int.ediv_eq_zero_of_lt (by omega) hi)]
  have a1:haF t (j+1) (neF t r (j / 2) (decide (j % 2=1))) ((1+(j:Int))*t.pa+i) = [((r:Int),(i:Int))]:=by
   unfold haF;rw[if_pos ⟨hb.1.1,hb.1.2,by omega⟩,h1.1,h1.2,if_neg (by omega),show (1+(j:Int)-1).toNat=j by omega,dec_not,hb.2,if_pos ⟨by omega,by omega⟩]
  unfold haX joinL;dsimp only;rw[a0,a1,if_pos rfl];simp
 ·by_cases h:0<=p/\p<t.pr/\0<=s
  ·have q0:=Int.ediv_nonneg h.2.2 (show 0<=t.pa by omega)
   unfold haF;rw[if_pos h,if_pos h];by_cases hz:s / t.pa=0
   ·rw[if_pos hz,if_pos hz]
   ·rw[if_neg hz,if_neg hz]
    by_cases hc:s / t.pa-1=j/\neF t p ((s / t.pa-1).toNat / 2) (decide ((s / t.pa-1).toNat % 2=0)) ≠ -2
    ·exfalso
     obtain ⟨hc1,hc2⟩:=hc;have e:(s / t.pa-1).toNat=j:=by omega
     rw[e,dec_not] at hc2;have hb:=Wn kt hop hd ⟨h.1,h.2.1⟩ hc2;rw[Bool.not_not] at hb;have m0:=Int.emod_nonneg s (show t.pa≠0 by omega);have m1:=Int.emod_lt_of_pos s (show 0<t.pa by omega);have m2:=Int.mul_ediv_add_emod s t.pa;have er:(((neF t p (j / 2) (!decide (j % 2=1))).toNat:Nat):Int)=neF t p (j / 2) (!decide (j % 2=1)):=by omega
     refine hn (haX t j ((neF t p (j / 2) (!decide (j % 2=1))).toNat:Nat) (s % t.pa).toNat) ((Ul kt).2 ⟨_,_,by omega,by omega, ?_,rfl⟩) ?_
     ·rw[er,hb.2];omega
     ·unfold haX
      dsimp only;rw[er,hb.2,show (1+(j:Int))=s / t.pa by omega,Int.mul_comm];exact⟨rfl,by omega⟩
    ·by_cases h1:s / t.pa-1<(j:Int)/\neF t p ((s / t.pa-1).toNat / 2) (decide ((s / t.pa-1).toNat % 2=0)) ≠ -2
     ·rw[if_pos h1,if_pos ⟨by omega,h1.2⟩]
     ·rw[if_neg h1,if_neg (fun h2=>by
       by_cases h3:s / t.pa-1=j
       ·exact hc ⟨h3,h2.2⟩
       ·exact h1 ⟨by omega,h2.2⟩)]
  ·unfold haF
   rw[if_neg h,if_neg h]
theorem ha_pw {t:Tk} (kt:TkOk t) (hop:t.op=11) {j:Nat} (hj:j<2*t.sz.length):(stRd (j:Int) (haR t (j / 2) ((j % 2:Nat):Int))).Pairwise Fit:=by
 have hpr:=kt.pr;have hd:j / 2<t.sz.length:=by omega
 rw[ha_rd kt,List.pairwise_flatMap];refine⟨fun r hr=>?_,List.pairwise_lt_range.imp_of_mem (fun {a b} ha hb hab x hx y hy=>?_)⟩
 ·split
  ·exact .nil
  ·rw[List.pairwise_map]
   refine List.pairwise_lt_range.imp (fun {a b} hab _=>?_);unfold haX;dsimp only;exact⟨fun e=>by omega,fun _ _=>⟨fun _=>rfl,fun _=>rfl⟩⟩
 ·have ha:=List.mem_range.1 ha
  have hb:=List.mem_range.1 hb;split at hx
  ·cases hx
  ·rename_i n1
   split at hy
   ·cases hy
   ·rename_i n2
    obtain ⟨i,_,rfl⟩:=List.mem_map.1 hx;obtain ⟨k,_,rfl⟩:=List.mem_map.1 hy;have b1:=Wn kt hop hd (r:=(a:Int)) ⟨by omega,by omega⟩ n1;have b2:=Wn kt hop hd (r:=(b:Int)) ⟨by omega,by omega⟩ n2
    have ne:neF t a (j / 2) (decide (j % 2=1))≠neF t b (j / 2) (decide (j % 2=1)):=fun e=>by
     have:=b1.2;rw[e,b2.2] at this;omega
    unfold haX;exact fun _=>⟨fun e=>ne e.1,fun _ _=>⟨fun e=>by have e:(a:Int)=(b:Int):=e;omega,fun e=>absurd e ne⟩⟩
theorem ha_len (t:Tk):(hloF t).length=2*t.sz.length:=by unfold hloF;simp
theorem Ut {t:Tk} {j:Nat} (h:j<(hloF t).length):(hloF t)[j]=haR t (j / 2) ((j % 2:Nat):Int):=by
 unfold hloF at h ⊢;simp only[List.getElem_map,List.getElem_range]
theorem ha_gd {t:Tk} (kt:TkOk t) (hop:t.op=11) : ∃ g,Gd t (blkF t*t.pa) (hloF t) g:=by
 have hpr:=kt.pr;have hpa:=kt.pa;have hh:=kt.halo hop
 have hc:crdE t.sz t.ws.length 0=0:=by
  unfold crdE;rw[hh,if_neg (by omega),if_neg (by omega)]
 have ok:=UI hc;have hb:blkF t=1+2*(t.sz.length:Int):=by unfold blkF;rw[if_neg (by omega),if_neg (by omega),if_pos hop]
 have hl:=ha_len t;refine⟨haF t (hloF t).length,⟨?_,fun i hi x hx=>?_,fun S hS=>?_,fun S hS x hx=>?_⟩, ?_,fun r hr w hw=>?_⟩
 ·rw[xm,hl];omega
 ·have hi' := hi
  rw[xm] at hi';rw[Vf _ _ _ _ hi',Ut hi',Nat.zero_add] at hx;obtain ⟨r,k,_,_,_,rfl⟩:=(Ul kt).1 hx;rfl
 ·obtain ⟨i,hi,rfl⟩:=List.getElem_of_mem hS
  have hi' := hi;rw[xm] at hi';rw[Vf _ _ _ _ hi',Ut hi',Nat.zero_add];exact ha_pw kt hop (by omega)
 ·obtain ⟨i,hi,rfl⟩:=List.getElem_of_mem hS
  have hi' := hi;rw[xm] at hi';rw[Vf _ _ _ _ hi',Ut hi',Nat.zero_add] at hx;obtain ⟨r,k,hr,hk,hq,rfl⟩:=(Ul kt).1 hx;have b1:=Wn kt hop (d:=i / 2) (by omega) (r:=(r:Int)) ⟨by omega,hr⟩ hq;have m0:0<=(1+(i:Int))*t.pa:=Int.mul_nonneg (by omega) (by omega);have m1:(1+(i:Int)+1)*t.pa<=blkF t*t.pa:=Int.mul_le_mul_of_nonneg_right (by omega) (by omega);have m2:(1+(i:Int)+1)*t.pa=(1+(i:Int))*t.pa+t.pa:=by rw[Int.add_mul,Int.one_mul]
  unfold haX;exact⟨⟨by dsimp only;omega,hr⟩,b1.1,⟨by dsimp only;omega,by dsimp only;omega⟩,⟨by dsimp only;omega,by dsimp only;omega⟩,by simp⟩
 ·rw[ha_in kt hop]
  have:=run_of (f:=haF t) (rs:=hloF t) (k:=0) (fun i hi=>by
   rw[Ut hi,Nat.zero_add]
   exact ha_rnd kt hop (by omega))
  rw[Nat.zero_add] at this;exact this
 ·unfold finF at hw
  rw[if_neg (by omega),if_neg (by omega),if_neg (by omega),if_neg (by omega),if_pos hop] at hw;obtain ⟨d,hd,hw⟩:=List.mem_flatMap.1 hw;have hd:=List.mem_range.1 hd;unfold halF at hw;obtain ⟨e,he,hw⟩:=List.mem_flatMap.1 hw;have he:=List.mem_range.1 he;unfold hvL at hw;split at hw
  ·cases hw
  ·rename_i hq
   obtain ⟨i,hi,rfl⟩:=yh.1 hw
   have hil:(i:Int)<t.pa:=by
    have:=zi hpa.1 (1+2*(d:Int)+e);rw[show 1+2*(d:Int)+e+1=2+2*d+e by omega] at this;omega
   have hg:(spnF t (1+2*(d:Int)+e) (2+2*d+e))[i]! = (1+2*(d:Int)+e)*t.pa+i:=by
    have:=zA hpa.1 (1+2*(d:Int)+e) hil;unfold spB at this;rw[show 1+2*(d:Int)+e+1=2+2*d+e by omega] at this;exact this
   have h1:=ha_at hpa.1 (1+2*(d:Int)+e) hil;have hm:0<=(1+2*(d:Int)+e)*t.pa:=Int.mul_nonneg (by omega) (by omega);have hn:(1+2*(d:Int)+e-1).toNat=2*d+e:=by omega
   unfold hasF;dsimp only;rw[if_pos (by decide),hg];unfold haF;rw[if_pos ⟨by omega,hr,by omega⟩,h1.1,h1.2,if_neg (by omega),hn,show (2*d+e) / 2=d by omega,show (2*d+e) % 2=e by omega,if_pos ⟨by rw[hl];omega,hq⟩];simp
end Go.Af.Tryz
