/- A part of the proof. -/
import Derived.Test.YtmnjcogpchodhaaGreatMRF
set_option linter.all false
set_option maxHeartbeats 4000000
set_option maxRecDepth 100000
namespace Go.Af.Tryz
open Go Go.Proofs
open Go.Af.Coll (St befF)

theorem Uy {p n:Int} {q s:Int} (hq:0<=q) (hs:0<=s) : ∀ {l:List St} {r:Option Int} {now nx tr:Tr},goT r now nx l=some tr->(∀ x∈l,StOk p n x)->(∀ x∈l, ¬ (x.to=q/\x.ds=s))->Dm nx p n->tget tr q s=tget nx q s/\(tget now q s = []->tget nx q s = []->∀ x∈l, ¬ (x.fr=q/\x.sr=s))
 | [],_,_,_,_,h,_,_,_=>by
   cases h;exact⟨rfl,fun _ _ x hx=>by cases hx⟩
 | x::l,r,now,nx,tr,h,ho,hn,hd=>by
   have hx:=ho x List.mem_cons_self;have ho' : ∀ y∈l,StOk p n y:=fun y hy=>ho y (List.mem_cons_of_mem _ hy)
   have hn' : ∀ y∈l, ¬ (y.to=q/\y.ds=s):=fun y hy=>hn y (List.mem_cons_of_mem _ hy)
   have key : ∀ (b:Tr),goT (some x.rd) b (tset nx x.to x.ds (stpL b x)) l=some tr->tget b x.fr x.sr≠[]->(tget now q s = []->tget nx q s = []->tget b q s = [])->tget tr q s=tget nx q s/\(tget now q s = []->tget nx q s = []->∀ y∈x::l, ¬ (y.fr=q/\y.sr=s)):=fun b hb hne hbe=>by
    have ih:=Uy hq hs hb ho' hn' (dm_tset hd hx.to);have e:tget (tset nx x.to x.ds (stpL b x)) q s=tget nx q s:=by rw[Xm hd hx.to hx.ds hq hs,if_neg (hn x List.mem_cons_self)]
    rw[e] at ih;refine⟨ih.1,fun h1 h2 y hy=>?_⟩;rcases List.mem_cons.1 hy with rfl | hy
    ·rintro ⟨rfl,rfl⟩
     exact hne (hbe h1 h2)
    ·exact ih.2 (hbe h1 h2) h2 y hy
   rw[goT] at h;split at h
   ·split at h
    ·cases h
    ·rename_i hc
     exact key now h (fun e=>hc (.inl e)) (fun h _=>h)
   ·split at h
    ·cases h
    ·rename_i hc
     exact key nx h (fun e=>hc (.inl e)) (fun _ h=>h)
theorem Ux {p n:Int} {q s:Int} : ∀ {l:List St} {r:Option Int} {now nx tr:Tr},goT r now nx l=some tr->(∀ x∈l,StOk p n x)->(∀ x∈l, ¬ (x.fr=q/\x.sr=s))->Dm nx p n->(∀ a b,0<=a->0<=b->¬ (a=q/\b=s)->(q,s) ∉ tget now a b/\(q,s) ∉ tget nx a b)->∀ a b,0<=a->0<=b->¬ (a=q/\b=s)->(q,s) ∉ tget tr a b
 | [],_,_,_,_,h,_,_,_,hi=>by
   cases h;exact fun a b ha hb hn=>(hi a b ha hb hn).2
 | x::l,r,now,nx,tr,h,ho,hn,hd,hi=>by
   have hx:=ho x List.mem_cons_self;have ho' : ∀ y∈l,StOk p n y:=fun y hy=>ho y (List.mem_cons_of_mem _ hy)
   have hn' : ∀ y∈l, ¬ (y.fr=q/\y.sr=s):=fun y hy=>hn y (List.mem_cons_of_mem _ hy)
   have key : ∀ (b:Tr),goT (some x.rd) b (tset nx x.to x.ds (stpL b x)) l=some tr->(∀ c d,0<=c->0<=d->¬ (c=q/\d=s)->(q,s) ∉ tget b c d)->∀ a b,0<=a->0<=b->¬ (a=q/\b=s)->(q,s) ∉ tget tr a b:=fun b hb hbi=>by
    refine Ux hb ho' hn' (dm_tset hd hx.to) (fun c d hc hd' hcd=>⟨hbi c d hc hd' hcd, ?_⟩);rw[Xm hd hx.to hx.ds hc hd'];split
    ·rename_i e
     unfold stpL;have a1:=hbi x.fr x.sr hx.fr.1 hx.sr.1 (hn x List.mem_cons_self);have a2:=hbi x.to x.ds hx.to.1 hx.ds.1 (by rw[e.1,e.2];exact hcd);unfold joinL;split
     ·exact a1
     ·split
      ·exact fun h=>(List.mem_append.1 h).elim a1 a2
      ·exact fun h=>(List.mem_append.1 h).elim a2 a1
    ·exact (hi c d hc hd' hcd).2
   rw[goT] at h;split at h
   ·split at h
    ·cases h
    ·exact key now h (fun c d hc hd' hcd=>(hi c d hc hd' hcd).1)
   ·split at h
    ·cases h
    ·exact key nx h (fun c d hc hd' hcd=>(hi c d hc hd' hcd).2)
structure NdC (t:Tk) (l:List St):Prop where
 one:l.Pairwise (fun x y=>¬ (x.to=y.to/\x.ds=y.ds))
 ini : ∀ x∈l,x.ds ∉ fstF t x.to
 self : ∀ x∈l, ¬ (x.fr=x.to/\x.sr=x.ds)
 use : ∀ x∈l,(∃ w∈finF t x.to,w.s=x.ds)\/∃ y∈l,y.fr=x.to/\y.sr=x.ds
structure NdR (t:Tk) (l:List St):Prop where
 one:l.Pairwise (fun x y=>¬ (x.fr=y.fr/\x.sr=y.sr))
 fr : ∀ x∈l,x.fr≠t.ro
theorem NdC.perm {t:Tk} {l l' : List St} (h:NdC t l) (p:l.Perm l'):NdC t l' :=
 ⟨(p.pairwise_iff (fun {x y} h e=>h ⟨e.1.symm,e.2.symm⟩)).1 h.one,fun x hx=>h.ini x (p.mem_iff.2 hx),fun x hx=>h.self x (p.mem_iff.2 hx),fun x hx=>(h.use x (p.mem_iff.2 hx)).imp id (fun ⟨y,hy,e⟩=>⟨y,p.mem_iff.1 hy,e⟩)⟩
theorem NdR.perm {t:Tk} {l l' : List St} (h:NdR t l) (p:l.Perm l'):NdR t l' :=
 ⟨(p.pairwise_iff (fun {x y} h e=>h ⟨e.1.symm,e.2.symm⟩)).1 h.one,fun x hx=>h.fr x (p.mem_iff.2 hx)⟩
theorem Zi {l:List St} {i:Nat} (h:i<l.length):l.Perm (l[i]::(l.take i++l.drop (i+1))):=by
 have e:l=l.take i++l[i]::l.drop (i+1):=by rw[List.getElem_cons_drop];exact (List.take_append_drop i l).symm
 conv=>lhs;rw[e]
 exact List.perm_middle
theorem WF {l:List St} (i:Nat):(l.take i++l.drop (i+1)).Sublist l:=by
 conv=>rhs;rw[<- List.take_append_drop i l]
 have e:l.drop (i+1)=(l.drop i).drop 1:=by rw[List.drop_drop]
 rw[e];exact (List.Sublist.refl _).append (List.drop_sublist 1 _)
section
variable {t:Tk} {rs:List (List St)} {l:List St} {i:Nat} (hc:chkF t=0) (hr:RsOk t.pr (sltF t) rs) (pm:l.Perm rs.flatten) (hs:l.Pairwise (fun a b=>befF b a=false)) (hi:i<l.length)
include hc hr pm hs
theorem er_ok : ∀ x∈l,StOk t.pr (sltF t) x/\0<=x.rd/\x.rd<256:=fun x hx=>by
 obtain ⟨S,hS,hx⟩:=List.mem_flatten.1 (pm.mem_iff.1 hx);refine⟨hr.ok S hS x hx, ?_⟩;obtain ⟨i,hi,rfl⟩:=List.getElem_of_mem hS;have:=hr.rd i hi x hx;have:=hr.len;omega
theorem er_snd (i:Nat):sndF t (l.take i++l.drop (i+1))=0:=by
 have hsub:=WF (l:=l) i;have hok:=er_ok hc hr pm hs;unfold sndF;rw[if_neg (by rw[hc];simp),snd_ref];refine sndR_of (past := []) (by rw[List.nil_append];exact hs.sublist hsub) ?_ (fun x hx=>hok x (hsub.subset hx));rw[List.nil_append];exact ((pm.pairwise_iff (fun {x y} h=>h.symm)).2 (ZW hr)).sublist hsub
end
theorem slt_nn {t:Tk} (hc:chkF t=0):0<=sltF t:=by
 have kt:=yz hc;have hb0:=ww kt;unfold sltF;rw[if_pos hc];exact Int.mul_nonneg (by omega) (by have:=kt.pa;omega)
section
variable {t:Tk} {rs:List (List St)} {l:List St} {i:Nat} (hc:chkF t=0) (hr:RsOk t.pr (sltF t) rs) (pm:l.Perm rs.flatten) (hs:l.Pairwise (fun a b=>befF b a=false)) (hinit : ∀ x y,0<=x->0<=y->tget (stT t) x y=inF t x y) (hi:i<l.length)
include hc hr pm hs hinit hi
theorem er_copy (nd:NdC t l):rgtF t (l.take i++l.drop (i+1))=false:=by
 have kt:=yz hc;have hok:=er_ok hc hr pm hs;have hsub:=WF (l:=l) i;have hp:=Zi hi;have hm:l[i]∈l:=List.getElem_mem hi;have hx:=(hok _ hm).1;have h1:=List.pairwise_cons.1 (nd.perm hp).one;unfold rgtF
 cases htr:trcF t (l.take i++l.drop (i+1)) with
 | none=>rfl
 | some tr =>
   show finG t tr=false;have hk:=Uy (q:=l[i].to) (s:=l[i].ds) hx.to.1 hx.ds.1 htr (fun y hy=>(hok y (hsub.subset hy)).1) (fun y hy e=>h1.1 y hy ⟨e.1.symm,e.2.symm⟩) (dm_st (by have:=kt.pr;omega) (slt_nn hc))
   have h0:tget (stT t) l[i].to l[i].ds = []:=by
    rw[hinit _ _ hx.to.1 hx.ds.1];unfold inF;rw[if_neg (fun h=>nd.ini _ hm h.2.2)]
   rcases nd.use _ hm with ⟨w,hw,ew⟩ | ⟨y,hy,ey⟩
   ·cases hf:finG t tr with
    | false=>rfl
    | true =>
      exfalso;unfold finG at hf;have hto:l[i].to.toNat<t.pr.toNat:=by have:=hx.to;omega
      have:=List.all_eq_true.1 (qB hf hto) w (by rw[Int.toNat_of_nonneg hx.to.1];exact hw);rw[Int.toNat_of_nonneg hx.to.1,ew,hk.1,h0] at this;unfold hasF at this;split at this
      ·have:=of_decide_eq_true this
       cases this
      ·rename_i hu
       rw[Bool.and_eq_true] at this;have:=qB this.2 (i:=0) (by have:=kt.pr;omega);unfold badK cntL at this;rw[Bool.not_eq_true',decide_eq_false_iff_not] at this;simp at this;omega
   ·exfalso
    have hy' : y∈l.take i++l.drop (i+1):=by
     rcases List.mem_cons.1 (hp.mem_iff.1 hy) with rfl | h
     ·exact absurd ey (nd.self _ hm)
     ·exact h
    exact hk.2 h0 h0 y hy' ey
theorem er_red (hop:t.op=2) (nd:NdR t l):rgtF t (l.take i++l.drop (i+1))=false:=by
 have kt:=yz hc;have hpr:=kt.pr;have hpa:=kt.pa;have hro:=kt.ro;have hok:=er_ok hc hr pm hs;have hsub:=WF (l:=l) i;have hp:=Zi hi;have hm:l[i]∈l:=List.getElem_mem hi;have hx:=(hok _ hm).1;have h1:=List.pairwise_cons.1 (nd.perm hp).one;have hb:blkF t=1:=by unfold blkF;rw[if_neg (by omega),if_neg (by omega),if_neg (by omega)]
 have hsl:sltF t=t.pa:=by unfold sltF;rw[if_pos hc,hb,Int.one_mul]
 unfold rgtF
 cases htr:trcF t (l.take i++l.drop (i+1)) with
 | none=>rfl
 | some tr =>
   show finG t tr=false
   have hk:=Ux (q:=l[i].fr) (s:=l[i].sr) htr (fun y hy=>(hok y (hsub.subset hy)).1) (fun y hy e=>h1.1 y hy ⟨e.1.symm,e.2.symm⟩) (dm_st (by omega) (slt_nn hc)) (fun a b ha hb' hab=>by
    have:(l[i].fr,l[i].sr) ∉ tget (stT t) a b:=by
     rw[hinit a b ha hb'];unfold inF;split
     ·intro h
      rcases List.mem_singleton.1 h with h
      exact hab ⟨(congrArg Prod.fst h).symm,(congrArg Prod.snd h).symm⟩
     ·intro h;cases h
    exact⟨this,this⟩)
   have hsr:=hx.sr;rw[hsl] at hsr
   cases hf:finG t tr with
   | false=>rfl
   | true =>
     exfalso;have hno:=hk t.ro l[i].sr hro.1 hsr.1 (fun e=>nd.fr _ hm e.1.symm);unfold finG at hf;have hr0:=qB hf (i:=t.ro.toNat) (by omega);rw[Int.toNat_of_nonneg hro.1] at hr0
     have hw:(⟨l[i].sr,0,0,t.pr-1⟩:Fi)∈finF t t.ro:=by
      unfold finF;rw[hb,if_neg (by omega),if_neg (by omega),if_neg (by omega),if_neg (by omega),if_neg (by omega),if_pos hop,if_pos rfl];refine uQ.2 ⟨l[i].sr.toNat,by rw[vU];omega, ?_⟩;rw[xQ t 0 1 (by omega),Int.zero_mul,Int.zero_add,Int.toNat_of_nonneg hsr.1]
     have h2:=List.all_eq_true.1 hr0 _ hw;dsimp only at h2;unfold hasF at h2;dsimp only at h2;rw[if_neg (by omega),Bool.and_eq_true] at h2;have hfr:=hx.fr;have h3:=qB h2.2 (i:=l[i].fr.toNat) (by omega);unfold badK at h3;rw[Bool.not_eq_true',decide_eq_false_iff_not,Int.toNat_of_nonneg hfr.1] at h3
     have h4:0<(tget tr t.ro l[i].sr).countP (fun o=>decide (o.1=l[i].fr)):=by
      unfold cntL at h3;omega
     obtain ⟨o,ho,e⟩:=List.countP_pos_iff.1 h4;have e1:=of_decide_eq_true e;have e2:=of_decide_eq_true (List.all_eq_true.1 h2.1 o ho);have e3:o=(l[i].fr,l[i].sr):=Prod.ext e1 e2;exact hno (e3 ▸ ho)
end
end Go.Af.Tryz
namespace Go.Af.Tryz
open Go Go.Proofs
open Go.Af.Coll (St befF)

def slo (t:Tk) (r:Int):List Int:=if t.op=1 then spnF t 0 1 else if t.op=6 then spnF t r (r+1) else if r=t.ro then spnF t 0 t.pr else []
theorem YB {r f:Nat->Int} {xs:List Int} {s:Int}:(∃ w∈cpL r f xs,w.s=s)↔s∈xs:=by
 constructor
 ·rintro ⟨w,hw,rfl⟩
  obtain ⟨i,hi,rfl⟩:=yh.1 hw;dsimp only;rw[getElem!_pos _ i hi];exact List.getElem_mem hi
 ·intro h
  obtain ⟨i,hi,rfl⟩:=List.getElem_of_mem h;exact⟨_,yh.2 ⟨i,hi,rfl⟩,by dsimp only;rw[getElem!_pos _ i hi]⟩
theorem ZA {t:Tk} (h:t.op=1\/t.op=5\/t.op=6) (r s:Int):(∃ w∈finF t r,w.s=s)↔s∈slo t r:=by
 rcases h with h | h | h
 ·have hb:blkF t=1:=by unfold blkF;rw[if_neg (by omega),if_neg (by omega),if_neg (by omega)]
  unfold finF slo;rw[if_pos h,if_pos h,hb];exact YB
 ·have hb:blkF t=t.pr:=by unfold blkF;simp[h]
  have e1:finF t r=if t.op=7\/r=t.ro then cpL (fun i=>(i:Int).tdiv t.pa) (fun i=>i) (spnF t 0 (blkF t)) else []:=by
   unfold finF;rw[if_neg (by rw[h];decide),if_neg (by rw[h];decide),if_pos (.inl h)]
  have e2:slo t r=if r=t.ro then spnF t 0 t.pr else []:=by
   unfold slo;rw[if_neg (by rw[h];decide),if_neg (by rw[h];decide)]
  rw[e1,e2,hb];by_cases hr:r=t.ro
  ·rw[if_pos (.inr hr),if_pos hr]
   exact YB
  ·rw[if_neg (by rw[h];rintro (e | e);exact absurd e (by decide);exact hr e),if_neg hr]
   simp
 ·unfold finF slo
  rw[if_neg (by rw[h];decide),if_pos h,if_neg (by rw[h];decide),if_pos h];exact YB
theorem slo_sp {t:Tk} (hpa:1<=t.pa) (r s:Int):s∈slo t r↔spK t s∈slo (bT t) r:=by
 unfold slo;simp only[show (bT t).op=t.op from rfl,show (bT t).ro=t.ro from rfl,show (bT t).pr=t.pr from rfl]
 repeat' split
 all_goals first | exact Yn hpa rfl _ _ _ | simp
theorem fst_sp {t:Tk} (hpa:1<=t.pa) (h11:t.op≠11) (a s:Int):s∈fstF t a↔spK t s∈fstF (bT t) a:=by
 have hb:blkF (bT t)=blkF t:=by
  unfold blkF bT;simp only;rw[if_neg h11,if_neg h11]
 unfold fstF;rw[hb];simp only[show (bT t).op=t.op from rfl,show (bT t).ro=t.ro from rfl,show (bT t).pr=t.pr from rfl]
 repeat' split
 all_goals first | exact Yn hpa rfl _ _ _ | simp
theorem flat_fm {α β : Type} (f : α->List β) : ∀ rs:List (List α),(rs.map (fun S=>S.flatMap f)).flatten=rs.flatten.flatMap f
 | []=>rfl
 | S::rs=>by rw[List.map_cons,List.flatten_cons,List.flatten_cons,List.flatMap_append,flat_fm f rs]
section
variable {t:Tk} {nb:Int} {S:List St} (hpa:1<=t.pa) (hk : ∀ x∈S,StOk t.pr nb x)
include hpa hk
theorem XR {x y:St} (hy:y∈exX (spB t) x) : ∃ j:Nat,(j:Int)<t.pa/\y=⟨x.rd,x.fr,x.to,x.sr*t.pa+j,x.ds*t.pa+j,x.jn⟩:=by
 obtain ⟨j,hj,rfl⟩:=QL hy;rw[uG hpa] at hj;exact⟨j,by omega,by rw[zA hpa _ (by omega),zA hpa _ (by omega)]⟩
theorem ex_mk (x:St) {j:Nat} (hj:(j:Int)<t.pa):(⟨x.rd,x.fr,x.to,x.sr*t.pa+j,x.ds*t.pa+j,x.jn⟩:St)∈exX (spB t) x:=by
 unfold exX;refine List.mem_map.2 ⟨j,List.mem_range.2 (by rw[uG hpa];omega), ?_⟩;rw[zA hpa _ hj,zA hpa _ hj]
theorem exl_C (h11:t.op≠11) (hop:t.op=1\/t.op=5\/t.op=6) (h:NdC (bT t) S):NdC t (S.flatMap (exX (spB t))):=by
 refine⟨?_,fun y hy=>?_,fun y hy=>?_,fun y hy=>?_⟩
 ·rw[List.pairwise_flatMap]
  refine⟨fun x _=>?_,h.one.imp (fun {x y} hxy a ha b hb e=>?_)⟩
  ·unfold exX
   rw[List.pairwise_map];refine List.pairwise_lt_range.imp_of_mem (fun {i j} hi hj hij e=>?_);have hi:=List.mem_range.1 hi;have hj:=List.mem_range.1 hj;rw[uG hpa] at hi hj;have e2:(spB t x.ds)[i]! = (spB t x.ds)[j]! := e.2;rw[zA hpa _ (by omega),zA hpa _ (by omega)] at e2;omega
  ·obtain ⟨i,hi,rfl⟩:=XR hpa hk ha
   obtain ⟨j,hj,rfl⟩:=XR hpa hk hb;dsimp only at e;have a1:=uB hpa x.ds hi;have a2:=uB hpa y.ds hj;rw[e.2] at a1;exact hxy ⟨e.1,a1.1.symm.trans a2.1⟩
 ·obtain ⟨x,hx,hy⟩:=List.mem_flatMap.1 hy
  obtain ⟨j,hj,rfl⟩:=XR hpa hk hy;dsimp only;rw[fst_sp hpa h11,(uB hpa x.ds hj).1];exact h.ini x hx
 ·obtain ⟨x,hx,hy⟩:=List.mem_flatMap.1 hy
  obtain ⟨j,hj,rfl⟩:=XR hpa hk hy;dsimp only;intro e;have a1:=uB hpa x.sr hj;have a2:=uB hpa x.ds hj;rw[e.2] at a1;exact h.self x hx ⟨e.1,a1.1.symm.trans a2.1⟩
 ·obtain ⟨x,hx,hy⟩:=List.mem_flatMap.1 hy
  obtain ⟨j,hj,rfl⟩:=XR hpa hk hy;dsimp only;rcases h.use x hx with h1 | ⟨z,hz,ez⟩
  ·left
   rw[ZA hop,slo_sp hpa,(uB hpa x.ds hj).1];exact (ZA (t:=bT t) hop _ _).1 h1
  ·right
   refine⟨_,List.mem_flatMap.2 ⟨z,hz,ex_mk hpa hk z hj⟩,ez.1, ?_⟩;dsimp only;rw[ez.2]
theorem exl_R (h:NdR (bT t) S):NdR t (S.flatMap (exX (spB t))):=by
 refine⟨?_,fun y hy=>?_⟩
 ·rw[List.pairwise_flatMap]
  refine⟨fun x _=>?_,h.one.imp (fun {x y} hxy a ha b hb e=>?_)⟩
  ·unfold exX
   rw[List.pairwise_map];refine List.pairwise_lt_range.imp_of_mem (fun {i j} hi hj hij e=>?_);have hi:=List.mem_range.1 hi;have hj:=List.mem_range.1 hj;rw[uG hpa] at hi hj;have e2:(spB t x.sr)[i]! = (spB t x.sr)[j]! := e.2;rw[zA hpa _ (by omega),zA hpa _ (by omega)] at e2;omega
  ·obtain ⟨i,hi,rfl⟩:=XR hpa hk ha
   obtain ⟨j,hj,rfl⟩:=XR hpa hk hb;dsimp only at e;have a1:=uB hpa x.sr hi;have a2:=uB hpa y.sr hj;rw[e.2] at a1;exact hxy ⟨e.1,a1.1.symm.trans a2.1⟩
 ·obtain ⟨x,hx,hy⟩:=List.mem_flatMap.1 hy
  obtain ⟨j,hj,rfl⟩:=XR hpa hk hy;exact h.fr x hx
end
noncomputable def ndB:Nat->List (Int × Int)->Bool
 | _,[]=>true
 | U,p::l=>nI p.1 fun a=>nI p.2 fun b=>iB (Nat.blt b 64) (iB (Nat.beq ((U >>> (a*64+b)) % 2) 0) (fC (Nat.lor U (2 ^ (a*64+b))) fun U' => ndB U' l))
theorem ndB_ok : ∀ {l:List (Int × Int)} {U:Nat},ndB U l=true->(l.Pairwise (fun x y=>¬ (x.1=y.1/\x.2=y.2)))/\∀ p∈l, ∃ a b:Nat,p=((a:Int),(b:Int))/\b<64/\U.testBit (a*64+b)=false
 | [],_,_=>⟨.nil,fun p hp=>by cases hp⟩
 | p::l,U,h=>by
   rw[ndB] at h;obtain ⟨a,ea,h1⟩:=nI_t h;obtain ⟨b,eb,h2⟩:=nI_t h1;obtain ⟨h3,h4⟩:=iB_t h2;obtain ⟨h5,h6⟩:=iB_t h4;rw[XQ] at h6;have ih:=ndB_ok h6;have hb:=Nat.blt_eq.mp h3
   have hu:U.testBit (a*64+b)=false:=by
    rw[Nat.testBit_eq_decide_div_mod_eq,<- Nat.shiftRight_eq_div_pow,Nat.eq_of_beq_eq_true h5];rfl
   refine⟨List.pairwise_cons.2 ⟨fun q hq e=>?_,ih.1⟩,fun q hq=>?_⟩
   ·obtain ⟨c,d,rfl,hd,ht⟩:=ih.2 q hq
    dsimp only at e;have e1:a=c:=by omega
    have e2:b=d:=by omega
    subst e1;subst e2;have ht' : (U ||| 2 ^ (a*64+b)).testBit (a*64+b)=false:=ht;rw[Nat.testBit_or,Nat.testBit_two_pow_self,Bool.or_true] at ht';cases ht'
   ·rcases List.mem_cons.1 hq with rfl | hq
    ·exact⟨a,b,Prod.ext ea eb,hb,hu⟩
    ·obtain ⟨c,d,e,hd,ht⟩:=ih.2 q hq
     have ht' : (U ||| 2 ^ (a*64+b)).testBit (c*64+d)=false:=ht;rw[Nat.testBit_or,Bool.or_eq_false_iff] at ht';exact⟨c,d,e,hd,ht'.1⟩
noncomputable def ckCn (t:Tk) (S:List St):Bool:=iB (ndB 0 (S.map fun x=>(x.to,x.ds))) (S.all fun x=>iB (bB ((fstF t x.to).contains x.ds) true false) (iB (bB (decide (x.fr=x.to)) true false) (bB ((slo t x.to).contains x.ds) (S.any fun y=>bB (decide (y.fr=x.to)) false (decide (y.sr=x.ds))) true)))
noncomputable def ckRn (t:Tk) (S:List St):Bool:=iB (ndB 0 (S.map fun x=>(x.fr,x.sr))) (S.all fun x=>bB (decide (x.fr=t.ro)) true false)
theorem ckCn_ok {t:Tk} (hop:t.op=1\/t.op=5\/t.op=6) {S:List St} (h:ckCn t S=true):NdC t S:=by
 obtain ⟨h1,h2⟩:=iB_t h;have a:=(ndB_ok h1).1;rw[List.pairwise_map] at a
 have b : ∀ x∈S,x.ds ∉ fstF t x.to/\x.fr≠x.to/\(x.ds∈slo t x.to\/∃ y∈S,y.fr=x.to/\y.sr=x.ds):=fun x hx=>by
  have h3:=List.all_eq_true.1 h2 x hx;obtain ⟨h4,h5⟩:=iB_t h3;obtain ⟨h6,h7⟩:=iB_t h5;refine⟨fun hm=>?_,fun e=>?_, ?_⟩
  ·rw[List.contains_iff_mem.2 hm] at h4;cases h4
  ·rw[decide_eq_true e] at h6;cases h6
  ·by_cases hm:x.ds∈slo t x.to
   ·exact .inl hm
   ·right
    rw[show (slo t x.to).contains x.ds=false from by
     cases hc:(slo t x.to).contains x.ds with
     | false=>rfl
     | true=>exact absurd (List.contains_iff_mem.1 hc) hm] at h7
    obtain ⟨y,hy,hd⟩:=List.any_eq_true.1 (show S.any _=true from h7);refine⟨y,hy, ?_⟩;by_cases e:y.fr=x.to
    ·rw[decide_eq_true e] at hd
     exact⟨e,of_decide_eq_true hd⟩
    ·rw[decide_eq_false e] at hd
     cases hd
 exact⟨a,fun x hx=>(b x hx).1,fun x hx e=>(b x hx).2.1 e.1,fun x hx=>(b x hx).2.2.imp (fun hm=>(ZA hop _ _).2 hm) id⟩
theorem ckRn_ok {t:Tk} {S:List St} (h:ckRn t S=true):NdR t S:=by
 obtain ⟨h1,h2⟩:=iB_t h;have a:=(ndB_ok h1).1;rw[List.pairwise_map] at a;refine⟨a,fun x hx e=>?_⟩;have:=List.all_eq_true.1 h2 x hx;rw[decide_eq_true e] at this;cases this
end Go.Af.Tryz
