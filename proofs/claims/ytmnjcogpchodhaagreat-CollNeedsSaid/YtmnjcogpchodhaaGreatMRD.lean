/- A part of the proof. -/
import Derived.Test.YtmnjcogpchodhaaGreatMRB
import Derived.Test.YtmnjcogpchodhaaGreatMRA
set_option linter.all false
set_option maxHeartbeats 4000000
set_option maxRecDepth 100000
namespace Go.Af.Tryz
open Go Go.Proofs
open Go.Af.Coll (St)

def exM (B:Int->List Int) (m:Msg):Msg:=⟨m.fr,m.to,m.sr.flatMap B,m.ds.flatMap B,m.jn⟩
def Pq (B:Int->List Int):List Int->List Int->Prop
 | [],[]=>True
 | s::sr,d::ds=>(B s).length=(B d).length/\Pq B sr ds
 | _,_=>False
theorem Pq.self (B:Int->List Int) : ∀ l,Pq B l l
 | []=>trivial
 | _::l=>⟨rfl,Pq.self B l⟩
theorem Pq.const {B:Int->List Int} {c:Nat} (h : ∀ b,(B b).length=c) : ∀ {a b:List Int},a.length=b.length->Pq B a b
 | [],[],_=>trivial
 | _::_,_::_,e=>⟨by rw[h,h],Pq.const h (by simpa using e)⟩
 | [],_::_,e=>by simp at e
 | _::_,[],e=>by simp at e
theorem Pq.len {B:Int->List Int} : ∀ {a b:List Int},Pq B a b->a.length=b.length/\(a.flatMap B).length=(b.flatMap B).length
 | [],[],_=>⟨rfl,rfl⟩
 | _::_,_::_,h=>by
   have:=h.2.len;rw[List.flatMap_cons,List.flatMap_cons,List.length_append,List.length_append,h.1,this.2,List.length_cons,List.length_cons,this.1];exact⟨rfl,rfl⟩
 | [],_::_,h=>h.elim
 | _::_,[],h=>h.elim
theorem stZ_app (k fr to jn:Int) : ∀ {a b x y:List Int},a.length=b.length->stZ k fr to jn (a++x) (b++y)=stZ k fr to jn a b++stZ k fr to jn x y
 | [],[],_,_,_=>by simp[stZ]
 | s::a,d::b,x,y,h=>by rw[List.cons_append,List.cons_append,stZ,stZ,stZ_app k fr to jn (by simpa using h),List.cons_append]
 | [],_::_,_,_,e=>by simp at e
 | _::_,[],_,_,e=>by simp at e
theorem stZ_ex {B:Int->List Int} (k fr to jn:Int) : ∀ {sr ds:List Int},Pq B sr ds->stZ k fr to jn (sr.flatMap B) (ds.flatMap B)=(stZ k fr to jn sr ds).flatMap (exX B)
 | [],[],_=>by simp[stZ]
 | s::sr,d::ds,h=>by
   rw[List.flatMap_cons,List.flatMap_cons,stZ_app k fr to jn h.1,stZ_ex k fr to jn h.2,stZ,List.flatMap_cons];congr 1;exact (stM_Z k ⟨fr,to,B s,B d,jn⟩ h.1).symm
 | [],_::_,h=>h.elim
 | _::_,[],h=>h.elim
theorem stZ_bl {B:Int->List Int} {k fr to jn:Int} {x:St} : ∀ {sr ds:List Int},Pq B sr ds->x∈stZ k fr to jn sr ds->(B x.sr).length=(B x.ds).length
 | [],[],_,h=>by rw[stZ] at h;cases h;exact fun _ _ _ _ e=>by cases e
 | s::sr,d::ds,hp,h=>by
   rw[stZ] at h;rcases List.mem_cons.1 h with rfl | h
   ·exact hp.1
   ·exact stZ_bl hp.2 h
 | [],_::_,h,_=>h.elim
 | _::_,[],h,_=>h.elim
theorem stM_ex {B:Int->List Int} (k:Int) (m:Msg) (h:Pq B m.sr m.ds):stM k (exM B m)=(stM k m).flatMap (exX B):=by
 rw[stM_Z k (exM B m) h.len.2,stM_Z k m h.len.1];exact stZ_ex k m.fr m.to m.jn h
theorem Uw {B:Int->List Int} : ∀ {rs:List (List Msg)} {k:Nat},(∀ ms∈rs, ∀ m∈ms,Pq B m.sr m.ds)->grpF k (rs.map (fun ms=>ms.map (exM B)))=(grpF k rs).map (fun S=>S.flatMap (exX B))
 | [],_,_=>rfl
 | ms::rs,k,h=>by
   rw[List.map_cons,grpF,grpF,List.map_cons,Uw (fun q hq=>h q (List.mem_cons_of_mem _ hq))];congr 1;have h0:=h ms List.mem_cons_self;clear h
   induction ms with
   | nil=>rfl
   | cons m ms ih =>
     have:=ih (fun q hq=>h0 q (List.mem_cons_of_mem _ hq));unfold stRd at this ⊢;rw[List.map_cons,List.flatMap_cons,List.flatMap_cons,List.flatMap_append,stM_ex _ m (h0 m List.mem_cons_self),this]
theorem grp_bl {B:Int->List Int} : ∀ {rs:List (List Msg)} {k:Nat},(∀ ms∈rs, ∀ m∈ms,Pq B m.sr m.ds)->∀ S∈grpF k rs, ∀ x∈S,(B x.sr).length=(B x.ds).length
 | [],_,_,S,hS,_,_=>by rw[grpF] at hS;cases hS
 | ms::rs,k,h,S,hS,x,hx=>by
   rw[grpF] at hS;rcases List.mem_cons.1 hS with rfl | hS
   ·obtain ⟨m,hm,hx⟩:=List.mem_flatMap.1 hx
    have hp:=h ms List.mem_cons_self m hm;rw[stM_Z _ m hp.len.1] at hx;exact stZ_bl hp hx
   ·exact grp_bl (fun q hq=>h q (List.mem_cons_of_mem _ hq)) S hS x hx
structure FiUp (B:Int->List Int) (blk:Int->Int) (idx:Int->Nat) (w w0:Fi):Prop where
 s:w0.s=blk w.s
 at' : (B (blk w.s))[idx w.s]! = w.s
 u:w0.u=w.u
 c:w.u<0->w.r=w0.r/\(B w0.f)[idx w.s]! = w.f
theorem cnt_up (φ : Int->Int) (l:List Og) (r:Int):cntL (l.map (fun o=>(o.1,φ o.2))) r=cntL l r:=by
 unfold cntL;rw[List.countP_map];rfl
theorem has_up {B:Int->List Int} {blk:Int->Int} {idx:Int->Nat} {t t0:Tk} {w w0:Fi} {h:Fs} {r:Int} (hp:t.pr=t0.pr) (ho:t.op=t0.op) (hw:FiUp B blk idx w w0) (hh:hasF t0 w0 (h r w0.s)=true):hasF t w (upF B blk idx h r w.s)=true:=by
 unfold hasF at hh ⊢;unfold upF;rw[hw.s] at hh;by_cases hu:w.u<0
 ·rw[if_pos (by rw[hw.u];exact hu)] at hh
  rw[if_pos hu];have e:=of_decide_eq_true hh;rw[e,List.map_cons,List.map_nil,(hw.c hu).2,(hw.c hu).1];simp
 ·rw[if_neg (by rw[hw.u];exact hu),Bool.and_eq_true] at hh
  rw[if_neg hu,Bool.and_eq_true];refine⟨?_, ?_⟩
  ·rw[List.all_map,List.all_eq_true]
   intro o ho';have:=of_decide_eq_true (List.all_eq_true.1 hh.1 o ho');show decide ((B o.2)[idx w.s]! = w.s)=true;rw[this,hw.at'];simp
  ·rw[List.all_eq_true] at hh ⊢
   have h2:=hh.2;rw[List.all_eq_true] at h2;intro q hq;rw[hp] at hq;have:=h2 q hq;rw[cnt_up (fun x=>(B x)[idx w.s]!)];unfold badK at this ⊢;rw[ho,<- hw.u];exact this
theorem gd_up {B:Int->List Int} {blk:Int->Int} {idx:Int->Nat} {t t0:Tk} {n nb:Int} {rs:List (List Msg)} {h:Fs} (hb:Bl B blk idx nb n) (hp:t.pr=t0.pr) (ho:t.op=t0.op) (hpq : ∀ ms∈rs, ∀ m∈ms,Pq B m.sr m.ds) (hin:inF t=upF B blk idx (inF t0)) (hfin : ∀ r:Nat,(r:Int)<t.pr->∀ w∈finF t r, ∃ w0∈finF t0 r,FiUp B blk idx w w0) (g:Gd t0 nb rs h):Gd t n (rs.map (fun ms=>ms.map (exM B))) (upF B blk idx h):=by
 have hbs : ∀ S∈grpF 0 rs, ∀ x∈S,BSt B t0.pr nb x:=fun S hS x hx=>⟨g.ok.ok S hS x hx,grp_bl hpq S hS x hx⟩
 refine⟨?_, ?_,fun r hr w hw=>?_⟩
 ·rw[Uw hpq,hp]
  exact rs_up hb g.ok hbs
 ·rw[Uw hpq,hin]
  exact run_up hb g.run hbs
 ·obtain ⟨w0,hm,hu⟩:=hfin r hr w hw
  exact has_up hp ho hu (g.fin r (by rw[<- hp];exact hr) w0 hm)
end Go.Af.Tryz
namespace Go.Af.Tryz
open Go Go.Proofs
open Go.Af.Coll (St)

def bT (t:Tk):Tk:=⟨t.op,t.pr,t.ro,1,[],[]⟩
def spB (t:Tk):Int->List Int:=fun b=>spnF t b (b+1)
theorem xQ (t:Tk) (f g:Int) {i:Nat} (h:i<(g*t.pa-f*t.pa).toNat):(spnF t f g)[i]! = f*t.pa+(i:Int):=by
 rw[getElem!_pos _ i (by rw[vU];exact h)];unfold spnF;simp
theorem spn_get? (t:Tk) (f g:Int) {i:Nat} {x:Int} (h:(spnF t f g)[i]? = some x):i<(g*t.pa-f*t.pa).toNat/\x=f*t.pa+(i:Int):=by
 have hl:=(List.getElem?_eq_some_iff.1 h).1;rw[vU] at hl;refine⟨hl, ?_⟩;have:=uF (l:=spnF t f g) (by rw[vU];exact hl);rw[h,xQ t f g hl] at this;exact Option.some.inj this
theorem yg (t:Tk) (f g x:Int):x∈spnF t f g↔f*t.pa<=x/\x<g*t.pa:=by
 constructor
 ·exact Ym
 ·intro h
  unfold spnF;exact List.mem_map.2 ⟨(x-f*t.pa).toNat,List.mem_range.2 (by omega),by omega⟩
theorem spn_app {t:Tk} {f g h:Int} (h1:f*t.pa<=g*t.pa) (h2:g*t.pa<=h*t.pa):spnF t f h=spnF t f g++spnF t g h:=by
 unfold spnF;rw[show (h*t.pa-f*t.pa).toNat=(g*t.pa-f*t.pa).toNat+(h*t.pa-g*t.pa).toNat by omega,List.range_add,List.map_append,List.map_map];congr 1
 apply List.map_congr_left
 intro i _;simp only[Function.comp];omega
theorem Zy {t:Tk} (hpa:0<=t.pa) {f g:Int} (h:g<=f):spnF t f g = []:=by
 have:g*t.pa<=f*t.pa:=Int.mul_le_mul_of_nonneg_right h hpa;unfold spnF;rw[show (g*t.pa-f*t.pa).toNat=0 by omega];rfl
theorem spn_one {t:Tk} (h:t.pa=1) (f:Int):spnF t f (f+1) = [f]:=by
 unfold spnF;rw[h,show ((f+1)*1-f*1).toNat=1 by omega];simp
theorem spn_exN {t t0:Tk} (hpa:0<=t.pa) (h1:t0.pa=1) (f:Int) : ∀ n:Nat,(spnF t0 f (f+n)).flatMap (spB t)=spnF t f (f+n)
 | 0=>by
   rw[Zy (by omega) (show f+((0:Nat):Int)<=f by omega),Zy hpa (show f+((0:Nat):Int)<=f by omega)];rfl
 | n+1=>by
   have e:f+((n+1:Nat):Int)=f+n+1:=by omega
   have m : ∀ x y:Int,x<=y->x*t.pa<=y*t.pa:=fun x y h=>Int.mul_le_mul_of_nonneg_right h hpa
   rw[e,spn_app (t:=t0) (g:=f+n) (by rw[h1];omega) (by rw[h1];omega),List.flatMap_append,spn_exN hpa h1 f n,spn_one h1,spn_app (t:=t) (f:=f) (g:=f+n) (h:=f+n+1) (m _ _ (by omega)) (m _ _ (by omega))];simp[spB]
theorem QT {t t0:Tk} (hpa:0<=t.pa) (h1:t0.pa=1) (f g:Int):(spnF t0 f g).flatMap (spB t)=spnF t f g:=by
 by_cases h:f<=g
 ·have:=spn_exN hpa h1 f (g-f).toNat
  rw[show f+((g-f).toNat:Int)=g by omega] at this;exact this
 ·rw[Zy (by omega) (show g<=f by omega),Zy hpa (show g<=f by omega)]
  rfl
def spK (t:Tk):Int->Int:=fun s=>s / t.pa
def spI (t:Tk):Int->Nat:=fun s=>(s % t.pa).toNat
theorem uG {t:Tk} (hpa:1<=t.pa) (b:Int):(spB t b).length=t.pa.toNat:=zi hpa b
theorem zA {t:Tk} (hpa:1<=t.pa) (b:Int) {i:Nat} (h:(i:Int)<t.pa):(spB t b)[i]! = b*t.pa+i:=by
 refine xQ t b (b+1) ?_;have:(b+1)*t.pa-b*t.pa=t.pa:=by rw[Int.add_mul];omega
 omega
theorem YX {t:Tk} (hpa:1<=t.pa) (s:Int):(spB t (spK t s))[spI t s]! = s:=by
 have h1:=Int.emod_nonneg s (show t.pa≠0 by omega);have h2:=Int.emod_lt_of_pos s (show 0<t.pa by omega);have h3:=Int.mul_ediv_add_emod s t.pa;unfold spK spI;rw[zA hpa _ (by omega),Int.mul_comm];omega
theorem uB {t:Tk} (hpa:1<=t.pa) (b:Int) {i:Nat} (h:(i:Int)<t.pa):spK t (b*t.pa+i)=b/\spI t (b*t.pa+i)=i:=by
 unfold spK spI;rw[Int.add_comm,Int.add_mul_ediv_right _ _ (by omega),Int.add_mul_emod_self_right,Int.ediv_eq_zero_of_lt (by omega) h,Int.emod_eq_of_lt (by omega) h];omega
theorem sp_bl {t:Tk} (hpa:1<=t.pa) {nb:Int} (hnb:0<=nb):Bl (spB t) (spK t) (spI t) nb (nb*t.pa):=by
 refine⟨fun s hs=>Int.ediv_nonneg hs (by omega),fun s hs _=>?_,fun b j s h0 h1 h=>?_⟩
 ·have h1:=Int.emod_nonneg s (show t.pa≠0 by omega)
  have h2:=Int.emod_lt_of_pos s (show 0<t.pa by omega);have:=uF (l:=spB t (spK t s)) (j:=spI t s) (by rw[uG hpa];unfold spI;omega);rw[YX hpa] at this;exact this
 ·obtain ⟨hj,rfl⟩:=spn_get? t b (b+1) h
  have e:(b+1)*t.pa-b*t.pa=t.pa:=by rw[Int.add_mul];omega
  have hj' : (j:Int)<t.pa:=by omega
  have a:=Int.mul_nonneg h0 (show 0<=t.pa by omega);have c:(b+1)*t.pa<=nb*t.pa:=Int.mul_le_mul_of_nonneg_right (by omega) (by omega);have:=uB hpa b hj';exact⟨by omega,by omega,this.1,this.2⟩
theorem Yn {t t0:Tk} (hpa:1<=t.pa) (h1:t0.pa=1) (f g s:Int):s∈spnF t f g↔spK t s∈spnF t0 f g:=by
 rw[yg,yg,h1,Int.mul_one,Int.mul_one];unfold spK;rw[Int.le_ediv_iff_mul_le (by omega),Int.ediv_lt_iff_lt_mul (by omega)]
theorem in_sp {t:Tk} (hpa:1<=t.pa) (h11:t.op≠11):inF t=upF (spB t) (spK t) (spI t) (inF (bT t)):=by
 funext a s
 have hb:blkF (bT t)=blkF t:=by
  unfold blkF bT;simp only;rw[if_neg h11,if_neg h11]
 have hiff:s∈fstF t a↔spK t s∈fstF (bT t) a:=by
  unfold fstF;rw[hb];simp only[show (bT t).op=t.op from rfl,show (bT t).ro=t.ro from rfl,show (bT t).pr=t.pr from rfl]
  repeat' split
  all_goals first | exact Yn hpa rfl _ _ _ | simp
 unfold upF inF;by_cases h:0<=a/\a<t.pr/\s∈fstF t a
 ·rw[if_pos h,if_pos ⟨h.1,h.2.1,hiff.1 h.2.2⟩,List.map_cons,List.map_nil,YX hpa]
 ·rw[if_neg h,if_neg (fun h' => h ⟨h'.1,h'.2.1,hiff.2 h'.2.2⟩)]
  rfl
theorem yh {r f:Nat->Int} {xs:List Int} {w:Fi}:w∈cpL r f xs↔∃ i,i<xs.length/\w=⟨xs[i]!,r i,f i, -1⟩:=by
 unfold cpL;rw[List.mem_map];exact⟨fun ⟨i,h,e⟩=>⟨i,List.mem_range.1 h,e.symm⟩,fun ⟨i,h,e⟩=>⟨i,List.mem_range.2 h,e.symm⟩⟩
theorem uQ {u:Int} {xs:List Int} {w:Fi}:w∈jnL u xs↔∃ i,i<xs.length/\w=⟨xs[i]!,0,0,u⟩:=by
 unfold jnL;rw[List.mem_map];exact⟨fun ⟨i,h,e⟩=>⟨i,List.mem_range.1 h,e.symm⟩,fun ⟨i,h,e⟩=>⟨i,List.mem_range.2 h,e.symm⟩⟩
theorem spn_bl {t:Tk} {P:Nat} (hP:t.pa=(P:Int)) (hpa:1<=P) (f g:Int) {i:Nat} (h:i<(spnF t f g).length):i / P<(spnF (bT t) f g).length/\(spnF (bT t) f g)[i / P]! = spK t (spnF t f g)[i]! /\ spI t (spnF t f g)[i]! = i % P:=by
 rw[vU] at h;have e:g*t.pa-f*t.pa=(g-f)*P:=by rw[hP,Int.sub_mul]
 have hm:i % P<P:=Nat.mod_lt _ (by omega);have hd:=Nat.div_add_mod i P
 have hlt:i / P<(g*(bT t).pa-f*(bT t).pa).toNat:=by
  rw[show (bT t).pa=1 from rfl];have h2:(i:Int)<(g-f)*P:=by omega
  have h3:((i / P:Nat):Int)<g-f:=by
   rw[Int.natCast_ediv];exact (Int.ediv_lt_iff_lt_mul (by omega)).2 h2
  omega
 rw[xQ t f g h,vU,xQ (bT t) f g hlt]
 have e2:f*t.pa+(i:Int)=(f+(i / P:Nat))*t.pa+((i % P:Nat):Int):=by
  rw[hP,Int.add_mul];have:((i / P:Nat):Int)*P=((P*(i / P):Nat):Int):=by rw[Nat.mul_comm];exact (Int.natCast_mul _ _).symm
  rw[this];omega
 have:=uB (t:=t) (by omega) (f+(i / P:Nat)) (i:=i % P) (by omega);rw[e2,this.1,this.2];exact⟨hlt,by rw[show (bT t).pa=1 from rfl];omega,rfl⟩
theorem cp_up {t:Tk} {P:Nat} (hP:t.pa=(P:Int)) (hpa:1<=P) {f g:Int} {r r0 q q0:Nat->Int} (hr : ∀ i,i<(spnF t f g).length->r i=r0 (i / P)) (hq : ∀ i,i<(spnF t f g).length->q0 (i / P)*P+((i % P:Nat):Int)=q i) : ∀ w∈cpL r q (spnF t f g), ∃ w0∈cpL r0 q0 (spnF (bT t) f g),FiUp (spB t) (spK t) (spI t) w w0:=by
 intro w hw;obtain ⟨i,hi,rfl⟩:=yh.1 hw;have a:=spn_bl hP hpa f g hi;have hm:i % P<P:=Nat.mod_lt _ (by omega);refine⟨_,yh.2 ⟨i / P,a.1,rfl⟩,⟨a.2.1,YX (by omega) _,rfl,fun _=>⟨hr i hi, ?_⟩⟩⟩;simp only;rw[a.2.2,zA (by omega) _ (by omega),hP];exact hq i hi
theorem jn_up {t:Tk} {P:Nat} (hP:t.pa=(P:Int)) (hpa:1<=P) {f g u:Int} (hu:0<=u) : ∀ w∈jnL u (spnF t f g), ∃ w0∈jnL u (spnF (bT t) f g),FiUp (spB t) (spK t) (spI t) w w0:=by
 intro w hw;obtain ⟨i,hi,rfl⟩:=uQ.1 hw;have a:=spn_bl hP hpa f g hi;exact⟨_,uQ.2 ⟨i / P,a.1,rfl⟩,⟨a.2.1,YX (by omega) _,rfl,fun h=>by simp only at h;omega⟩⟩
theorem fin_sp {t:Tk} (kt:TkOk t) (h11:t.op≠11) : ∀ r:Nat,(r:Int)<t.pr->∀ w∈finF t r, ∃ w0∈finF (bT t) r,FiUp (spB t) (spK t) (spI t) w w0:=by
 intro r hr w hw;have hpa:=kt.pa;have hpr:=kt.pr;obtain ⟨P,hP⟩ : ∃ P:Nat,t.pa=(P:Int):=⟨t.pa.toNat,by omega⟩
 have hb:blkF (bT t)=blkF t:=by
  unfold blkF bT;simp only;rw[if_neg h11,if_neg h11]
 have hid : ∀ i:Nat,((i / P:Nat):Int)*P+((i % P:Nat):Int)=(i:Int):=fun i=>by
  have:=Nat.div_add_mod i P;have e:((i / P:Nat):Int)*P=((P*(i / P):Nat):Int):=by rw[Nat.mul_comm];exact (Int.natCast_mul _ _).symm
  rw[e];omega
 have htd : ∀ i:Nat,(i:Int).tdiv t.pa=((i / P:Nat):Int)/\((i:Int).tmod t.pa).toNat=i % P:=fun i=>by
  rw[hP,Int.tdiv_eq_ediv_of_nonneg (by omega),Int.tmod_eq_emod_of_nonneg (by omega)];exact⟨(Int.natCast_ediv i P).symm,by rw[<- Int.natCast_emod,Int.toNat_natCast]⟩
 have ht1 : ∀ i:Nat,(i:Int).tdiv 1=i/\((i:Int).tmod 1).toNat=0:=fun i=>by simp
 have hsp : ∀ i,i<P->(spnF t r (r+1))[i]! = r*t.pa+(i:Int):=fun i hi=>xQ t r (r+1) (by
  have:((r:Int)+1)*t.pa-r*t.pa=t.pa:=by rw[Int.add_mul];omega
  omega)
 have hs1:(spnF (bT t) r (r+1))[0]! = (r:Int):=by rw[spn_one rfl];rfl
 have hlen1:(spnF t r (r+1)).length=P:=by rw[zi (by omega)];omega
 have hlt1 : ∀ i,i<P->i / P=0/\i % P=i:=fun i hi=>⟨Nat.div_eq_of_lt hi,Nat.mod_eq_of_lt hi⟩
 unfold finF at hw ⊢;rw[hb];simp only[show (bT t).op=t.op from rfl,show (bT t).ro=t.ro from rfl,show (bT t).pr=t.pr from rfl,show (bT t).pa=1 from rfl];split at hw
 ·rename_i h;rw[if_pos h]
  exact cp_up hP (by omega) (fun _ _=>rfl) (fun i _=>hid i) w hw
 ·rename_i h;rw[if_neg h]
  split at hw
  ·rename_i h;rw[if_pos h]
   refine cp_up hP (by omega) (fun _ _=>rfl) (fun i hi=>?_) w hw;rw[hlen1] at hi;rw[(hlt1 i hi).1,(hlt1 i hi).2,hs1,hsp i hi,hP]
  ·rename_i h;rw[if_neg h]
   split at hw
   ·rename_i h;rw[if_pos h]
    split at hw
    ·rename_i h;rw[if_pos h]
     exact cp_up hP (by omega) (fun i _=>by rw[(htd i).1,(ht1 _).1]) (fun i _=>hid i) w hw
    ·cases hw
   ·rename_i h;rw[if_neg h]
    split at hw
    ·rename_i h;rw[if_pos h]
     refine cp_up hP (by omega) (fun i _=>by rw[(htd i).1,(ht1 _).1]) (fun i _=>?_) w hw;rw[(htd i).2,(ht1 _).2,hs1,hsp _ (Nat.mod_lt _ (by omega)),hP]
    ·rename_i h;rw[if_neg h]
     rw[if_neg h11];split at hw
     ·rename_i h;rw[if_pos h]
      split at hw
      ·rename_i h;rw[if_pos h]
       exact jn_up hP (by omega) (by omega) w hw
      ·cases hw
     ·rename_i h;rw[if_neg h]
      split at hw
      ·rename_i h;rw[if_pos h]
       exact jn_up hP (by omega) (by omega) w hw
      ·rename_i h;rw[if_neg h]
       split at hw
       ·rename_i h;rw[if_pos h]
        exact jn_up hP (by omega) (by omega) w hw
       ·rename_i h;rw[if_neg h]
        exact jn_up hP (by omega) (by omega) w hw
end Go.Af.Tryz
namespace Go.Af.Tryz
open Go Go.Proofs
open Go.Af.Coll (St)

theorem rn1 {t:Tk} {a:Int} (h:t.op=1):qZ t a=if a=1 then vI (bcL t) t.pr else if a=2 then powF (bcT t) t.pr else if a=3 then chnF t else zx t (parF t)++vI (evF t (Wu t)) t.pr:=by
 unfold qZ;rw[if_pos h]
theorem rn2 {t:Tk} {a:Int} (h:t.op=2):qZ t a=if a=1 then vI (rdL t) t.pr else if a=2 then powF (rdT t) t.pr else chnF t:=by
 unfold qZ;rw[if_neg (by omega),if_pos h]
theorem rn3 {t:Tk} {a:Int} (h:t.op=3):qZ t a=if a=5 then powF (rdT t) t.pr++powF (bcT t) t.pr else if a=6 then dblF t else vI (evF t (Ws t)) t.pr++vI (evF t (Wq t)) t.pr:=by
 unfold qZ;rw[if_neg (by omega),if_neg (by omega),if_pos h]
theorem rn4 {t:Tk} {a:Int} (h:t.op=4):qZ t a=if a=1 then vI (scL t) t.pr else powF (scD t) t.pr:=by
 unfold qZ;rw[if_neg (by omega),if_neg (by omega),if_neg (by omega),if_pos h]
theorem rn5 {t:Tk} {a:Int} (h:t.op=5):qZ t a=if a=1 then vI (gaL t) t.pr else powF (gaT t) t.pr:=by
 unfold qZ;rw[if_neg (by omega),if_neg (by omega),if_neg (by omega),if_neg (by omega),if_pos h]
theorem rn6 {t:Tk} {a:Int} (h:t.op=6):qZ t a=if a=1 then vI (stL t) t.pr else zx t (stF t):=by
 unfold qZ;rw[if_neg (by omega),if_neg (by omega),if_neg (by omega),if_neg (by omega),if_neg (by omega),if_pos h]
theorem rn7 {t:Tk} {a:Int} (h:t.op=7):qZ t a=if a=7 then vI (evF t (ZQ t)) t.pr else if a=6 then powF (evF t (Vs t)) t.pr else powF (evF t (QM t)) t.pr:=by
 unfold qZ;rw[if_neg (by omega),if_neg (by omega),if_neg (by omega),if_neg (by omega),if_neg (by omega),if_neg (by omega),if_pos h]
theorem rn8 {t:Tk} {a:Int} (h:t.op=8):qZ t a=if a=9 then prsF t (pwF t) else if a=10 then prsF t xorF else [buT t (b1F t)]++(powF (evF t (yA t)) t.pr ++ [buT t (b2F t)]):=by
 unfold qZ;rw[if_neg (by omega),if_neg (by omega),if_neg (by omega),if_neg (by omega),if_neg (by omega),if_neg (by omega),if_neg (by omega),if_pos h]
theorem rn9 {t:Tk} {a:Int} (h:t.op=9):qZ t a=if a=7 then vI (evF t (ZP t)) t.pr else if a=9 then vI (evF t (ZO t)) t.pr else hlvF t:=by
 unfold qZ;rw[if_neg (by omega),if_neg (by omega),if_neg (by omega),if_neg (by omega),if_neg (by omega),if_neg (by omega),if_neg (by omega),if_neg (by omega),if_pos h]
theorem rn10 {t:Tk} {a:Int} (h:t.op=10):qZ t a=if a=7 then powF (evF t (ZN t)) t.pr else powF (rdT t) t.pr++powF (bcT t) t.pr:=by
 unfold qZ;rw[if_neg (by omega),if_neg (by omega),if_neg (by omega),if_neg (by omega),if_neg (by omega),if_neg (by omega),if_neg (by omega),if_neg (by omega),if_neg (by omega),if_pos h]
theorem rn11 {t:Tk} {a:Int} (h:t.op=11):qZ t a=hloF t:=by
 unfold qZ;rw[if_neg (by omega),if_neg (by omega),if_neg (by omega),if_neg (by omega),if_neg (by omega),if_neg (by omega),if_neg (by omega),if_neg (by omega),if_neg (by omega),if_neg (by omega)]
theorem al1 {op a:Int} (h:op=1) (ha:a∈algK op):a=1\/a=2\/a=3\/a=4:=by
 subst h
 simpa [algK] using ha
theorem al2 {op a:Int} (h:op=2) (ha:a∈algK op):a=1\/a=2\/a=3:=by
 subst h
 simpa [algK] using ha
theorem al3 {op a:Int} (h:op=3) (ha:a∈algK op):a=5\/a=6\/a=7:=by
 subst h
 simpa [algK] using ha
theorem al4 {op a:Int} (h:op=4) (ha:a∈algK op):a=1\/a=6:=by
 subst h
 simpa [algK] using ha
theorem al5 {op a:Int} (h:op=5) (ha:a∈algK op):a=1\/a=2:=by
 subst h
 simpa [algK] using ha
theorem al6 {op a:Int} (h:op=6) (ha:a∈algK op):a=1\/a=2:=by
 subst h
 simpa [algK] using ha
theorem al7 {op a:Int} (h:op=7) (ha:a∈algK op):a=7\/a=6\/a=8:=by
 subst h
 simpa [algK] using ha
theorem al8 {op a:Int} (h:op=8) (ha:a∈algK op):a=9\/a=10\/a=8:=by
 subst h
 simpa [algK] using ha
theorem al9 {op a:Int} (h:op=9) (ha:a∈algK op):a=7\/a=9\/a=11:=by
 subst h
 simpa [algK] using ha
theorem al10 {op a:Int} (h:op=10) (ha:a∈algK op):a=7\/a=5:=by
 subst h
 simpa [algK] using ha
theorem al11 {op a:Int} (h:op=11) (ha:a∈algK op):a=7:=by
 subst h
 simpa [algK] using ha
section
variable {B:Int->List Int}
theorem yK {α : Type} {l:List α} {f g : α->Msg} (h : ∀ x,f x=exM B (g x)):l.map f=(l.map g).map (exM B):=by
 rw[List.map_map];exact List.map_congr_left (fun x _=>h x)
theorem ZV {α : Type} {l:List α} {f g : α->List Msg} (h : ∀ x,f x=(g x).map (exM B)):l.flatMap f=(l.flatMap g).map (exM B):=by
 rw[List.map_flatMap,funext h]
theorem Zb {α : Type} {l:List α} {f g : α->List Msg} (h : ∀ x,f x=(g x).map (exM B)):l.map f=(l.map g).map (fun ms=>ms.map (exM B)):=by
 rw[List.map_map];exact List.map_congr_left (fun x _=>h x)
theorem xn {f g:Int->List Msg} {p:Int} (h : ∀ i,f i=(g i).map (exM B)):vI f p=(vI g p).map (fun ms=>ms.map (exM B)):=Zb (fun _=>h _)
theorem QY {f g:Int->List Msg} {p:Int} (h : ∀ i,f i=(g i).map (exM B)):powF f p=(powF g p).map (fun ms=>ms.map (exM B)):=Zb (fun _=>h _)
theorem Vt {t t0:Tk} (hp:t0.pr=t.pr) {f g:Int->Int->Msg} {i:Int} (h : ∀ r,f i r=exM B (g i r)):evF t f i=(evF t0 g i).map (exM B):=by
 unfold evF;rw[hp];exact yK (fun _=>h _)
end
section
variable {t:Tk} (hpa:0<=t.pa)
include hpa
theorem VR (fr to jn:Int):smM t fr to jn=exM (spB t) (smM (bT t) fr to jn):=by
 unfold exM;simp only[smM];rw[QT hpa rfl]
theorem XW (fr to sr ds jn:Int):blM t fr to sr ds jn=exM (spB t) (blM (bT t) fr to sr ds jn):=by
 unfold exM;simp only[blM];rw[QT hpa rfl,QT hpa rfl]
theorem de_ex (h:Int):deR t (stF t) h=(deR (bT t) (stF (bT t)) h).map (exM (spB t)):=by
 unfold deR;refine ZV (fun v=>?_);unfold deG;refine yK (fun i=>?_);unfold deM exM stF;simp only;rw[QT hpa rfl];rfl
theorem cyc_ex (i r:Int) (n:Nat):(cycF (bT t) i r n).flatMap (spB t)=cycF t i r n:=by
 unfold cycF;rw[List.flatMap_assoc];congr 1
 funext j
 exact QT hpa rfl _ _
theorem brL_ex (h:Int):(brL (bT t) h).flatMap (spB t)=brL t h:=by
 unfold brL;rw[List.flatMap_assoc];congr 1
 funext i
 unfold brG;split
 ·rfl
 ·exact QT hpa rfl _ _
theorem rn_ex {a:Int} (h11:t.op≠11) (h3:a≠3) (h4:t.op=1->a≠4) (h7:t.op=3->a≠7) (ha:a∈algK t.op) (hx:1<=t.op/\t.op<=11):qZ t a=(qZ (bT t) a).map (fun ms=>ms.map (exM (spB t))):=by
 have one : ∀ {m m0:Msg},m=exM (spB t) m0->[m] = [m0].map (exM (spB t)):=fun h=>by rw[h];rfl
 have e1:vI (bcL t) t.pr=(vI (bcL (bT t)) t.pr).map (fun ms=>ms.map (exM (spB t))):=xn (fun i=>one (VR hpa _ _ _));have e2:powF (bcT t) t.pr=(powF (bcT (bT t)) t.pr).map (fun ms=>ms.map (exM (spB t))):=QY (fun i=>yK (fun v=>VR hpa _ _ _))
 have e3:vI (rdL t) t.pr=(vI (rdL (bT t)) t.pr).map (fun ms=>ms.map (exM (spB t))):=xn (fun i=>by
  unfold rdL;rw[show (bT t).ro=t.ro from rfl];split
  ·exact one (VR hpa _ _ _)
  ·exact one (VR hpa _ _ _))
 have e4:powF (rdT t) t.pr=(powF (rdT (bT t)) t.pr).map (fun ms=>ms.map (exM (spB t))):=QY (fun i=>yK (fun v=>VR hpa _ _ _))
 have e5:dblF t=(dblF (bT t)).map (fun ms=>ms.map (exM (spB t))):=by
  have x1 : ∀ {m m0:List Msg},m=m0.map (exM (spB t))->dbX t m=(dbX (bT t) m0).map (fun q=>q.map (fun ms=>ms.map (exM (spB t)))):=fun h=>by
   unfold dbX;rw[show exF (bT t)=exF t from rfl,h];split
   ·rfl
   ·rfl
  have x2:dbI t=(dbI (bT t)).map (exM (spB t)):=yK (fun i=>VR hpa _ _ _);have x3:dbO t=(dbO (bT t)).map (exM (spB t)):=yK (fun i=>VR hpa _ _ _);have x4 : ∀ h,dbR t h=(dbR (bT t) h).map (exM (spB t)):=fun h=>yK (fun i=>VR hpa _ _ _)
  unfold dblF;rw[List.map_flatten,List.map_append];unfold dbQ;rw[List.map_append,x1 x2,x1 x3,List.map_map];congr 1;congr 1;congr 1;refine List.map_congr_left (fun j _=>?_);rw[x4];rfl
 have e6:vI (scL t) t.pr=(vI (scL (bT t)) t.pr).map (fun ms=>ms.map (exM (spB t))):=xn (fun i=>one (VR hpa _ _ _));have e7:powF (scD t) t.pr=(powF (scD (bT t)) t.pr).map (fun ms=>ms.map (exM (spB t))):=QY (fun i=>yK (fun v=>VR hpa _ _ _));have e8:vI (gaL t) t.pr=(vI (gaL (bT t)) t.pr).map (fun ms=>ms.map (exM (spB t))):=xn (fun i=>one (XW hpa _ _ _ _ _));have e9:powF (gaT t) t.pr=(powF (gaT (bT t)) t.pr).map (fun ms=>ms.map (exM (spB t))):=QY (fun i=>ZV (fun v=>yK (fun w=>XW hpa _ _ _ _ _)));have e10:vI (stL t) t.pr=(vI (stL (bT t)) t.pr).map (fun ms=>ms.map (exM (spB t))):=xn (fun i=>one (XW hpa _ _ _ _ _));have e11:zx t (stF t)=(zx (bT t) (stF (bT t))).map (fun ms=>ms.map (exM (spB t))):=Zb (fun i=>de_ex hpa _);have e12:vI (evF t (ZQ t)) t.pr=(vI (evF (bT t) (ZQ (bT t))) t.pr).map (fun ms=>ms.map (exM (spB t))):=xn (fun i=>Vt rfl (fun r=>XW hpa _ _ _ _ _));have e13:powF (evF t (Vs t)) t.pr=(powF (evF (bT t) (Vs (bT t))) t.pr).map (fun ms=>ms.map (exM (spB t))):=QY (fun i=>Vt rfl (fun r=>by unfold Vs exM;simp only;rw[QT hpa rfl]));have e14:powF (evF t (QM t)) t.pr=(powF (evF (bT t) (QM (bT t))) t.pr).map (fun ms=>ms.map (exM (spB t))):=QY (fun i=>Vt rfl (fun r=>by unfold QM exM;simp only;rw[cyc_ex hpa];rfl));have e15 : ∀ pf,prsF t pf=(prsF (bT t) pf).map (fun ms=>ms.map (exM (spB t))):=fun pf=>Zb (fun i=>Vt rfl (fun r=>XW hpa _ _ _ _ _))
 have e16 : ∀ pf,buT t pf=(buT (bT t) pf).map (exM (spB t)):=fun pf=>ZV (fun r=>yK (fun i=>XW hpa _ _ _ _ _))
 have e17:powF (evF t (yA t)) t.pr=(powF (evF (bT t) (yA (bT t))) t.pr).map (fun ms=>ms.map (exM (spB t))):=QY (fun i=>Vt rfl (fun r=>by unfold yA exM;simp only;rw[brL_ex hpa];rfl));have e18:vI (evF t (ZP t)) t.pr=(vI (evF (bT t) (ZP (bT t))) t.pr).map (fun ms=>ms.map (exM (spB t))):=xn (fun i=>Vt rfl (fun r=>XW hpa _ _ _ _ _));have e19:vI (evF t (ZO t)) t.pr=(vI (evF (bT t) (ZO (bT t))) t.pr).map (fun ms=>ms.map (exM (spB t))):=xn (fun i=>Vt rfl (fun r=>XW hpa _ _ _ _ _));have e20:hlvF t=(hlvF (bT t)).map (fun ms=>ms.map (exM (spB t))):=Zb (fun h=>Vt rfl (fun r=>by unfold WS exM;simp only;rw[QT hpa rfl]));have e21:powF (evF t (ZN t)) t.pr=(powF (evF (bT t) (ZN (bT t))) t.pr).map (fun ms=>ms.map (exM (spB t))):=QY (fun i=>Vt rfl (fun r=>VR hpa _ _ _));have e22:powF (rdT t) t.pr++powF (bcT t) t.pr=(powF (rdT (bT t)) t.pr++powF (bcT (bT t)) t.pr).map (fun ms=>ms.map (exM (spB t))):=by rw[List.map_append,<- e4,<- e2]
 have e23 : [buT t (b1F t)]++(powF (evF t (yA t)) t.pr ++ [buT t (b2F t)])=([buT (bT t) (b1F (bT t))]++(powF (evF (bT t) (yA (bT t))) t.pr ++ [buT (bT t) (b2F (bT t))])).map (fun ms=>ms.map (exM (spB t))):=by
  rw[List.map_append,List.map_append,<- e17];have x:=e16 (b1F t);have y:=e16 (b2F t);rw[x,y];rfl
 have hop:t.op=1\/t.op=2\/t.op=3\/t.op=4\/t.op=5\/t.op=6\/t.op=7\/t.op=8\/t.op=9\/t.op=10:=by omega
 rcases hop with h | h | h | h | h | h | h | h | h | h
 ·have hA:=al1 h ha
  rw[rn1 h,rn1 (t:=bT t) h];by_cases h20:a=1
  ·rw[if_pos h20,if_pos h20]
   exact e1
  rw[if_neg h20,if_neg h20];by_cases h21:a=2
  ·rw[if_pos h21,if_pos h21]
   exact e2
  rw[if_neg h21,if_neg h21];by_cases h22:a=3
  ·rw[if_pos h22,if_pos h22]
   exact absurd h22 (by omega)
  rw[if_neg h22,if_neg h22];exfalso;exact h4 h (by omega)
 ·have hA:=al2 h ha
  rw[rn2 h,rn2 (t:=bT t) h];by_cases h20:a=1
  ·rw[if_pos h20,if_pos h20]
   exact e3
  rw[if_neg h20,if_neg h20];by_cases h21:a=2
  ·rw[if_pos h21,if_pos h21]
   exact e4
  rw[if_neg h21,if_neg h21];exfalso;omega
 ·have hA:=al3 h ha
  rw[rn3 h,rn3 (t:=bT t) h];by_cases h20:a=5
  ·rw[if_pos h20,if_pos h20]
   exact e22
  rw[if_neg h20,if_neg h20];by_cases h21:a=6
  ·rw[if_pos h21,if_pos h21]
   exact e5
  rw[if_neg h21,if_neg h21];exfalso;exact h7 h (by omega)
 ·have hA:=al4 h ha
  rw[rn4 h,rn4 (t:=bT t) h];by_cases h20:a=1
  ·rw[if_pos h20,if_pos h20]
   exact e6
  rw[if_neg h20,if_neg h20];exact e7
 ·have hA:=al5 h ha
  rw[rn5 h,rn5 (t:=bT t) h];by_cases h20:a=1
  ·rw[if_pos h20,if_pos h20]
   exact e8
  rw[if_neg h20,if_neg h20];exact e9
 ·have hA:=al6 h ha
  rw[rn6 h,rn6 (t:=bT t) h];by_cases h20:a=1
  ·rw[if_pos h20,if_pos h20]
   exact e10
  rw[if_neg h20,if_neg h20];exact e11
 ·have hA:=al7 h ha
  rw[rn7 h,rn7 (t:=bT t) h];by_cases h20:a=7
  ·rw[if_pos h20,if_pos h20]
   exact e12
  rw[if_neg h20,if_neg h20];by_cases h21:a=6
  ·rw[if_pos h21,if_pos h21]
   exact e13
  rw[if_neg h21,if_neg h21];exact e14
 ·have hA:=al8 h ha
  rw[rn8 h,rn8 (t:=bT t) h];by_cases h20:a=9
  ·rw[if_pos h20,if_pos h20]
   exact e15 _
  rw[if_neg h20,if_neg h20];by_cases h21:a=10
  ·rw[if_pos h21,if_pos h21]
   exact e15 _
  rw[if_neg h21,if_neg h21];exact e23
 ·have hA:=al9 h ha
  rw[rn9 h,rn9 (t:=bT t) h];by_cases h20:a=7
  ·rw[if_pos h20,if_pos h20]
   exact e18
  rw[if_neg h20,if_neg h20];by_cases h21:a=9
  ·rw[if_pos h21,if_pos h21]
   exact e19
  rw[if_neg h21,if_neg h21];exact e20
 ·have hA:=al10 h ha
  rw[rn10 h,rn10 (t:=bT t) h];by_cases h20:a=7
  ·rw[if_pos h20,if_pos h20]
   exact e21
  rw[if_neg h20,if_neg h20];exact e22
end
end Go.Af.Tryz
namespace Go.Af.Tryz
open Go Go.Proofs
open Go.Af.Coll (St)

def bP (t:Tk):Tk:=⟨t.op,t.pr,t.ro,t.pr,[],[]⟩
def prK (t:Tk):Int->Int:=fun s=>((s+1)*t.pr-1) / t.pa
def prI (t:Tk):Int->Nat:=fun s=>(s-prK t s*t.pa / t.pr).toNat
theorem prK_iff {t:Tk} (hpa:1<=t.pa) (hpr:1<=t.pr) (s k:Int):prK t s=k↔k*t.pa / t.pr<=s/\s<(k+1)*t.pa / t.pr:=by
 unfold prK
 have h1:(k<=((s+1)*t.pr-1) / t.pa↔k*t.pa / t.pr<=s):=by
  rw[Int.le_ediv_iff_mul_le (by omega)];have e:k*t.pa / t.pr<s+1↔k*t.pa<(s+1)*t.pr:=Int.ediv_lt_iff_lt_mul (by omega);omega
 have h2:(((s+1)*t.pr-1) / t.pa<k+1↔s<(k+1)*t.pa / t.pr):=by
  rw[Int.ediv_lt_iff_lt_mul (by omega),<- Int.add_one_le_iff (a:=s),Int.le_ediv_iff_mul_le (by omega)];omega
 omega
theorem par_get? {t:Tk} {b x:Int} {i:Nat} (h:(parF t b)[i]? = some x):i<((b+1)*t.pa / t.pr-b*t.pa / t.pr).toNat/\x=b*t.pa / t.pr+(i:Int):=by
 unfold parF at h;have hl:=(List.getElem?_eq_some_iff.1 h).1;have hv:=(List.getElem?_eq_some_iff.1 h).2;rw[List.length_map,List.length_range] at hl;refine⟨hl, ?_⟩;rw[<- hv];simp
theorem par_at {t:Tk} (hpa:1<=t.pa) (hpr:1<=t.pr) (s:Int):(parF t (prK t s))[prI t s]? = some s:=by
 have h:=(prK_iff hpa hpr s _).1 rfl;unfold parF prI;rw[List.getElem?_map,List.getElem?_range (by omega)];simp only[Option.map_some];congr 1;omega
theorem par_bl {t:Tk} (hpa:1<=t.pa) (hpr:1<=t.pr):Bl (parF t) (prK t) (prI t) t.pr t.pa:=by
 refine⟨fun s hs=>?_,fun s _ _=>par_at hpa hpr s,fun b j s h0 h1 h=>?_⟩
 ·unfold prK
  refine Int.ediv_nonneg ?_ (by omega);have:1*1<=(s+1)*t.pr:=Int.mul_le_mul (by omega) hpr (by omega) (by omega);omega
 ·obtain ⟨hj,rfl⟩:=par_get? h
  have hk:prK t (b*t.pa / t.pr+(j:Int))=b:=(prK_iff hpa hpr _ _).2 ⟨by omega,by omega⟩;have a:0<=b*t.pa / t.pr:=Int.ediv_nonneg (Int.mul_nonneg h0 (by omega)) (by omega)
  have c:(b+1)*t.pa / t.pr<=t.pa:=by
   have e:(b+1)*t.pa / t.pr<t.pa+1↔(b+1)*t.pa<(t.pa+1)*t.pr:=Int.ediv_lt_iff_lt_mul (by omega);have e1:(b+1)*t.pa<=t.pr*t.pa:=Int.mul_le_mul_of_nonneg_right (by omega) (by omega);have e2:(t.pa+1)*t.pr=t.pa*t.pr+t.pr:=by rw[Int.add_mul,Int.one_mul]
   have e3:t.pr*t.pa=t.pa*t.pr:=Int.mul_comm _ _;omega
  refine⟨by omega,by omega,hk, ?_⟩;unfold prI;rw[hk];omega
theorem par_self {t:Tk} (hpr:1<=t.pr) (i:Int):parF (bP t) i = [i]:=by
 unfold parF bP;simp only;rw[Int.mul_ediv_cancel _ (by omega),Int.mul_ediv_cancel _ (by omega),show (i+1-i).toNat=1 by omega];simp
theorem Ud {t:Tk} (hpr:1<=t.pr) (i:Int):(parF (bP t) i).flatMap (parF t)=parF t i:=by
 rw[par_self hpr];simp
theorem rn_parts {t:Tk} {a:Int} (hpr:1<=t.pr) (h:t.op=1/\a=4\/t.op=3/\a=7):qZ t a=(qZ (bP t) a).map (fun ms=>ms.map (exM (parF t))):=by
 have e1:zx t (parF t)=(zx (bP t) (parF (bP t))).map (fun ms=>ms.map (exM (parF t))):=Zb (fun i=>by
  unfold deR;refine ZV (fun v=>?_);unfold deG;refine yK (fun i=>?_);unfold deM exM;simp only;rw[Ud hpr]
  rfl)
 have e2:vI (evF t (Wu t)) t.pr=(vI (evF (bP t) (Wu (bP t))) t.pr).map (fun ms=>ms.map (exM (parF t))):=xn (fun i=>Vt rfl (fun r=>by unfold Wu exM;simp only;rw[Ud hpr];rfl));have e3:vI (evF t (Ws t)) t.pr=(vI (evF (bP t) (Ws (bP t))) t.pr).map (fun ms=>ms.map (exM (parF t))):=xn (fun i=>Vt rfl (fun r=>by unfold Ws exM;simp only;rw[Ud hpr];rfl));have e4:vI (evF t (Wq t)) t.pr=(vI (evF (bP t) (Wq (bP t))) t.pr).map (fun ms=>ms.map (exM (parF t))):=xn (fun i=>Vt rfl (fun r=>by unfold Wq exM;simp only;rw[Ud hpr];rfl));rcases h with ⟨h,rfl⟩ | ⟨h,rfl⟩
 ·rw[rn1 h,rn1 (t:=bP t) h]
  simp only[show ¬ (4:Int)=1 by omega,show ¬ (4:Int)=2 by omega,show ¬ (4:Int)=3 by omega,if_false];rw[List.map_append,e1];congr 1
 ·rw[rn3 h,rn3 (t:=bP t) h]
  simp only[show ¬ (7:Int)=5 by omega,show ¬ (7:Int)=6 by omega,if_false];rw[List.map_append,e3];congr 1
theorem same_parts {t:Tk} {a:Int} (h:t.op=1/\a=4\/t.op=3/\a=7) : ∀ ms∈qZ t a, ∀ m∈ms,m.sr=m.ds:=by
 have ev : ∀ {f:Int->Int->Msg} {i:Int},(∀ i r,(f i r).sr=(f i r).ds)->∀ m∈evF t f i,m.sr=m.ds:=fun h m hm=>by
  obtain ⟨r,_,rfl⟩:=List.mem_map.1 hm;exact h _ _
 have each : ∀ {f:Int->List Msg} {p:Int},(∀ i, ∀ m∈f i,m.sr=m.ds)->∀ ms∈vI f p, ∀ m∈ms,m.sr=m.ds:=fun h ms hms=>by
  obtain ⟨i,_,rfl⟩:=List.mem_map.1 hms;exact h _
 rcases h with ⟨h,rfl⟩ | ⟨h,rfl⟩
 ·rw[rn1 h]
  simp only[show ¬ (4:Int)=1 by omega,show ¬ (4:Int)=2 by omega,show ¬ (4:Int)=3 by omega,if_false];intro ms hms;rcases List.mem_append.1 hms with hms | hms
  ·obtain ⟨i,_,rfl⟩:=List.mem_map.1 hms
   intro m hm;obtain ⟨v,_,hm⟩:=List.mem_flatMap.1 hm;obtain ⟨j,_,rfl⟩:=List.mem_map.1 hm;rfl
  ·exact each (fun i=>ev (fun _ _=>rfl)) ms hms
 ·rw[rn3 h]
  simp only[show ¬ (7:Int)=5 by omega,show ¬ (7:Int)=6 by omega,if_false];intro ms hms;rcases List.mem_append.1 hms with hms | hms
  ·exact each (fun i=>ev (fun _ _=>rfl)) ms hms
  ·exact each (fun i=>ev (fun _ _=>rfl)) ms hms
theorem yT {t:Tk} (h:t.op=1\/t.op=3):blkF t=1/\blkF (bP t)=1:=by
 unfold blkF bP;simp only;constructor <;> (rw[if_neg (by omega),if_neg (by omega),if_neg (by omega)])
theorem Xq {t:Tk} (hpa:1<=t.pa) (hpr:1<=t.pr) (s:Int):s∈spnF t 0 1↔prK t s∈spnF (bP t) 0 1:=by
 rw[yg,yg,show (bP t).pa=t.pr from rfl];unfold prK;rw[Int.zero_mul,Int.zero_mul,Int.one_mul,Int.one_mul,Int.ediv_lt_iff_lt_mul (by omega),Int.le_ediv_iff_mul_le (by omega)]
 have a:0<=s↔0<(s+1)*t.pr:=by
  constructor
  ·intro h
   exact Int.mul_pos (by omega) (by omega)
  ·intro h
   have:=Int.pos_of_mul_pos_left h
   have:0<s+1:=by
    by_cases hc:0<s+1
    ·exact hc
    ·have:(s+1)*t.pr<=0:=Int.mul_nonpos_of_nonpos_of_nonneg (by omega) (by omega)
     omega
   omega
 have b:s<t.pa↔(s+1)*t.pr<=t.pa*t.pr:=by
  constructor
  ·intro h
   exact Int.mul_le_mul_of_nonneg_right (by omega) (by omega)
  ·intro h
   have:=Int.le_of_mul_le_mul_right h (by omega);omega
 rw[Int.mul_comm t.pr];omega
theorem in_parts {t:Tk} (hpa:1<=t.pa) (hpr:1<=t.pr) (h:t.op=1\/t.op=3):inF t=upF (parF t) (prK t) (prI t) (inF (bP t)):=by
 funext a s
 have hiff:s∈fstF t a↔prK t s∈fstF (bP t) a:=by
  unfold fstF;rw[(yT h).1,(yT h).2,show (bP t).op=t.op from rfl,show (bP t).ro=t.ro from rfl];rw[if_neg (show ¬ (t.op=5\/t.op=7) by omega),if_neg (show ¬ (t.op=5\/t.op=7) by omega),if_neg (show ¬ t.op=8 by omega),if_neg (show ¬ t.op=8 by omega),if_neg (show ¬ t.op=11 by omega),if_neg (show ¬ t.op=11 by omega)];split
  ·simp
  ·exact Xq hpa hpr s
 have hat:(parF t (prK t s))[prI t s]! = s:=by
  rw[List.getElem!_eq_getElem?_getD,par_at hpa hpr];rfl
 unfold upF inF;by_cases h:0<=a/\a<t.pr/\s∈fstF t a
 ·rw[if_pos h,if_pos ⟨h.1,h.2.1,hiff.1 h.2.2⟩,List.map_cons,List.map_nil,hat]
 ·rw[if_neg h,if_neg (fun h' => h ⟨h'.1,h'.2.1,hiff.2 h'.2.2⟩)]
  rfl
theorem fin_parts {t:Tk} (hpa:1<=t.pa) (hpr:1<=t.pr) (h:t.op=1\/t.op=3) : ∀ r:Nat,(r:Int)<t.pr->∀ w∈finF t r, ∃ w0∈finF (bP t) r,FiUp (parF t) (prK t) (prI t) w w0:=by
 intro r _ w hw
 have hat : ∀ s,(parF t (prK t s))[prI t s]! = s:=fun s=>by
  rw[List.getElem!_eq_getElem?_getD,par_at hpa hpr];rfl
 have key : ∀ i:Nat,i<(spnF t 0 1).length->∃ j:Nat,j<(spnF (bP t) 0 1).length/\(spnF (bP t) 0 1)[j]! = prK t (spnF t 0 1)[i]! /\ (spnF t 0 1)[i]! = (i:Int)/\prK t i=j:=fun i hi=>by
  have hi' := hi;rw[vU] at hi';have e:=xQ t 0 1 hi';rw[Int.zero_mul,Int.zero_add] at e
  have hm:(i:Int)∈spnF t 0 1:=by
   rw[<- e,getElem!_pos _ i hi];exact List.getElem_mem hi
  have hk:=(yg _ _ _ _).1 ((Xq hpa hpr _).1 hm);have hj:(prK t i).toNat<(1*(bP t).pa-0*(bP t).pa).toNat:=by omega
  refine⟨(prK t i).toNat,by rw[vU];exact hj, ?_,e,by omega⟩;rw[xQ _ _ _ hj,e];omega
 unfold finF at hw ⊢;rw[(yT h).1] at hw;rw[(yT h).2];simp only[show (bP t).op=t.op from rfl,show (bP t).ro=t.ro from rfl,show (bP t).pr=t.pr from rfl];rcases h with h | h
 ·rw[if_pos h] at hw ⊢
  obtain ⟨i,hi,rfl⟩:=yh.1 hw;obtain ⟨j,hj,e1,e2,e3⟩:=key i hi;refine⟨_,yh.2 ⟨j,hj,rfl⟩,⟨e1,hat _,rfl,fun _=>⟨rfl, ?_⟩⟩⟩;simp only;rw[e2,<- e3];exact hat _
 ·have n : ∀ k:Int,k≠3->¬ t.op=k:=fun k hk e=>hk (by omega)
  rw[if_neg (n 1 (by omega)),if_neg (n 6 (by omega)),if_neg (by omega),if_neg (n 8 (by omega)),if_neg (n 11 (by omega)),if_neg (n 2 (by omega)),if_neg (n 4 (by omega)),if_neg (n 9 (by omega))] at hw ⊢;obtain ⟨i,hi,rfl⟩:=uQ.1 hw;obtain ⟨j,hj,e1,e2,e3⟩:=key i hi;exact⟨_,uQ.2 ⟨j,hj,rfl⟩,⟨e1,hat _,rfl,fun h=>by simp only at h;omega⟩⟩
end Go.Af.Tryz
