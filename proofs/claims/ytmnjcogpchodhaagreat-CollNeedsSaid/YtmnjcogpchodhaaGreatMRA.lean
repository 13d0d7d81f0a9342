/- A part of the proof. -/
import Derived.Test.YtmnjcogpchodhaaGreatMGI
import Derived.Test.YtmnjcogpchodhaaGreatMGC2
import Derived.Test.YtmnjcogpchodhaaGreatMHI
set_option linter.all false
set_option maxHeartbeats 4000000
set_option maxRecDepth 100000
namespace Go.Af.Tryz
open Go Go.Proofs
open Go.Af.Coll (St sndP sndR zF Ck yP zT QO badP befF befL keyL)

abbrev Fs:=Int->Int->List Og
def Fit (x y:St):Prop:=x.rd=y.rd->¬ (x.to=y.to/\x.ds=y.ds)/\(x.fr≠x.to->y.fr≠y.to->(x.fr=y.fr↔x.to=y.to))
theorem Fit.symm {x y:St} (h:Fit x y):Fit y x:=fun e=>⟨fun ⟨a,b⟩=>(h e.symm).1 ⟨a.symm,b.symm⟩,fun a b=>⟨fun c=>(((h e.symm).2 b a).1 c.symm).symm,fun c=>(((h e.symm).2 b a).2 c.symm).symm⟩⟩
structure Rnd (f:Fs) (S:List St) (g:Fs):Prop where
 put : ∀ x∈S,f x.fr x.sr≠[]/\(joinL x.jn (f x.to x.ds) (f x.fr x.sr)).length<=128/\g x.to x.ds=joinL x.jn (f x.to x.ds) (f x.fr x.sr)
 keep : ∀ p s,0<=p->0<=s->(∀ x∈S, ¬ (x.to=p/\x.ds=s))->g p s=f p s
inductive Run:Fs->List (List St)->Fs->Prop
 | nil (f:Fs):Run f [] f
 | cons {f g h:Fs} {S:List St} {rs:List (List St)}:Rnd f S g->Run g rs h->Run f (S::rs) h
def Dm (tr:Tr) (p n:Int):Prop:=(tr.length:Int)=p/\∀ row∈tr,(row.length:Int)=n
theorem dm_tset {tr:Tr} {p n r s:Int} {l:List Og} (h:Dm tr p n) (hr:0<=r/\r<p):Dm (tset tr r s l) p n:=by
 refine⟨by unfold tset;rw[List.length_set];exact h.1,fun row hrow=>?_⟩;unfold tset at hrow;rcases List.mem_or_eq_of_mem_set hrow with h1 | rfl
 ·exact h.2 row h1
 ·rw[List.length_set]
  have hl:r.toNat<tr.length:=by have:=h.1;omega
  rw[getElem!_pos tr _ hl];exact h.2 _ (List.getElem_mem hl)
theorem Xm {tr:Tr} {p n r s r' s' : Int} {l:List Og} (h:Dm tr p n) (hr:0<=r/\r<p) (hs:0<=s/\s<n) (hr' : 0<=r') (hs' : 0<=s'):tget (tset tr r s l) r' s' = if r=r' /\ s=s' then l else tget tr r' s' := by
 have hl:r.toNat<tr.length:=by have:=h.1;omega
 have hn:s.toNat<tr[r.toNat].length:=by have:=h.2 _ (List.getElem_mem hl);omega
 unfold tget tset;rw[getElem!_pos tr r.toNat hl];by_cases h1:r=r'
 ·subst h1
  rw[getElem!_pos _ r.toNat (by rw[List.length_set];exact hl),List.getElem_set_self];by_cases h2:s=s'
  ·subst h2
   rw[if_pos ⟨rfl,rfl⟩,getElem!_pos _ s.toNat (by rw[List.length_set];exact hn),List.getElem_set_self]
  ·rw[if_neg (fun h=>h2 h.2),getElem!_pos tr r.toNat hl]
   have hne:s.toNat≠s'.toNat:=by omega
   rw[List.getElem!_eq_getElem?_getD,List.getElem!_eq_getElem?_getD,List.getElem?_set_ne hne]
 ·rw[if_neg (fun h=>h1 h.1)]
  have hne:r.toNat≠r'.toNat:=by omega
  have e:(tr.set r.toNat (tr[r.toNat].set s.toNat l))[r'.toNat]! = tr[r'.toNat]! := by
   rw[List.getElem!_eq_getElem?_getD,List.getElem!_eq_getElem?_getD,List.getElem?_set_ne hne]
  rw[e]
end Go.Af.Tryz
namespace Go.Af.Tryz
open Go Go.Proofs
open Go.Af.Coll (St sndP sndR zF Ck yP zT QO badP befF befL keyL emp)

theorem sndR_of {p n:Int} : ∀ {l past:List St},(past++l).Pairwise (fun a b=>befF b a=false)->(past++l).Pairwise Fit->(∀ x∈l,StOk p n x/\0<=x.rd/\x.rd<256)->sndR p n past l=0
 | [],_,_,_,_=>rfl
 | x::l,past,hs,hf,ho=>by
   have hs2:=(List.pairwise_append.1 hs).2.2;have hf2:=(List.pairwise_append.1 hf).2.2;obtain ⟨hx,h0,h1⟩:=ho x List.mem_cons_self;have hfr:=hx.fr;have hto:=hx.to;have hsr:=hx.sr;have hds:=hx.ds;have hjn:=hx.jn
   have hb:badP past.getLast? x=false:=by
    unfold badP
    cases hg:past.getLast? with
    | none=>rfl
    | some y =>
      have hy:=List.mem_of_getLast? hg;have a:=hs2 y hy x List.mem_cons_self;have b:=hf2 y hy x List.mem_cons_self;show (!befF y x)=false;rcases Qp (keyL y) (keyL x) rfl with c | c | c
      ·have c' : befF y x=true:=c
       rw[c'];rfl
      ·exfalso
       unfold keyL at c;have:y.rd=x.rd/\y.fr=x.fr/\y.to=x.to/\y.sr=x.sr/\y.ds=x.ds:=by simpa using c
       exact (b this.1).1 ⟨this.2.2.1,this.2.2.2.2⟩
      ·have c' : befF x y=true:=c
       rw[a] at c'; cases c'
   have hself:zF p n past.getLast? x=0:=by
    unfold zF;rw[if_neg (by omega),if_neg (by omega),if_neg (by omega),if_neg (by rw[hb];simp;omega)]
   have htw:zT past x=false:=by
    unfold zT;rw[List.any_eq_false];intro y hy;have b:=hf2 y hy x List.mem_cons_self;simp only[Bool.and_eq_true,decide_eq_true_eq];exact fun e=>(b e.1).1 ⟨e.2.1,e.2.2⟩
   have hbu:QO past x=false:=by
    unfold QO;rw[List.any_eq_false];intro y hy;have b:=hf2 y hy x List.mem_cons_self;simp only[Bool.and_eq_true,Bool.or_eq_true,decide_eq_true_eq];rintro ⟨e,a1,a2,a3⟩;have c:=(b e).2 a2 a1;rcases a3 with ⟨u,v⟩ | ⟨u,v⟩
    ·exact v (c.1 u)
    ·exact v (c.2 u)
   have hfa:yP p n past x=0:=by
    unfold yP;rw[if_neg (by rw[hself];simp),htw,hbu];rfl
   rw[sndR,if_neg (by rw[hfa];simp)];refine sndR_of (past:=past ++ [x]) ?_ ?_ (fun y hy=>ho y (List.mem_cons_of_mem _ hy))
   ·rw[List.append_assoc];exact hs
   ·rw[List.append_assoc];exact hf
structure RsOk (p n:Int) (rs:List (List St)):Prop where
 len:rs.length<=256
 rd : ∀ i (hi:i<rs.length), ∀ x∈rs[i],x.rd=(i:Int)
 fit : ∀ S∈rs,S.Pairwise Fit
 ok : ∀ S∈rs, ∀ x∈S,StOk p n x
theorem ZW {p n:Int} {rs:List (List St)} (h:RsOk p n rs):rs.flatten.Pairwise Fit:=by
 rw[List.pairwise_flatten];refine⟨h.fit, ?_⟩;rw[List.pairwise_iff_getElem];intro i j hi hj hij x hx y hy e;have a:=h.rd i hi x hx;have b:=h.rd j hj y hy;omega
theorem dm_st {t:Tk} (hp:0<=t.pr) (hn:0<=sltF t):Dm (stT t) t.pr (sltF t):=by
 unfold stT;refine⟨by simp;omega,fun row hrow=>?_⟩;obtain ⟨r,_,rfl⟩:=List.mem_map.1 hrow;have:=(stR_dim t (sltF t).toNat (r:Int)).1;rw[this];omega
end Go.Af.Tryz
namespace Go.Af.Tryz
open Go Go.Proofs
open Go.Af.Coll (St)

structure Bl (B:Int->List Int) (blk:Int->Int) (idx:Int->Nat) (nb n:Int):Prop where
 nn : ∀ s,0<=s->0<=blk s
 at' : ∀ s,0<=s->blk s<nb->(B (blk s))[idx s]? = some s
 un : ∀ b j s,0<=b->b<nb->(B b)[j]? = some s->0<=s/\s<n/\blk s=b/\idx s=j
def exX (B:Int->List Int) (x:St):List St:=(List.range (B x.sr).length).map (fun j=>⟨x.rd,x.fr,x.to,(B x.sr)[j]!,(B x.ds)[j]!,x.jn⟩)
def upF (B:Int->List Int) (blk:Int->Int) (idx:Int->Nat) (f:Fs):Fs:=fun p s=>(f p (blk s)).map (fun o=>(o.1,(B o.2)[idx s]!))
theorem QL {B:Int->List Int} {x y:St} (h:y∈exX B x) : ∃ j,j<(B x.sr).length/\y=⟨x.rd,x.fr,x.to,(B x.sr)[j]!,(B x.ds)[j]!,x.jn⟩:=by
 unfold exX at h;obtain ⟨j,hj,rfl⟩:=List.mem_map.1 h;exact⟨j,List.mem_range.1 hj,rfl⟩
theorem join_map (φ : Og->Og) (j:Int) (a b:List Og):joinL j (a.map φ) (b.map φ)=(joinL j a b).map φ := by
 unfold joinL;split
 ·rfl
 ·split
  ·rw[List.map_append]
  ·rw[List.map_append]
structure BSt (B:Int->List Int) (p nb:Int) (x:St):Prop where
 ok:StOk p nb x
 len:(B x.sr).length=(B x.ds).length
section
variable {B:Int->List Int} {blk:Int->Int} {idx:Int->Nat} {nb n p:Int}
theorem uF {l:List Int} {j:Nat} (h:j<l.length):l[j]? = some l[j]! := by
 rw[getElem!_pos l j h];exact List.getElem?_eq_getElem h
theorem up_at (hb:Bl B blk idx nb n) (f:Fs) (q:Int) {b:Int} {j:Nat} (h0:0<=b) (h1:b<nb) (hj:j<(B b).length):upF B blk idx f q (B b)[j]! = (f q b).map (fun o=>(o.1,(B o.2)[j]!)):=by
 have:=hb.un b j _ h0 h1 (uF hj);unfold upF;rw[this.2.2.1,this.2.2.2]
theorem rnd_up (hb:Bl B blk idx nb n) {f g:Fs} {S:List St} (h:Rnd f S g) (hk : ∀ x∈S,BSt B p nb x):Rnd (upF B blk idx f) (S.flatMap (exX B)) (upF B blk idx g):=by
 refine⟨fun y hy=>?_,fun q s hq hs hn=>?_⟩
 ·obtain ⟨x,hx,hy⟩:=List.mem_flatMap.1 hy
  obtain ⟨j,hj,rfl⟩:=QL hy;have hx' := hk x hx;have ho:=hx'.ok;have a:=h.put x hx;have hj2:j<(B x.ds).length:=by rw[<- hx'.len];exact hj
  dsimp only;rw[up_at hb f x.fr ho.sr.1 ho.sr.2 hj,up_at hb f x.to ho.ds.1 ho.ds.2 hj2,up_at hb g x.to ho.ds.1 ho.ds.2 hj2,join_map,a.2.2];refine⟨fun e=>a.1 (List.map_eq_nil_iff.1 e), ?_,rfl⟩;rw[List.length_map];exact a.2.1
 ·have e:g q (blk s)=f q (blk s):=by
   refine h.keep q (blk s) hq (hb.nn s hs) (fun x hx e=>?_);obtain ⟨e1,e2⟩:=e;have hx' := hk x hx;have h1:=hb.at' s hs (by have:=hx'.ok.ds;omega);have hl:idx s<(B (blk s)).length:=(List.getElem?_eq_some_iff.1 h1).1;refine hn ⟨x.rd,x.fr,x.to,(B x.sr)[idx s]!,(B x.ds)[idx s]!,x.jn⟩ (List.mem_flatMap.2 ⟨x,hx, ?_⟩) ⟨e1, ?_⟩
   ·unfold exX
    exact List.mem_map.2 ⟨idx s,List.mem_range.2 (by rw[hx'.len,e2];exact hl),rfl⟩
   ·show (B x.ds)[idx s]! = s
    rw[e2];have:=uF hl;rw[h1] at this;exact (Option.some.inj this).symm
  unfold upF;rw[e]
theorem run_up (hb:Bl B blk idx nb n) : ∀ {rs:List (List St)} {f h:Fs},Run f rs h->(∀ S∈rs, ∀ x∈S,BSt B p nb x)->Run (upF B blk idx f) (rs.map (fun S=>S.flatMap (exX B))) (upF B blk idx h)
 | _,_,_, .nil f,_=>.nil _
 | _,_,_, .cons a b,hk=>.cons (rnd_up hb a (hk _ List.mem_cons_self)) (run_up hb b (fun S hS=>hk S (List.mem_cons_of_mem _ hS)))
theorem rs_up (hb:Bl B blk idx nb n) {rs:List (List St)} (h:RsOk p nb rs) (hk : ∀ S∈rs, ∀ x∈S,BSt B p nb x):RsOk p n (rs.map (fun S=>S.flatMap (exX B))):=by
 refine⟨by rw[List.length_map];exact h.len,fun i hi y hy=>?_,fun S hS=>?_,fun S hS y hy=>?_⟩
 ·rw[List.getElem_map] at hy
  obtain ⟨x,hx,hy⟩:=List.mem_flatMap.1 hy;obtain ⟨j,hj,rfl⟩:=QL hy;exact h.rd i (by simpa using hi) x hx
 ·obtain ⟨S,hm,rfl⟩:=List.mem_map.1 hS
  rw[List.pairwise_flatMap];refine⟨fun x hx=>?_,(h.fit S hm).imp_of_mem (fun {x y} hx hy hf=>?_)⟩
  ·have hx' := hk S hm x hx
   unfold exX;rw[List.pairwise_map];refine List.pairwise_lt_range.imp_of_mem (fun {i j} hi hj hij _=>?_);have hi:=List.mem_range.1 hi;have hj:=List.mem_range.1 hj;refine⟨fun e=>?_,fun _ _=>⟨fun _=>rfl,fun _=>rfl⟩⟩;have a:=hb.un x.ds i _ hx'.ok.ds.1 hx'.ok.ds.2 (uF (by rw[<- hx'.len];exact hi));have b:=hb.un x.ds j _ hx'.ok.ds.1 hx'.ok.ds.2 (uF (by rw[<- hx'.len];exact hj));have e2:(B x.ds)[i]! = (B x.ds)[j]! := e.2;rw[e2] at a;omega
  ·intro a ha b hb'
   obtain ⟨i,hi,rfl⟩:=QL ha;obtain ⟨j,hj,rfl⟩:=QL hb';have hx' := hk S hm x hx;have hy' := hk S hm y hy;intro e;refine⟨fun e1=>?_,(hf e).2⟩;have a:=hb.un x.ds i _ hx'.ok.ds.1 hx'.ok.ds.2 (uF (by rw[<- hx'.len];exact hi));have b:=hb.un y.ds j _ hy'.ok.ds.1 hy'.ok.ds.2 (uF (by rw[<- hy'.len];exact hj));have e2:(B x.ds)[i]! = (B y.ds)[j]! := e1.2;rw[e2] at a;exact (hf e).1 ⟨e1.1,by rw[<- a.2.2.1];exact b.2.2.1⟩
 ·obtain ⟨S,hm,rfl⟩:=List.mem_map.1 hS
  obtain ⟨x,hx,hy⟩:=List.mem_flatMap.1 hy;obtain ⟨j,hj,rfl⟩:=QL hy;have hx' := hk S hm x hx;have a:=hb.un x.sr j _ hx'.ok.sr.1 hx'.ok.sr.2 (uF hj);have b:=hb.un x.ds j _ hx'.ok.ds.1 hx'.ok.ds.2 (uF (by rw[<- hx'.len];exact hj));exact⟨hx'.ok.fr,hx'.ok.to,⟨a.1,a.2.1⟩,⟨b.1,b.2.1⟩,hx'.ok.jn⟩
end
end Go.Af.Tryz
