/- A part of the proof. -/
import Derived.Test.YtmnjcogpchodhaaGreatMGI
import Derived.Test.YtmnjcogpchodhaaGreatMGC2
import Derived.Test.YtmnjcogpchodhaaGreatMHI
set_option linter.all false
set_option maxHeartbeats 4000000
set_option maxRecDepth 100000
namespace Go.Af.Tryz
open Go Go.Proofs
open Go.Af.Coll (St sndP sndR zy Ck faultF zQ busyF badP befF befL keyL)

abbrev Fs:=Int->Int->List Og
def Fit (x y:St):Prop:=x.rd=y.rd->¬ (x.to=y.to/\x.ds=y.ds)/\(x.fr≠x.to->y.fr≠y.to->(x.fr=y.fr↔x.to=y.to))
theorem Fit.symm {x y:St} (h:Fit x y):Fit y x:=fun e=>⟨fun ⟨a,b⟩=>(h e.symm).1 ⟨a.symm,b.symm⟩,fun a b=>⟨fun c=>(((h e.symm).2 b a).1 c.symm).symm,fun c=>(((h e.symm).2 b a).2 c.symm).symm⟩⟩
structure Rnd (f:Fs) (S:List St) (g:Fs):Prop where
 put : ∀ x∈S,f x.fr x.sr≠[]/\(joinL x.jn (f x.to x.ds) (f x.fr x.sr)).length<=128/\g x.to x.ds=joinL x.jn (f x.to x.ds) (f x.fr x.sr)
 keep : ∀ p s,0<=p->0<=s->(∀ x∈S, ¬ (x.to=p/\x.ds=s))->g p s=f p s
inductive Run:Fs->List (List St)->Fs->Prop
 | nil (f:Fs):Run f [] f
 | cons {f g h:Fs} {S:List St} {rs:List (List St)}:Rnd f S g->Run g rs h->Run f (S::rs) h
theorem Rnd.perm {f g:Fs} {S S' : List St} (h:Rnd f S g) (p:S.Perm S'):Rnd f S' g :=
 ⟨fun x hx=>h.put x (p.mem_iff.2 hx),fun a b ha hb hn=>h.keep a b ha hb (fun x hx=>hn x (p.mem_iff.1 hx))⟩
def Dm (tr:Tr) (p n:Int):Prop:=(tr.length:Int)=p/\∀ row∈tr,(row.length:Int)=n
theorem dm_tset {tr:Tr} {p n r s:Int} {l:List Og} (h:Dm tr p n) (hr:0<=r/\r<p):Dm (tset tr r s l) p n:=by
 refine⟨by unfold tset;rw[List.length_set];exact h.1,fun row hrow=>?_⟩;unfold tset at hrow;rcases List.mem_or_eq_of_mem_set hrow with h1 | rfl
 ·exact h.2 row h1
 ·rw[List.length_set]
  have hl:r.toNat<tr.length:=by have:=h.1;omega
  rw[getElem!_pos tr _ hl];exact h.2 _ (List.getElem_mem hl)
theorem tget_tset {tr:Tr} {p n r s r' s' : Int} {l:List Og} (h:Dm tr p n) (hr:0<=r/\r<p) (hs:0<=s/\s<n) (hr' : 0<=r') (hs' : 0<=s'):tget (tset tr r s l) r' s' = if r=r' /\ s=s' then l else tget tr r' s' := by
 have hl:r.toNat<tr.length:=by have:=h.1;omega
 have hn:s.toNat<tr[r.toNat].length:=by have:=h.2 _ (List.getElem_mem hl);omega
 unfold tget tset;rw[getElem!_pos tr r.toNat hl];by_cases h1:r=r'
 ·subst h1
  rw[getElem!_pos _ r.toNat (by rw[List.length_set];exact hl),List.getElem_set_self];by_cases h2:s=s'
  ·subst h2
   rw[if_pos ⟨rfl,rfl⟩,getElem!_pos _ s.toNat (by rw[List.length_set];exact hn),List.getElem_set_self]
  ·rw[if_neg (fun h=>h2 h.2),getElem!_pos tr r.toNat hl]
   have hne:s.toNat≠s'.toNat:=by omega
   rw[List.getElem!_eq_getElem?_getD,List.getElem!_eq_getElem?_getD,List.getElem?_set_ne hne]
 ·rw[if_neg (fun h=>h1 h.1)]
  have hne:r.toNat≠r'.toNat:=by omega
  have e:(tr.set r.toNat (tr[r.toNat].set s.toNat l))[r'.toNat]! = tr[r'.toNat]! := by
   rw[List.getElem!_eq_getElem?_getD,List.getElem!_eq_getElem?_getD,List.getElem?_set_ne hne]
  rw[e]
def putS (now nx:Tr) (S:List St):Tr:=S.foldl (fun nx x=>tset nx x.to x.ds (stpL now x)) nx
theorem putS_dm {p n:Int} {now:Tr} : ∀ {S:List St} {nx:Tr},Dm nx p n->(∀ x∈S,StOk p n x)->Dm (putS now nx S) p n
 | [],_,h,_=>h
 | x::S,_,h,hk=>putS_dm (S:=S) (dm_tset h (hk x List.mem_cons_self).to) (fun y hy=>hk y (List.mem_cons_of_mem _ hy))
theorem putS_keep {p n:Int} {now:Tr} : ∀ {S:List St} {nx:Tr},Dm nx p n->(∀ x∈S,StOk p n x)->∀ r s,0<=r->0<=s->(∀ x∈S, ¬ (x.to=r/\x.ds=s))->tget (putS now nx S) r s=tget nx r s
 | [],_,_,_,_,_,_,_,_=>rfl
 | x::S,nx,h,hk,r,s,hr,hs,hn=>by
   have hx:=hk x List.mem_cons_self;have:=putS_keep (now:=now) (S:=S) (dm_tset (l:=stpL now x) (s:=x.ds) h hx.to) (fun y hy=>hk y (List.mem_cons_of_mem _ hy)) r s hr hs (fun y hy=>hn y (List.mem_cons_of_mem _ hy));rw[show putS now nx (x::S)=putS now (tset nx x.to x.ds (stpL now x)) S from rfl,this,tget_tset h hx.to hx.ds hr hs,if_neg (hn x List.mem_cons_self)]
theorem putS_put {p n:Int} {now:Tr} : ∀ {S:List St} {nx:Tr},Dm nx p n->(∀ x∈S,StOk p n x)->S.Pairwise (fun x y=>¬ (x.to=y.to/\x.ds=y.ds))->∀ x∈S,tget (putS now nx S) x.to x.ds=stpL now x
 | [],_,_,_,_,_,hx=>by cases hx
 | y::S,nx,h,hk,hp,x,hx=>by
   have hy:=hk y List.mem_cons_self;have hd:=dm_tset (l:=stpL now y) (s:=y.ds) h hy.to;have hk' : ∀ z∈S,StOk p n z:=fun z hz=>hk z (List.mem_cons_of_mem _ hz)
   have hp' := List.pairwise_cons.1 hp;rw[show putS now nx (y::S)=putS now (tset nx y.to y.ds (stpL now y)) S from rfl];rcases List.mem_cons.1 hx with rfl | hx
   ·rw[putS_keep hd hk' x.to x.ds hy.to.1 hy.ds.1 (fun z hz e=>hp'.1 z hz ⟨e.1.symm,e.2.symm⟩),tget_tset h hy.to hy.ds hy.to.1 hy.ds.1,if_pos ⟨rfl,rfl⟩]
   ·exact putS_put hd hk' hp'.2 x hx
theorem goT_group {k:Int} {now:Tr} {rest:List St} : ∀ {S:List St} {nx:Tr},(∀ x∈S,x.rd=k)->(∀ x∈S,tget now x.fr x.sr≠[]/\(stpL now x).length<=128)->goT (some k) now nx (S++rest)=goT (some k) now (putS now nx S) rest
 | [],_,_,_=>rfl
 | x::S,nx,hk,ho=>by
   have hx:=ho x List.mem_cons_self;have hr:=hk x List.mem_cons_self;subst hr;rw[List.cons_append,goT_same (fun h=>h.elim hx.1 (by omega)),goT_group (fun y hy=>hk y (List.mem_cons_of_mem _ hy)) (fun y hy=>ho y (List.mem_cons_of_mem _ hy))];rfl
theorem goT_run {p n:Int} : ∀ {gs:List (List St)} {k0:Int} {f h:Fs} {r:Option Int} {now nx:Tr},Run f gs h->(∀ i (hi:i<gs.length), ∀ x∈gs[i],x.rd=k0+(i:Int))->(∀ S∈gs,S.Pairwise Fit)->(∀ S∈gs, ∀ x∈S,StOk p n x)->Dm nx p n->(∀ a b,0<=a->0<=b->tget nx a b=f a b)->(∀ k,r=some k->k<k0)->∃ tr,goT r now nx gs.flatten=some tr/\Dm tr p n/\∀ a b,0<=a->0<=b->tget tr a b=h a b
 | [],_,_,_,_,_,nx,hr,_,_,_,hd,he,_=>by
   cases hr;exact⟨nx,rfl,hd,he⟩
 | []::gs,k0,f,h,r,now,nx,hr,hk,hp,ho,hd,he,hq=>by
   cases hr with
   | cons h1 h2 =>
     exact goT_run (gs:=gs) (k0:=k0+1) h2 (fun i hi x hx=>by have:=hk (i+1) (by simpa using hi) x (by simpa using hx);omega) (fun S hS=>hp S (List.mem_cons_of_mem _ hS)) (fun S hS=>ho S (List.mem_cons_of_mem _ hS)) hd (fun a b ha hb=>by rw[he a b ha hb,h1.keep a b ha hb (fun x hx=>by cases hx)]) (fun k hk=>by have:=hq k hk;omega)
 | (x::S)::gs,k0,f,h,r,now,nx,hr,hk,hp,ho,hd,he,hq=>by
   cases hr with
   | @cons _ g _ _ _ h1 h2 =>
     have hS : ∀ y∈x::S,y.rd=k0:=fun y hy=>by have:=hk 0 (by simp) y (by simpa using hy);simpa using this
     have hx:=hS x List.mem_cons_self;have hoS:=ho _ List.mem_cons_self
     have hpl:(x::S).Pairwise (fun x y=>¬ (x.to=y.to/\x.ds=y.ds)):=by
      refine (List.Pairwise.imp_of_mem (fun {a b} ha hb hf=>(hf ?_).1) (hp _ List.mem_cons_self));rw[hS a ha,hS b hb]
     have hval : ∀ y∈x::S,tget nx y.fr y.sr=f y.fr y.sr/\stpL nx y=joinL y.jn (f y.to y.ds) (f y.fr y.sr):=fun y hy=>by
      have:=hoS y hy;have a:=he y.fr y.sr this.fr.1 this.sr.1;refine⟨a, ?_⟩;unfold stpL;rw[a,he y.to y.ds this.to.1 this.ds.1]
     have hg:=goT_group (now:=nx) (rest:=gs.flatten) (S:=x::S) (nx:=nx) hS (fun y hy=>by
      have:=h1.put y hy;rw[(hval y hy).1,(hval y hy).2]
      exact⟨this.1,this.2.1⟩)
     obtain ⟨tr,e1,e2,e3⟩:=goT_run (gs:=gs) (k0:=k0+1) (r:=some k0) (now:=nx) (nx:=putS nx nx (x::S)) h2 (fun i hi x hx=>by have:=hk (i+1) (by simpa using hi) x (by simpa using hx);omega) (fun S hS=>hp S (List.mem_cons_of_mem _ hS)) (fun S hS=>ho S (List.mem_cons_of_mem _ hS)) (putS_dm hd hoS) (fun a b ha hb=>by
      by_cases hm : ∃ y∈x::S,y.to=a/\y.ds=b
      ·obtain ⟨y,hy,rfl,rfl⟩:=hm
       rw[putS_put hd hoS hpl y hy,(h1.put y hy).2.2,(hval y hy).2]
      ·have hm : ∀ y∈x::S, ¬ (y.to=a/\y.ds=b):=fun y hy e=>hm ⟨y,hy,e⟩
       rw[putS_keep hd hoS a b ha hb hm,h1.keep a b ha hb hm,he a b ha hb]) (fun k hk=>by cases hk;omega)
     refine⟨tr, ?_,e2,e3⟩;rw[List.flatten_cons,List.cons_append,goT_new (fun e=>by have:=hq x.rd e;omega),<- List.cons_append];rw[<- hx] at hg e1;rw[hg,e1]
theorem split_rd : ∀ {l:List St} {k:Int},l.Pairwise (fun a b=>a.rd<=b.rd)->(∀ x∈l,k<=x.rd)->l=l.filter (fun x=>decide (x.rd=k))++l.filter (fun x=>decide (¬ x.rd=k))
 | [],_,_,_=>rfl
 | x::l,k,hs,hk=>by
   have hs' := List.pairwise_cons.1 hs;by_cases h:x.rd=k
   ·rw[List.filter_cons_of_pos (by simp[h]),List.filter_cons_of_neg (by simp[h]),List.cons_append,<- split_rd hs'.2 (fun y hy=>hk y (List.mem_cons_of_mem _ hy))]
   ·have h1:k<x.rd:=by have:=hk x List.mem_cons_self;omega
    have h2 : ∀ y∈x::l,k<y.rd:=fun y hy=>by
     rcases List.mem_cons.1 hy with rfl | hy
     ·exact h1
     ·have:=hs'.1 y hy;omega
    rw[List.filter_eq_nil_iff.2 (fun y hy=>by have:=h2 y hy;simp;omega),List.filter_eq_self.2 (fun y hy=>by have:=h2 y hy;simp;omega),List.nil_append]
inductive PmL:List (List St)->List (List St)->Prop
 | nil:PmL [] []
 | cons {S T:List St} {rs gs:List (List St)}:S.Perm T->PmL rs gs->PmL (S::rs) (T::gs)
theorem PmL.len : ∀ {rs gs:List (List St)},PmL rs gs->rs.length=gs.length
 | _,_, .nil=>rfl
 | _,_, .cons _ h=>by rw[List.length_cons,List.length_cons,h.len]
theorem PmL.at' : ∀ {rs gs:List (List St)},PmL rs gs->∀ i (h:i<rs.length) (h' : i<gs.length),rs[i].Perm gs[i]
 | _,_, .nil,_,h,_=>by simp at h
 | _,_, .cons p _,0,_,_=>p
 | _,_, .cons _ q,i+1,h,h' => q.at' i (by simpa using h) (by simpa using h')
theorem grp : ∀ {rs:List (List St)} {k0:Int} {l:List St},(∀ i (hi:i<rs.length), ∀ x∈rs[i],x.rd=k0+(i:Int))->l.Perm rs.flatten->l.Pairwise (fun a b=>a.rd<=b.rd)->∃ gs,l=gs.flatten/\PmL rs gs
 | [],_,l,_,hp,_=>⟨[],by simpa using hp, .nil⟩
 | S::rs,k0,l,hk,hp,hs=>by
   have hS : ∀ x∈S,x.rd=k0:=fun x hx=>by have:=hk 0 (by simp) x (by simpa using hx);simpa using this
   have hR : ∀ x∈rs.flatten,k0<x.rd:=fun x hx=>by
    obtain ⟨T,hT,hx⟩:=List.mem_flatten.1 hx;obtain ⟨i,hi,rfl⟩:=List.getElem_of_mem hT;have:=hk (i+1) (by simpa using hi) x (by simpa using hx);omega
   have e:=split_rd (k:=k0) hs (fun x hx=>by
    have:=hp.mem_iff.1 hx;rw[List.flatten_cons] at this;rcases List.mem_append.1 this with h | h
    ·have:=hS x h;omega
    ·have:=hR x h;omega)
   have p1:=hp.filter (fun x=>decide (x.rd=k0));have p2:=hp.filter (fun x=>decide (¬ x.rd=k0));rw[List.flatten_cons,List.filter_append] at p1 p2;have a1:S.filter (fun x=>decide (x.rd=k0))=S:=List.filter_eq_self.2 (fun x hx=>by simp[hS x hx]);have a2:rs.flatten.filter (fun x=>decide (x.rd=k0)) = []:=List.filter_eq_nil_iff.2 (fun x hx=>by have:=hR x hx;simp;omega);have a3:S.filter (fun x=>decide (¬ x.rd=k0)) = []:=List.filter_eq_nil_iff.2 (fun x hx=>by simp[hS x hx]);have a4:rs.flatten.filter (fun x=>decide (¬ x.rd=k0))=rs.flatten:=List.filter_eq_self.2 (fun x hx=>by have:=hR x hx;simp;omega);rw[a1,a2,List.append_nil] at p1;rw[a3,a4,List.nil_append] at p2;obtain ⟨gs,e2,hf⟩:=grp (rs:=rs) (k0:=k0+1) (fun i hi x hx=>by have:=hk (i+1) (by simpa using hi) x (by simpa using hx);omega) p2 (hs.sublist List.filter_sublist);refine⟨l.filter (fun x=>decide (x.rd=k0))::gs, ?_, .cons p1.symm hf⟩;rw[List.flatten_cons,<- e2];exact e
theorem run_perm : ∀ {rs gs:List (List St)} {f h:Fs},Run f rs h->PmL rs gs->Run f gs h
 | _,_,_,_, .nil f, .nil=>.nil f
 | _,_,_,_, .cons a b, .cons p q=>.cons (a.perm p) (run_perm b q)
end Go.Af.Tryz
namespace Go.Af.Tryz
open Go Go.Proofs
open Go.Af.Coll (St sndP sndR zy Ck faultF zQ busyF badP befF befL keyL emp)

theorem sndR_of {p n:Int} : ∀ {l past:List St},(past++l).Pairwise (fun a b=>befF b a=false)->(past++l).Pairwise Fit->(∀ x∈l,StOk p n x/\0<=x.rd/\x.rd<256)->sndR p n past l=0
 | [],_,_,_,_=>rfl
 | x::l,past,hs,hf,ho=>by
   have hs2:=(List.pairwise_append.1 hs).2.2;have hf2:=(List.pairwise_append.1 hf).2.2;obtain ⟨hx,h0,h1⟩:=ho x List.mem_cons_self;have hfr:=hx.fr;have hto:=hx.to;have hsr:=hx.sr;have hds:=hx.ds;have hjn:=hx.jn
   have hb:badP past.getLast? x=false:=by
    unfold badP
    cases hg:past.getLast? with
    | none=>rfl
    | some y =>
      have hy:=List.mem_of_getLast? hg;have a:=hs2 y hy x List.mem_cons_self;have b:=hf2 y hy x List.mem_cons_self;show (!befF y x)=false;rcases befL_tri (keyL y) (keyL x) rfl with c | c | c
      ·have c' : befF y x=true:=c
       rw[c'];rfl
      ·exfalso
       unfold keyL at c;have:y.rd=x.rd/\y.fr=x.fr/\y.to=x.to/\y.sr=x.sr/\y.ds=x.ds:=by simpa using c
       exact (b this.1).1 ⟨this.2.2.1,this.2.2.2.2⟩
      ·have c' : befF x y=true:=c
       rw[a] at c'; cases c'
   have hself:zy p n past.getLast? x=0:=by
    unfold zy;rw[if_neg (by omega),if_neg (by omega),if_neg (by omega),if_neg (by rw[hb];simp;omega)]
   have htw:zQ past x=false:=by
    unfold zQ;rw[List.any_eq_false];intro y hy;have b:=hf2 y hy x List.mem_cons_self;simp only[Bool.and_eq_true,decide_eq_true_eq];exact fun e=>(b e.1).1 ⟨e.2.1,e.2.2⟩
   have hbu:busyF past x=false:=by
    unfold busyF;rw[List.any_eq_false];intro y hy;have b:=hf2 y hy x List.mem_cons_self;simp only[Bool.and_eq_true,Bool.or_eq_true,decide_eq_true_eq];rintro ⟨e,a1,a2,a3⟩;have c:=(b e).2 a2 a1;rcases a3 with ⟨u,v⟩ | ⟨u,v⟩
    ·exact v (c.1 u)
    ·exact v (c.2 u)
   have hfa:faultF p n past x=0:=by
    unfold faultF;rw[if_neg (by rw[hself];simp),htw,hbu];rfl
   rw[sndR,if_neg (by rw[hfa];simp)];refine sndR_of (past:=past ++ [x]) ?_ ?_ (fun y hy=>ho y (List.mem_cons_of_mem _ hy))
   ·rw[List.append_assoc];exact hs
   ·rw[List.append_assoc];exact hf
theorem bef_le {l:List St} (h:l.Pairwise (fun a b=>befF b a=false)):l.Pairwise (fun a b=>a.rd<=b.rd):=by
 refine h.imp (fun {a b} h=>?_);rcases befL_tri (keyL a) (keyL b) rfl with c | c | c
 ·exact Go.Af.Coll.bef_rd c
 ·unfold keyL at c
  have:a.rd=b.rd/\a.fr=b.fr/\a.to=b.to/\a.sr=b.sr/\a.ds=b.ds:=by simpa using c
  omega
 ·have c' : befF b a=true:=c
  rw[h] at c'; cases c'
structure RsOk (p n:Int) (rs:List (List St)):Prop where
 len:rs.length<=256
 rd : ∀ i (hi:i<rs.length), ∀ x∈rs[i],x.rd=(i:Int)
 fit : ∀ S∈rs,S.Pairwise Fit
 ok : ∀ S∈rs, ∀ x∈S,StOk p n x
theorem fit_flat {p n:Int} {rs:List (List St)} (h:RsOk p n rs):rs.flatten.Pairwise Fit:=by
 rw[List.pairwise_flatten];refine⟨h.fit, ?_⟩;rw[List.pairwise_iff_getElem];intro i j hi hj hij x hx y hy e;have a:=h.rd i hi x hx;have b:=h.rd j hj y hy;omega
theorem dm_st {t:Tk} (hp:0<=t.pr) (hn:0<=sltF t):Dm (stT t) t.pr (sltF t):=by
 unfold stT;refine⟨by simp;omega,fun row hrow=>?_⟩;obtain ⟨r,_,rfl⟩:=List.mem_map.1 hrow;have:=(stR_dim t (sltF t).toNat (r:Int)).1;rw[this];omega
theorem good_run {t:Tk} {rs:List (List St)} {f h:Fs} {l:List St} (hc:chkF t=0) (hp:0<=t.pr) (hn:0<=sltF t) (hr:RsOk t.pr (sltF t) rs) (run:Run f rs h) (init : ∀ a b,0<=a->0<=b->tget (stT t) a b=f a b) (pm:l.Perm rs.flatten) (hs:l.Pairwise (fun a b=>befF b a=false)) :
 sndF t l=0/\∃ tr,trcF t l=some tr/\∀ a b,0<=a->0<=b->tget tr a b=h a b:=by
 have hok : ∀ x∈rs.flatten,StOk t.pr (sltF t) x/\0<=x.rd/\x.rd<256:=fun x hx=>by
  obtain ⟨S,hS,hx⟩:=List.mem_flatten.1 hx;refine⟨hr.ok S hS x hx, ?_⟩;obtain ⟨i,hi,rfl⟩:=List.getElem_of_mem hS;have:=hr.rd i hi x hx;have:=hr.len;omega
 refine⟨?_, ?_⟩
 ·unfold sndF
  rw[if_neg (by rw[hc];simp),snd_ref];refine sndR_of (past := []) (by rw[List.nil_append];exact hs) ?_ (fun x hx=>hok x (pm.mem_iff.1 hx));rw[List.nil_append];exact (pm.pairwise_iff (fun {x y} h=>h.symm)).2 (fit_flat hr)
 ·obtain ⟨gs,rfl,hf⟩:=grp (k0:=0) (fun i hi x hx=>by have:=hr.rd i hi x hx;omega) pm (bef_le hs)
  have hlen:=hf.len;have hpm : ∀ i (hi:i<gs.length) (hi' : i<rs.length),rs[i].Perm gs[i]:=fun i hi hi' => hf.at' i hi' hi
  obtain ⟨tr,e1,_,e3⟩:=goT_run (p:=t.pr) (n:=sltF t) (k0:=0) (r:=none) (now:=stT t) (nx:=stT t) (run_perm run hf) (fun i hi x hx=>by
   have:=hr.rd i (by omega) x ((hpm i hi (by omega)).mem_iff.2 hx)
   omega) (fun S hS=>by
   obtain ⟨i,hi,rfl⟩:=List.getElem_of_mem hS
   exact ((hpm i hi (by omega)).pairwise_iff (fun {x y} h=>h.symm)).1 (hr.fit _ (List.getElem_mem (by omega)))) (fun S hS x hx=>by
   obtain ⟨i,hi,rfl⟩:=List.getElem_of_mem hS
   exact hr.ok _ (List.getElem_mem (by omega)) x ((hpm i hi (by omega)).mem_iff.2 hx)) (dm_st hp hn) init (fun k hk=>by cases hk)
  exact⟨tr,e1,e3⟩
end Go.Af.Tryz
namespace Go.Af.Tryz
open Go Go.Proofs
open Go.Af.Coll (St)

structure Bl (B:Int->List Int) (blk:Int->Int) (idx:Int->Nat) (nb n:Int):Prop where
 nn : ∀ s,0<=s->0<=blk s
 at' : ∀ s,0<=s->blk s<nb->(B (blk s))[idx s]? = some s
 un : ∀ b j s,0<=b->b<nb->(B b)[j]? = some s->0<=s/\s<n/\blk s=b/\idx s=j
def exX (B:Int->List Int) (x:St):List St:=(List.range (B x.sr).length).map (fun j=>⟨x.rd,x.fr,x.to,(B x.sr)[j]!,(B x.ds)[j]!,x.jn⟩)
def upF (B:Int->List Int) (blk:Int->Int) (idx:Int->Nat) (f:Fs):Fs:=fun p s=>(f p (blk s)).map (fun o=>(o.1,(B o.2)[idx s]!))
theorem mem_exX {B:Int->List Int} {x y:St} (h:y∈exX B x) : ∃ j,j<(B x.sr).length/\y=⟨x.rd,x.fr,x.to,(B x.sr)[j]!,(B x.ds)[j]!,x.jn⟩:=by
 unfold exX at h;obtain ⟨j,hj,rfl⟩:=List.mem_map.1 h;exact⟨j,List.mem_range.1 hj,rfl⟩
theorem join_map (φ : Og->Og) (j:Int) (a b:List Og):joinL j (a.map φ) (b.map φ)=(joinL j a b).map φ := by
 unfold joinL;split
 ·rfl
 ·split
  ·rw[List.map_append]
  ·rw[List.map_append]
structure BSt (B:Int->List Int) (p nb:Int) (x:St):Prop where
 ok:StOk p nb x
 len:(B x.sr).length=(B x.ds).length
section
variable {B:Int->List Int} {blk:Int->Int} {idx:Int->Nat} {nb n p:Int}
theorem get_in {l:List Int} {j:Nat} (h:j<l.length):l[j]? = some l[j]! := by
 rw[getElem!_pos l j h];exact List.getElem?_eq_getElem h
theorem up_at (hb:Bl B blk idx nb n) (f:Fs) (q:Int) {b:Int} {j:Nat} (h0:0<=b) (h1:b<nb) (hj:j<(B b).length):upF B blk idx f q (B b)[j]! = (f q b).map (fun o=>(o.1,(B o.2)[j]!)):=by
 have:=hb.un b j _ h0 h1 (get_in hj);unfold upF;rw[this.2.2.1,this.2.2.2]
theorem rnd_up (hb:Bl B blk idx nb n) {f g:Fs} {S:List St} (h:Rnd f S g) (hk : ∀ x∈S,BSt B p nb x):Rnd (upF B blk idx f) (S.flatMap (exX B)) (upF B blk idx g):=by
 refine⟨fun y hy=>?_,fun q s hq hs hn=>?_⟩
 ·obtain ⟨x,hx,hy⟩:=List.mem_flatMap.1 hy
  obtain ⟨j,hj,rfl⟩:=mem_exX hy;have hx' := hk x hx;have ho:=hx'.ok;have a:=h.put x hx;have hj2:j<(B x.ds).length:=by rw[<- hx'.len];exact hj
  dsimp only;rw[up_at hb f x.fr ho.sr.1 ho.sr.2 hj,up_at hb f x.to ho.ds.1 ho.ds.2 hj2,up_at hb g x.to ho.ds.1 ho.ds.2 hj2,join_map,a.2.2];refine⟨fun e=>a.1 (List.map_eq_nil_iff.1 e), ?_,rfl⟩;rw[List.length_map];exact a.2.1
 ·have e:g q (blk s)=f q (blk s):=by
   refine h.keep q (blk s) hq (hb.nn s hs) (fun x hx e=>?_);obtain ⟨e1,e2⟩:=e;have hx' := hk x hx;have h1:=hb.at' s hs (by have:=hx'.ok.ds;omega);have hl:idx s<(B (blk s)).length:=(List.getElem?_eq_some_iff.1 h1).1;refine hn ⟨x.rd,x.fr,x.to,(B x.sr)[idx s]!,(B x.ds)[idx s]!,x.jn⟩ (List.mem_flatMap.2 ⟨x,hx, ?_⟩) ⟨e1, ?_⟩
   ·unfold exX
    exact List.mem_map.2 ⟨idx s,List.mem_range.2 (by rw[hx'.len,e2];exact hl),rfl⟩
   ·show (B x.ds)[idx s]! = s
    rw[e2];have:=get_in hl;rw[h1] at this;exact (Option.some.inj this).symm
  unfold upF;rw[e]
theorem run_up (hb:Bl B blk idx nb n) : ∀ {rs:List (List St)} {f h:Fs},Run f rs h->(∀ S∈rs, ∀ x∈S,BSt B p nb x)->Run (upF B blk idx f) (rs.map (fun S=>S.flatMap (exX B))) (upF B blk idx h)
 | _,_,_, .nil f,_=>.nil _
 | _,_,_, .cons a b,hk=>.cons (rnd_up hb a (hk _ List.mem_cons_self)) (run_up hb b (fun S hS=>hk S (List.mem_cons_of_mem _ hS)))
theorem rs_up (hb:Bl B blk idx nb n) {rs:List (List St)} (h:RsOk p nb rs) (hk : ∀ S∈rs, ∀ x∈S,BSt B p nb x):RsOk p n (rs.map (fun S=>S.flatMap (exX B))):=by
 refine⟨by rw[List.length_map];exact h.len,fun i hi y hy=>?_,fun S hS=>?_,fun S hS y hy=>?_⟩
 ·rw[List.getElem_map] at hy
  obtain ⟨x,hx,hy⟩:=List.mem_flatMap.1 hy;obtain ⟨j,hj,rfl⟩:=mem_exX hy;exact h.rd i (by simpa using hi) x hx
 ·obtain ⟨S,hm,rfl⟩:=List.mem_map.1 hS
  rw[List.pairwise_flatMap];refine⟨fun x hx=>?_,(h.fit S hm).imp_of_mem (fun {x y} hx hy hf=>?_)⟩
  ·have hx' := hk S hm x hx
   unfold exX;rw[List.pairwise_map];refine List.pairwise_lt_range.imp_of_mem (fun {i j} hi hj hij _=>?_);have hi:=List.mem_range.1 hi;have hj:=List.mem_range.1 hj;refine⟨fun e=>?_,fun _ _=>⟨fun _=>rfl,fun _=>rfl⟩⟩;have a:=hb.un x.ds i _ hx'.ok.ds.1 hx'.ok.ds.2 (get_in (by rw[<- hx'.len];exact hi));have b:=hb.un x.ds j _ hx'.ok.ds.1 hx'.ok.ds.2 (get_in (by rw[<- hx'.len];exact hj));have e2:(B x.ds)[i]! = (B x.ds)[j]! := e.2;rw[e2] at a;omega
  ·intro a ha b hb'
   obtain ⟨i,hi,rfl⟩:=mem_exX ha;obtain ⟨j,hj,rfl⟩:=mem_exX hb';have hx' := hk S hm x hx;have hy' := hk S hm y hy;intro e;refine⟨fun e1=>?_,(hf e).2⟩;have a:=hb.un x.ds i _ hx'.ok.ds.1 hx'.ok.ds.2 (get_in (by rw[<- hx'.len];exact hi));have b:=hb.un y.ds j _ hy'.ok.ds.1 hy'.ok.ds.2 (get_in (by rw[<- hy'.len];exact hj));have e2:(B x.ds)[i]! = (B y.ds)[j]! := e1.2;rw[e2] at a;exact (hf e).1 ⟨e1.1,by rw[<- a.2.2.1];exact b.2.2.1⟩
 ·obtain ⟨S,hm,rfl⟩:=List.mem_map.1 hS
  obtain ⟨x,hx,hy⟩:=List.mem_flatMap.1 hy;obtain ⟨j,hj,rfl⟩:=mem_exX hy;have hx' := hk S hm x hx;have a:=hb.un x.sr j _ hx'.ok.sr.1 hx'.ok.sr.2 (get_in hj);have b:=hb.un x.ds j _ hx'.ok.ds.1 hx'.ok.ds.2 (get_in (by rw[<- hx'.len];exact hj));exact⟨hx'.ok.fr,hx'.ok.to,⟨a.1,a.2.1⟩,⟨b.1,b.2.1⟩,hx'.ok.jn⟩
end
end Go.Af.Tryz
