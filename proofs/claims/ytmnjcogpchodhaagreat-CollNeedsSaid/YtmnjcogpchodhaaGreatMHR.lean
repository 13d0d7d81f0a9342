/- A part of the proof. -/
import Derived.Test.YtmnjcogpchodhaaGreatMHH
import Derived.Test.YtmnjcogpchodhaaGreatMHI
set_option linter.all false
set_option maxHeartbeats 4000000
set_option maxRecDepth 100000
namespace Go.Af.Tryz
open Go Go.Proofs
open Go.Af.Coll (St befF befL keyL)

def JC (ms:List Msg):Prop := ∃ f:Int->Int->Int, ∀ m∈ms,m.jn=f m.fr m.to
theorem JC.const {ms:List Msg} (c:Int) (h : ∀ m∈ms,m.jn=c):JC ms:=⟨fun _ _=>c,h⟩
theorem sort_eq : ∀ {xs ys:List St},xs.Perm ys->xs.Pairwise (fun a b=>befF b a=false)->ys.Pairwise (fun a b=>befF b a=false)->(∀ x∈xs, ∀ y∈xs,keyL x=keyL y->x=y)->xs=ys
 | [],ys,p,_,_,_=>by rw[List.nil_perm.1 p]
 | x::xs,[],p,_,_,_=>by have:=p.length_eq;simp at this
 | x::xs,y::ys,p,hx,hy,hk=>by
   have hxy:x=y:=by
    have h1:x∈y::ys:=p.mem_iff.1 List.mem_cons_self;have h2:y∈x::xs:=p.mem_iff.2 List.mem_cons_self;rcases List.mem_cons.1 h1 with h1 | h1
    ·exact h1
    ·rcases List.mem_cons.1 h2 with h2 | h2
     ·exact h2.symm
     ·have a:=(List.pairwise_cons.1 hx).1 y h2
      have b:=(List.pairwise_cons.1 hy).1 x h1;refine hk x List.mem_cons_self y (List.mem_cons_of_mem _ h2) ?_;unfold befF at a b;rcases Qp (keyL x) (keyL y) rfl with c | c | c
      ·rw[b] at c;cases c
      ·exact c
      ·rw[a] at c;cases c
   subst hxy;rw[sort_eq ((List.perm_cons x).1 p) (List.pairwise_cons.1 hx).2 (List.pairwise_cons.1 hy).2 (fun a ha b hb=>hk a (List.mem_cons_of_mem _ ha) b (List.mem_cons_of_mem _ hb))]
theorem mem_stM {r:Int} {m:Msg} {x:St} (h:x∈stM r m):x.rd=r/\x.fr=m.fr/\x.to=m.to/\x.jn=m.jn:=by
 unfold stM at h;obtain ⟨i,_,rfl⟩:=List.mem_map.1 h;exact⟨rfl,rfl,rfl,rfl⟩
theorem ZM {x:St} : ∀ {rs:List (List Msg)} {r:Nat},x∈stsF r rs->∃ i, ∃ h:i<rs.length,x.rd=((r+i:Nat):Int)/\∃ m∈rs[i],x.fr=m.fr/\x.to=m.to/\x.jn=m.jn
 | [],_,h=>by cases h
 | ms::rs,r,h=>by
   rw[stsF] at h;rcases List.mem_append.1 h with h | h
   ·obtain ⟨m,hm,h⟩:=List.mem_flatMap.1 h
    have:=mem_stM h;exact⟨0,by simp,this.1,m,hm,this.2⟩
   ·obtain ⟨i,hi,h1,h2⟩:=ZM h
    exact⟨i+1,by rw[List.length_cons];omega,by rw[h1];congr 1;omega,by simpa using h2⟩
theorem key_inj {x y:St} (h:keyL x=keyL y):x.rd=y.rd/\x.fr=y.fr/\x.to=y.to/\x.sr=y.sr/\x.ds=y.ds:=by
 unfold keyL at h
 simpa using h
theorem keys_ok {rs:List (List Msg)} {r:Nat} (h : ∀ ms∈rs,JC ms) : ∀ x∈stsF r rs, ∀ y∈stsF r rs,keyL x=keyL y->x=y:=by
 intro x hx y hy hk;obtain ⟨h1,h2,h3,h4,h5⟩:=key_inj hk;obtain ⟨i,hi,a1,m,hm,a2,a3,a4⟩:=ZM hx;obtain ⟨j,hj,b1,q,hq,b2,b3,b4⟩:=ZM hy;have hij:i=j:=by rw[a1,b1] at h1;omega
 subst hij;obtain ⟨f,hf⟩:=h _ (List.getElem_mem hi);have h6:x.jn=y.jn:=by rw[a4,b4,hf m hm,hf q hq,<- a2,<- a3,<- b2,<- b3,h2,h3]
 cases x;cases y;simp only at h1 h2 h3 h4 h5 h6;subst h1;subst h2;subst h3;subst h4;subst h5;subst h6;rfl
theorem xg {ms:Int->List Msg} {p:Int} (h : ∀ i,JC (ms i)) : ∀ q∈vI ms p,JC q:=fun q hq=>by
 unfold vI at hq;obtain ⟨i,_,rfl⟩:=List.mem_map.1 hq;exact h _
theorem Vb {ms:Int->List Msg} {p:Int} (h : ∀ i,JC (ms i)) : ∀ q∈powF ms p,JC q:=fun q hq=>by
 unfold powF at hq;obtain ⟨i,_,rfl⟩:=List.mem_map.1 hq;exact h _
theorem Wy {t:Tk} {mk:Int->Int->Msg} {i:Int} (c:Int) (h : ∀ r,(mk i r).jn=c):JC (evF t mk i):=JC.const c (fun m hm=>by
 unfold evF at hm;obtain ⟨r,_,rfl⟩:=List.mem_map.1 hm
 exact h _)
theorem XG {l:List Int} {f:Int->Msg} (c:Int) (h : ∀ x,(f x).jn=c):JC (l.map f):=JC.const c (fun m hm=>by
 obtain ⟨r,_,rfl⟩:=List.mem_map.1 hm
 exact h _)
theorem Wx {l:List Int} {g:Int->List Msg} (c:Int) (h : ∀ x, ∀ m∈g x,m.jn=c):JC (l.flatMap g):=JC.const c (fun m hm=>by
 obtain ⟨r,_,hm⟩:=List.mem_flatMap.1 hm
 exact h _ m hm)
theorem XH {a b:List (List Msg)} (ha : ∀ q∈a,JC q) (hb : ∀ q∈b,JC q) : ∀ q∈a++b,JC q:=fun q hq=>(List.mem_append.1 hq).elim (ha q) (hb q)
theorem mb_lt {e i j:Int} (h0:0<=e):i<j↔mbF e i<mbF e j:=by unfold mbF;split <;> split <;> omega
theorem if_jc {p:Prop} [Decidable p] {a b:List (List Msg)} (h1 : ∀ q∈a,JC q) (h2 : ∀ q∈b,JC q) : ∀ q∈(if p then a else b),JC q:=by
 split
 ·exact h1
 ·exact h2
theorem jc_all (t:Tk) (a:Int) (kt:TkOk t) : ∀ q∈qZ t a,JC q:=by
 have one : ∀ m:Msg,JC [m]:=fun m=>JC.const m.jn (fun q hq=>by rcases List.mem_singleton.1 hq with rfl;rfl)
 have o1:=xg (p:=t.pr) (ms:=bcL t) (fun i=>one _);have o2:=Vb (p:=t.pr) (ms:=bcT t) (fun i=>XG 0 (fun x=>rfl))
 have o3 : ∀ q∈chnF t,JC q:=fun q hq=>by
  unfold chnF at hq;split at hq
  ·cases hq
  ·obtain ⟨i,_,rfl⟩:=List.mem_map.1 hq
   refine Wx (if t.op=2 then 2 else 0) (fun x m hm=>?_);unfold chG at hm;split at hm
   ·rcases List.mem_singleton.1 hm with rfl
    unfold chM;split <;> rfl
   ·cases hm
 have o4 : ∀ of, ∀ q∈zx t of,JC q:=fun of q hq=>by
  unfold zx at hq;obtain ⟨i,_,rfl⟩:=List.mem_map.1 hq;refine Wx 0 (fun x m hm=>?_);unfold deG at hm;obtain ⟨y,_,rfl⟩:=List.mem_map.1 hm;rfl
 have o5:=xg (p:=t.pr) (ms:=evF t (Wu t)) (fun i=>Wy 0 (fun r=>rfl));have o6:=xg (p:=t.pr) (ms:=rdL t) (fun i=>by unfold rdL;split <;> exact one _);have o7:=Vb (p:=t.pr) (ms:=rdT t) (fun i=>XG 2 (fun x=>rfl));have o8:=xg (p:=t.pr) (ms:=evF t (Ws t)) (fun i=>Wy 1 (fun r=>rfl));have o9:=xg (p:=t.pr) (ms:=evF t (Wq t)) (fun i=>Wy 0 (fun r=>rfl));have o10:=xg (p:=t.pr) (ms:=scL t) (fun i=>one _);have o11:=Vb (p:=t.pr) (ms:=scD t) (fun i=>XG 1 (fun x=>rfl));have o12:=xg (p:=t.pr) (ms:=gaL t) (fun i=>one _)
 have o13:=Vb (p:=t.pr) (ms:=gaT t) (fun i=>Wx 0 (fun x m hm=>by
  unfold gaG at hm;obtain ⟨y,_,rfl⟩:=List.mem_map.1 hm
  rfl))
 have o14:=xg (p:=t.pr) (ms:=stL t) (fun i=>one _);have o15:=xg (p:=t.pr) (ms:=evF t (ZQ t)) (fun i=>Wy 0 (fun r=>rfl));have o16:=Vb (p:=t.pr) (ms:=evF t (Vs t)) (fun i=>Wy 0 (fun r=>rfl));have o17:=Vb (p:=t.pr) (ms:=evF t (QM t)) (fun i=>Wy 0 (fun r=>rfl))
 have o18 : ∀ pf, ∀ q∈prsF t pf,JC q:=fun pf q hq=>by
  unfold prsF at hq;obtain ⟨i,_,rfl⟩:=List.mem_map.1 hq;exact Wy 0 (fun r=>rfl)
 have o19 : ∀ pf,JC (buT t pf):=fun pf=>Wx 0 (fun x m hm=>by
  unfold buG at hm;obtain ⟨y,_,rfl⟩:=List.mem_map.1 hm
  rfl)
 have o20:=Vb (p:=t.pr) (ms:=evF t (yA t)) (fun i=>Wy 0 (fun r=>rfl));have o21:=xg (p:=t.pr) (ms:=evF t (ZP t)) (fun i=>Wy 1 (fun r=>rfl));have o22:=xg (p:=t.pr) (ms:=evF t (ZO t)) (fun i=>Wy 2 (fun r=>rfl))
 have o23 : ∀ q∈hlvF t,JC q:=fun q hq=>by
  unfold hlvF at hq;obtain ⟨h,_,rfl⟩:=List.mem_map.1 hq;refine⟨sidF,fun m hm=>?_⟩;unfold evF at hm;obtain ⟨r,_,rfl⟩:=List.mem_map.1 hm;rfl
 have o24:=Vb (p:=t.pr) (ms:=evF t (ZN t)) (fun i=>Wy 2 (fun r=>rfl))
 have o25 : ∀ q∈hloF t,JC q:=fun q hq=>by
  unfold hloF at hq;obtain ⟨j,_,rfl⟩:=List.mem_map.1 hq;refine Wx 0 (fun x m hm=>?_);unfold haG at hm;split at hm
  ·cases hm
  ·rcases List.mem_singleton.1 hm with rfl
   rfl
 have hcp:=cp_rng kt.pr
 have he:0<=exF t:=by
  have:exF t=t.pr-cpF t:=rfl;have:cpF t=(2:Int) ^ flF t.pr:=rfl;omega
 have o26 : ∀ q∈dblF t,JC q:=fun q hq=>by
  have hX : ∀ m:List Msg,JC m->∀ q∈(dbX t m).flatten,JC q:=fun m hm q hq=>by
   unfold dbX at hq;split at hq
   ·simp at hq;subst hq;exact hm
   ·simp at hq
  unfold dblF dbQ at hq;rw[List.flatten_append,List.flatten_append] at hq;rcases List.mem_append.1 hq with hq | hq
  ·rcases List.mem_append.1 hq with hq | hq
   ·exact hX _ (XG 2 (fun x=>rfl)) q hq
   ·obtain ⟨l,hl,hq⟩:=List.mem_flatten.1 hq
    obtain ⟨j,_,rfl⟩:=List.mem_map.1 hl;rcases List.mem_singleton.1 hq with rfl
    refine⟨sidF,fun m hm=>?_⟩;unfold dbR at hm;obtain ⟨x,_,rfl⟩:=List.mem_map.1 hm;show sidF x (xorF x ((2:Int) ^ j))=sidF (mbF (exF t) x) (mbF (exF t) (xorF x ((2:Int) ^ j)));unfold sidF;simp only[<- mb_lt he]
  ·exact hX _ (XG 0 (fun x=>rfl)) q hq
 have ob : ∀ pf, ∀ q∈[buT t pf],JC q:=fun pf q hq=>by rcases List.mem_singleton.1 hq with rfl;exact o19 pf
 unfold qZ
 repeat' (first|exact o1 |exact o2 |exact o3 |exact (XH (o4 _) o5) |exact o6 |exact o7 |exact (XH o7 o2) |exact o26 |exact (XH o8 o9) |exact o10 |exact o11 |exact o12 |exact o13 |exact o14 |exact (o4 _) |exact o15 |exact o16 |exact o17 |exact (o18 _) |exact (XH (ob _) (XH o20 (ob _))) |exact o21 |exact o22 |exact o23 |exact o24 |exact o25|refine if_jc ?_ ?_)
theorem make_eq {t:Tk} {a:Int} (kt:TkOk t) {xs ys:List St} (hx:xs.Perm (stsF 0 (qZ t a))) (hy:ys.Perm (stsF 0 (qZ t a))) (sx:xs.Pairwise (fun a b=>befF b a=false)) (sy:ys.Pairwise (fun a b=>befF b a=false)):xs=ys:=by
 have hk:=keys_ok (r:=0) (jc_all t a kt);exact sort_eq (hx.trans hy.symm) sx sy (fun x h1 y h2=>hk x (hx.mem_iff.1 h1) y (hx.mem_iff.1 h2))
end Go.Af.Tryz
