/- A part of the proof. -/
import Derived.Test.YtmnjcogpchodhaaGreatMC
set_option linter.all false
namespace Go.Af
open Go
variable {rd:Bool}

structure RsE where
 i:Nat
 v:Value
 k:Nat
 b:Blk
def resOp:Op->Bool
 | .makeMap _ none=>true
 | o=>QO o

/-! ### The computation -/

/-! ### Acts that agree -/
theorem vR0 (a:Act) (dst:Option Tmp) (v:Value) (t:Tmp) (h:dst≠some t):(a.put dst v).tmps[t]? = a.tmps[t]? := by
 cases dst with
 | none=>rfl
 | some d =>
   have:d≠t:=fun e=>h (by rw[e])
   simp[Act.put,Array.getElem?_setIfInBounds,this]
theorem put_at (a:Act) (d:Tmp) (v:Value) (h:d<a.tmps.size):(a.put (some d) v).tmps[d]? = some v:=by simp[Act.put,h]
theorem xc0 (a:Act) (dst:Option Tmp) (v:Value):(a.put dst v).tmps.size=a.tmps.size:=by cases dst <;> simp[Act.put]
theorem put_defers (a:Act) (dst:Option Tmp) (v:Value):(a.put dst v).defers=a.defers:=by cases dst <;> rfl
theorem zm0 {P:Program} {T:TT} {o:Op} {sl:List (Nat × Value)} {H:List Blk} {K:Value->List Blk->Prop} (hv:QO o=true) (h:qC P T o sl H K) :
 ∃ v H',K v H' /\ ∀ H2:List Blk, ∃ v2,qC P T o sl H2 (fun u G=>u=v2/\∃ z vs,H' = H ++ [.cells true z vs]/\G=H2 ++ [.cells true z vs]) /\
   ∀ (m:LM) (l:Loc) (vR:Value),VRel (m.put H2.length l) v2 vR->VRel (m.put H.length l) v vR:=by
 have ptr : ∀ (m:LM) (i j:Nat) (l:Loc) (vR:Value),VRel (m.put i l) (.pointer (some ⟨i,0,none⟩)) vR->VRel (m.put j l) (.pointer (some ⟨j,0,none⟩)) vR:=by
  intro m i j l vR h
  cases h with
  | ptr b o r sh tot esz h=>rw[LM.put_self] at h;cases h;exact .ptr _ _ _ _ _ _ (LM.put_self _ _ _)
  | ptrDead b o a h=>rw[LM.put_self] at h;cases h;exact .ptrDead _ _ _ (LM.put_self _ _ _)
 have slc : ∀ (m:LM) (i j n c:Nat) (l:Loc) (vR:Value),VRel (m.put i l) (.slice (some ⟨i,0,none⟩) n c) vR->VRel (m.put j l) (.slice (some ⟨j,0,none⟩) n c) vR:=by
  intro m i j n c l vR h
  cases h with
  | slice b o r sh tot esz l c c' h hc hl=>rw[LM.put_self] at h;cases h;exact .slice _ _ _ _ _ _ _ _ _ (LM.put_self _ _ _) hc hl
  | sliceZero b o a=>exact .sliceZero _ _ _
  | sliceDead b o l c c' a h hc=>rw[LM.put_self] at h;cases h;exact .sliceDead _ _ _ _ _ _ (LM.put_self _ _ _) hc
 cases o <;> try (cases hv;done)
 ·simp only[qC] at h
  split at h
  ·rename_i i hi
   simp only[vO,vH,Nat.zero_add] at h;refine⟨_,_,h,fun H2=>⟨.pointer (some ⟨H2.length,0,none⟩), ?_,fun m l vR=>ptr m _ _ l vR⟩⟩;simp only[qC,hi,vO,vH,Nat.zero_add];exact⟨trivial,_,_,rfl,rfl⟩
  ·exact h.elim
 ·simp only[qC] at h
  obtain ⟨v,hv,hk⟩:=Qi h;simp only[vO,vH,Nat.zero_add] at hk;refine⟨_,_,hk,fun H2=>⟨.pointer (some ⟨H2.length,0,none⟩), ?_,fun m l vR=>ptr m _ _ l vR⟩⟩;simp only[qC,evK,hv,vO,vH,Nat.zero_add];exact⟨trivial,_,_,rfl,rfl⟩
 ·simp only[qC] at h
  split at h
  ·rename_i i hi
   split at h
   ·rename_i e hk
    split at h
    ·rename_i j hj
     split at h
     ·rename_i pv hpv
      obtain ⟨hc,h⟩:=h;split at h
      ·rename_i zs hzs
       simp only[vO,qm,vH,Nat.zero_add] at h;refine⟨_,_,h,fun H2=>⟨.slice (some ⟨H2.length,0,none⟩) _ _, ?_,fun m l vR=>slc m _ _ _ _ l vR⟩⟩;simp only[qC,hi,hk,hj,hpv,hzs,vO,qm,vH,Nat.zero_add];exact⟨hc,trivial,_,_,rfl,rfl⟩
      ·exact h.elim
     ·exact h.elim
    ·exact h.elim
   ·exact h.elim
  ·exact h.elim
 ·simp only[qC] at h
  split at h
  ·rename_i i hi
   split at h
   ·rename_i e hk
    split at h
    ·rename_i j hj
     split at h
     ·rename_i k1 li k2 ci hl hc
      obtain ⟨h1,n,c',h2,h3,vs,hvs,hkk⟩:=h;simp only[vH,Nat.zero_add] at hkk;refine⟨_,_,hkk,fun H2=>⟨.slice (some ⟨H2.length,0,none⟩) n c', ?_,fun m l vR=>slc m _ _ _ _ l vR⟩⟩;simp only[qC,hi,hk,hj,hl,hc,vH,Nat.zero_add];exact⟨h1,n,c',h2,h3,vs,hvs,rfl,_,_,rfl,rfl⟩
     ·exact h.elim
    ·exact h.elim
   ·exact h.elim
  ·exact h.elim

theorem uB0 {P:Program} {T:TT} (hT:TOk P T) {o:Oper} {sl:List (Nat × Value)} {H:List Blk} {K:Value->List Blk->Prop} (hv:resOp o.op=true) (h:qC P T o.op sl H K) :
 ∃ v H',K v H' /\ Op.isDefer o.op=false/\∀ b,H' = H ++ [b]->∀ (m:LM) (aR:Act) (w:World) (H2:List Blk),zx m sl aR.tmps->HRel m H2 w->m H.length=none->∃ (ob:Obj) (l:Loc) (vR:Value),
   (execOp aR.eval o).run P w = .ok (.value vR) { w with heap:=w.heap.push ob }/\vI (some l)=some w.heap.size/\BRel (m.put H.length l) b l { w with heap:=w.heap.push ob }/\VRel (m.put H.length l) v vR:=by
 by_cases hal:QO o.op=true
 ·obtain ⟨v,H',hk,hdet⟩:=zm0 hal h
  refine⟨v,H',hk,(QN hT hal h).2,fun b hb m aR w H2 hs hh hm=>?_⟩;obtain ⟨v2,ha,hvv⟩:=hdet H2;obtain ⟨hA,_⟩:=QN hT hal ha;obtain ⟨z,vs,vs',ty,u,vR,k1,⟨rfl,z3,vs3,k2,k3⟩,k4,k5,k6⟩:=hA m aR w hs hh;rw[hb] at k2;have e1:=List.append_cancel_left k2;have e2:=List.append_cancel_left k3;simp only[List.cons.injEq,Blk.cells.injEq,and_true,true_and] at e1 e2;obtain ⟨rfl,rfl⟩:=e2;subst e1;refine⟨.cells vs' ty, .cel w.heap.size 0 vs'.size z,vR,k4,rfl, ?_,hvv m _ vR k6⟩;refine⟨vs',ty,(0,0),by simp,fun i x hx=>?_, .inr rfl,fun _=>⟨fun j hj=>by omega,rfl,k1,rfl⟩⟩;obtain ⟨y,hy,hr⟩:=k5.get hx;exact⟨y,by simpa using hy,hr.mono (LM.le_put hm)⟩
 ·generalize hop:o.op=op at h hv hal
  cases op with
  | makeMap t r =>
    cases r with
    | some r=>exact absurd hv hal
    | none =>
      simp only[qC,xG] at h;split at h
      ·split at h
       ·simp only[vH,Nat.zero_add] at h
        refine⟨_,_,h,rfl,fun b hb m aR w H2 hs hh hm=>?_⟩;have e1:=List.append_cancel_left hb;simp only[List.cons.injEq,and_true] at e1;subst e1;refine⟨.map #[] 0, .obj w.heap.size, .map (some w.heap.size), ?_,rfl,⟨#[],by simp,rfl,fun i e e' he=>by simp at he⟩, .map _ _ (LM.put_self _ _ _)⟩;simp[execOp,hop,Instr.makeMap,newObj,Sem.run]
       ·exact h.elim
      ·exact h.elim
  | _=>exact absurd hv hal

theorem HRel.fill {m:LM} {H:List Blk} {w:World} (h:HRel m H w) {k:Nat} {b:Blk} {ob:Obj} {l:Loc} (hk:m k=none) (hb:H[k]? = some b) (hl:vI (some l)=some w.heap.size) (hB:BRel (m.put k l) b l { w with heap:=w.heap.push ob }) :
 HRel (m.put k l) H { w with heap:=w.heap.push ob }:=by
 have hkl:k<H.length:=(List.getElem?_eq_some_iff.1 hb).1;refine⟨fun i l' hi=>?_,fun i l' b' hi hd hb' => ?_,fun i hi=>?_,fun i j r b' hi hb' hw hj=>?_⟩
 ·by_cases e:i=k
  ·subst e;exact hkl
  ·rw[LM.put_ne m _ e] at hi;exact h.dom i _ hi
 ·by_cases e:i=k
  ·subst e
   rw[LM.put_self] at hi;cases hi;rw[hb] at hb'; cases hb';exact hB
  ·rw[LM.put_ne m _ e] at hi
   exact ((h.blk i l' b' hi hd hb').mono (LM.le_put hk)).same (fun r hr=>zl (h.lt (i:=i) (by rw[hi];exact hr)))
 ·by_cases e:i=k
  ·subst e;rw[LM.put_self] at hi;cases hi;cases hl
  ·rw[LM.put_ne m _ e] at hi
   exact h.dd i hi
 ·by_cases e:i=k
  ·subst e
   rw[LM.put_self,hl] at hi;have hi:w.heap.size=r:=by cases hi;rfl
   subst hi;by_cases e' : j=i
   ·exact e'.symm
   ·rw[LM.put_ne m _ e'] at hj;exact absurd (h.lt hj) (Nat.lt_irrefl _)
  ·rw[LM.put_ne m _ e] at hi
   by_cases e' : j=k
   ·subst e'
    rw[LM.put_self,hl] at hj;have hj:w.heap.size=r:=by cases hj;rfl
    subst hj;exact absurd (h.lt hi) (Nat.lt_irrefl _)
   ·rw[LM.put_ne m _ e'] at hj
    exact h.own i j r b' hi hb' hw hj
theorem Fr.fill {n:Nat} {m:LM} {H:List Blk} {w:World} {k:Nat} {ob:Obj} {l:Loc} (hk:n<=k) (hm:m k=none) (hl:vI (some l)=some w.heap.size) :
 Fr n m H w (m.put k l) H { w with heap:=w.heap.push ob }:=by
 refine⟨by simp,id,fun i hi l' hl' => .inl (by rw[LM.put_ne m _ (by omega)];exact hl'),fun i hi hl' => by rw[LM.put_ne m _ (by omega)];exact hl',fun _ _ b hb hr=>⟨b,hb,hr⟩,fun r hr hw=>⟨zl hr, ?_⟩,⟨rfl,rfl,rfl,by first | exact Nat.le_refl _ | exact Nat.le_succ _ | (simp;done) | (simp;omega)⟩⟩;rintro ⟨i,b,h1,h2,h3⟩;by_cases e:i=k
 ·subst e
  rw[LM.put_self,hl] at h1;have h1:w.heap.size=r:=by cases h1;rfl
  omega
 ·rw[LM.put_ne m _ e] at h1
  exact hw ⟨i,b,h1,h2,h3⟩
end Go.Af
namespace Go.Af
open Go
variable {rd:Bool}

theorem VJ {l:Array Bool} {i:Nat} (h:i<l.size):l.getD i true=l.getD i false:=by simp[h]
theorem wC0 {p q:Nat->Bool} {j:Nat} : ∀ {l:List Nat} (_:j∈l) (_:p j=true) (_:q j=false) (_ : ∀ i,q i=true->p i=true),(l.filter q).length<(l.filter p).length
 | a::l,hj,hp,hq,h=>by
   have le : ∀ l:List Nat,(l.filter q).length<=(l.filter p).length:=by
    intro l
    induction l with
    | nil=>simp
    | cons b l ih =>
      simp only[List.filter_cons]
      cases hb:q b with
      | true=>rw[h b hb];simpa using ih
      | false=>cases p b <;> simp <;> omega
   simp only[List.filter_cons];by_cases e:j=a
   ·subst e;rw[hp,hq];have:=le l;simp;omega
   ·have:=wC0 (l:=l) (by simpa [e] using hj) hp hq h
    cases hb:q a with
    | true=>rw[h a hb];simpa using this
    | false=>cases p a <;> simp <;> omega

def OrdL (all:List Oper):List Nat->Prop
 | []=>True
 | i::r=>(∃ o,all[i]? = some o/\∀ e∈o.after,Region.binds .any e=true->e.on∈r)/\OrdL all r

section
variable {P:Program} {T:TT} {all:List Oper} {bf:Array Nat} {st:List Nat} {n n0:Nat} {m0:LM} {H0:List Blk} {w0:World} {dfs:List Deferred}

theorem OrdL.op : ∀ {L:List Nat} (_:OrdL all L) {i:Nat} (_:i∈L), ∃ o,all[i]? = some o
 | a::r,h,i,hi=>by
   rcases List.mem_cons.1 hi with rfl | hi
   ·obtain ⟨⟨o,h1,_⟩,_⟩:=h;exact⟨o,h1⟩
   ·exact OrdL.op h.2 hi
theorem OrdL.first {listed:Array Bool} (hs:listed.size=all.length) : ∀ {L:List Nat} (_:OrdL all L) (_ : ∃ i∈L,listed.getD i true=false), ∃ j∈L,j∈Region.ready .any all.toArray listed
 | a::r,h,hu=>by
   by_cases hr : ∃ i∈r,listed.getD i true=false
   ·obtain ⟨j,hj,hj'⟩:=OrdL.first hs h.2 hr
    exact⟨j,List.mem_cons_of_mem _ hj,hj'⟩
   ·obtain ⟨i,hi,hiu⟩:=hu
    rcases List.mem_cons.1 hi with rfl | hi
    ·obtain ⟨⟨o,h1,h2⟩,h3⟩:=h
     refine⟨i,List.mem_cons_self ..,mem_ready.2 ⟨hiu,o,by simpa using h1,fun e he hb=>?_⟩⟩;have hm:=h2 e he hb;obtain ⟨oe,hoe⟩:=h3.op hm;have hlt:e.on<listed.size:=by rw[hs];exact (List.getElem?_eq_some_iff.1 hoe).1
     rw[<- VJ hlt]
     cases hx:listed.getD e.on true with
     | true=>rfl
     | false=>exact absurd ⟨e.on,hm,hx⟩ hr
    ·exact absurd ⟨i,hi,hiu⟩ hr

theorem ww {l:Array Bool} {j:Nat} (h:j<l.size):(l.setIfInBounds j true).getD j true=true:=by simp[h]

end
end Go.Af
namespace Go.Af
open Go
variable {rd:Bool}

section
variable {P:Program} {T:TT} {all:List Oper} {bf:Array Nat} {st:List Nat} {n n0:Nat} {m0:LM} {H0:List Blk} {w0:World} {dfs:List Deferred} {L:List Nat} {listed:Array Bool} {rs:List RsE} {sl:List (Nat × Value)} {H:List Blk} {m:LM} {aR aV:Act} {w:World}

theorem xq (hsz:listed.size=all.length) {i:Nat} {o:Oper} (h:all[i]? = some o):i<listed.size:=by rw[hsz];exact (List.getElem?_eq_some_iff.1 h).1

end
end Go.Af
namespace Go.Af
open Go
variable {rd:Bool}

section
variable {P:Program} {T:TT} {all:List Oper} {bf:Array Nat} {st:List Nat} {n n0:Nat} {m0:LM} {H0:List Blk} {w0:World} {dfs:List Deferred} {L:List Nat} {listed:Array Bool} {rs:List RsE} {sl:List (Nat × Value)} {H:List Blk} {m:LM} {aR aV:Act} {w:World}

theorem vW {l:Array Bool} {j i:Nat} (h:i≠j):(l.setIfInBounds j true).getD i true=l.getD i true:=getD_set_ne true (Ne.symm h)

end
end Go.Af
namespace Go.Af
open Go
variable {rd:Bool}

theorem zn0 {k:Nat} {p:Nat->Bool} (h:(List.range k).all p=true) {i:Nat} (hi:i<k):p i=true:=by
 rw[List.all_eq_true] at h;exact h i (List.mem_range.2 hi)
theorem Qj {l:List Nat} {x:Nat} (h:l.contains x=true):x∈l:=by rw[List.contains_eq_mem] at h;exact of_decide_eq_true h
theorem XJ {l:List Nat} {x:Nat} (h:l.contains x=false):x ∉ l:=by rw[List.contains_eq_mem] at h;exact of_decide_eq_false h
section
variable {P:Program} {T:TT} {all:List Oper} {bf:Array Nat} {st:List Nat} {n n0:Nat} {m0:LM} {H0:List Blk} {w0:World} {dfs:List Deferred} {K:List (Nat × Value)->List Blk->Prop}

end
end Go.Af
namespace Go.Af
open Go
section
variable {H0 H:List Blk} {o:Nat->Prop} {L:List (Bool × Nat × Blk)}
end
end Go.Af
