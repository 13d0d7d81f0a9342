/-
  Regions whose order is drawn, in which values may be looked at later than they are listed, and rows of cells be made earlier: events in place of an order.
  Regions whose order is drawn, by events: every order comes to what the events come to.
  Regions whose order is drawn, by events: the theorem.
  Regions whose order is drawn, by events: what is done, step by step; the theorem.
  Regions whose order is drawn, by events: whatever the order, it comes to what the events come to.
  Blocks that are set aside, where the heap is a letter.
-/
import Derived.Test.YtgdbclgcbbbenaaGreatMC
set_option linter.all false
namespace Go.Af
open Go
variable {rd:Bool}

inductive DEv where
 | res (i:Nat)
 | op (i:Nat) (rc:List Nat)

structure RsE where
 i:Nat
 v:Value
 k:Nat
 b:Blk
def resOp:Op->Bool
 | .makeMap _ none=>true
 | o=>allocOp o

def yC:List RsE->Nat->Option RsE
 | [],_=>none
 | e::r,i=>match Nat.beq e.i i with
   | true=>some e
   | false=>yC r i
def rsDel:List RsE->Nat->List RsE
 | [],_=>[]
 | e::r,i=>match Nat.beq e.i i with
   | true=>rsDel r i
   | false=>e::rsDel r i
def rsOk (H:List Blk):List RsE->Prop
 | []=>True
 | e::r=>bget H e.k=some e.b/\rsOk H r
def rcK (P:Program) (T:TT) (all:List Oper) (sl:List (Nat × Value)) (H:List Blk):List Nat->Prop
 | []=>True
 | i::r=>(match wX all i with
    | some o=>match o.dst with
      | some d=>vM all o.guard sl (fun sl' => qE P T o.op sl' H (fun v _=>look sl d=some v)) (fun _=>look sl d=some undef)
      | none=>False
    | none=>False)/\rcK P T all sl H r

def dstIn (n:Nat):Option Tmp->Bool
 | some d=>Nat.blt d n
 | none=>false
def yj (P:Program) (T:TT) (n:Nat) (all:List Oper):List DEv->List RsE->(List (Nat × Value)->List Blk->Prop)->List (Nat × Value)->List Blk->Prop
 | [],_,K,sl,H=>K sl H
 | .res i::r,rs,K,sl,H=>match wX all i with
   | some o=>dstIn n o.dst=true/\qE P T o.op sl H (fun v H' => ∃ b,H' = H ++ [b]/\yj P T n all r (⟨i,v,H.length,b⟩::rs) K sl H')
   | none=>False
 | .op i rc::r,rs,K,sl,H=>match wX all i with
   | some o=>match yC rs i with
     | some e=>putK n o.dst e.v sl (fun sl' => yj P T n all r (rsDel rs i) K sl' H)
     | none=>match wM o.op with
       | true=>vM all o.guard sl (fun sl=>wS P T o.op sl H (fun v H' => putK n o.dst v sl (fun sl' => yj P T n all r rs K sl' H'))) (fun sl=>putK n o.dst undef sl (fun sl' => yj P T n all r rs K sl' H))
       | false=>vM all o.guard sl (fun sl=>wS P T o.op sl H (fun v H' => putK n o.dst v sl (fun sl' => (rsOk H' rs/\rcK P T all sl' H' rc)/\yj P T n all r rs K sl' H'))) (fun sl=>putK n o.dst undef sl (fun sl' => rcK P T all sl' H rc/\yj P T n all r rs K sl' H))
   | none=>False

/-! ### The computation -/

def lookN (ops:Array Oper) (j i:Nat):Bool :=
 match ops[i]?,ops[j]? with
 | some oi,some oj=>match oi.dst with
   | some d => !(oj.looksAt ops).contains d
   | none=>true
 | _,_=>true
def dstN (ops:Array Oper) (i j:Nat):Bool :=
 match ops[i]?,ops[j]? with
 | some oi,some oj=>match oi.dst with
   | some d=>oj.dst != some d
   | none=>true
 | _,_=>true
def gB (ops:Array Oper) (bf:Array Nat):Bool :=
 (List.range ops.size).all fun i=>lookN ops i i&&(List.range ops.size).all fun j=>j == i||((waitsFor bf j i||lookN ops j i)&&dstN ops i j)
def stB (ops:Array Oper) (st:List Nat):Bool :=
 st.all fun i=>match ops[i]? with
   | some o=>wM o.op && !zQ o.op&&(List.range ops.size).all fun x=>lookN ops i x||st.contains x||(match ops[x]? with | some ox => !wM ox.op | none=>true)
   | none=>false
def rcB (ops:Array Oper) (st:List Nat):List Nat->Bool
 | []=>true
 | i::r=>(match ops[i]? with | some o=>wM o.op&&o.dst.isSome | none=>false) && !st.contains i && !r.contains i&&r.all (fun x=>lookN ops i x)&&rcB ops st r
def depsB (o:Oper) (L:List Nat):Bool:=o.after.all fun e => !Region.binds .any e||L.contains e.on
def evB (ops:Array Oper) (bf:Array Nat) (st:List Nat):List DEv->List Nat->List Nat->Bool
 | [],L,_=>(List.range ops.size).all fun i=>L.contains i
 | .res i::r,L,rs => !L.contains i && !rs.contains i &&
   (match ops[i]? with
    | some o=>resOp o.op&&o.guard.isNone&&depsB o L&&(List.range ops.size).all (fun x=>lookN ops i x||st.contains x||(match ops[x]? with | some ox => !wM ox.op | none=>true))
    | none=>false)&&evB ops bf st r L (i::rs)
 | .op i rc::r,L,rs => !L.contains i &&
   (match ops[i]? with
    | some o=>depsB o L&&(wM o.op||((List.range ops.size).all (fun j=>j == i||L.contains j||waitsFor bf j i||rs.contains j) &&
       (rs.contains i||(!(Op.isDefer o.op)&&rcB ops st rc&&rc.all (fun x=>L.contains x)&&(List.range ops.size).all (fun v => !L.contains v||(match ops[v]? with | some ov => !wM ov.op | none=>true)||waitsFor bf i v||rc.contains v||st.contains v)))))
    | none=>false)&&evB ops bf st r (i::L) (rs.filter (fun x=>x != i))
def drawRB (ops:Array Oper) (bf:Array Nat) (st:List Nat) (es:List DEv):Bool :=
 Region.noSelect ops&&closedB ops bf&&gB ops bf&&stB ops st&&evB ops bf st es [] []

theorem zo {ops:Array Oper} {bf:Array Nat} (h:gB ops bf=true) {i:Nat} {oi:Oper} (hi:ops[i]? = some oi) {d:Tmp} (hd:oi.dst=some d) :
 d ∉ oi.looksAt ops/\∀ (j:Nat) (oj:Oper),ops[j]? = some oj->j≠i->oj.dst≠some d/\(waitsFor bf j i=false->d ∉ oj.looksAt ops):=by
 unfold gB at h
 rw[List.all_eq_true] at h
 have h1:=h i (List.mem_range.2 (Array.getElem?_eq_some_iff.1 hi).1)
 simp only[Bool.and_eq_true,List.all_eq_true,List.mem_range,Bool.or_eq_true,beq_iff_eq] at h1
 refine⟨by have:=h1.1;simpa [lookN,hi,hd] using this,fun j oj hj hne=>?_⟩
 have h2:=(h1.2 j (Array.getElem?_eq_some_iff.1 hj).1).resolve_left hne
 refine⟨by have:=h2.2;simpa [dstN,hi,hj,hd] using this,fun hw=>?_⟩
 have h3:=h2.1
 rw[hw] at h3
 have h3:=h3.resolve_left (by simp)
 simpa [lookN,hi,hj,hd] using h3
theorem lookN_spec {ops:Array Oper} {i j:Nat} {oi oj:Oper} {d:Tmp} (h:lookN ops j i=true) (hi:ops[i]? = some oi) (hj:ops[j]? = some oj) (hd:oi.dst=some d):d ∉ oj.looksAt ops:=by
 simpa [lookN,hi,hj,hd] using h

/-! ### Acts that agree -/
def Agr (U:Tmp->Prop) (a b:Act):Prop:=a.defers=b.defers/\a.tmps.size=b.tmps.size/\∀ t, ¬ U t->a.tmps[t]? = b.tmps[t]?

theorem Agr.exec {U:Tmp->Prop} {a b:Act} (h:Agr U a b) {ops:Array Oper} (o:Oper) (hs : ∀ cs b,o.op ≠ .select cs b) (hl : ∀ d,d∈o.looksAt ops->¬ U d) :
 execOp a.eval o=execOp b.eval o/\Region.wanted o (yielded ops a.tmps)=Region.wanted o (yielded ops b.tmps):=by
 constructor
 ·refine execOp_congr o hs fun x hx=>?_
  cases x with
  | tmp t =>
    have:t∈o.looksAt ops:=List.mem_append_left _ (List.mem_filterMap.2 ⟨.tmp t,by simpa using hx,rfl⟩)
    have:=h.2.2 t (hl t this)
    simp only[Act.eval,Array.getD_eq_getD_getElem?,this]
  | _=>rfl
 ·unfold Region.wanted
  cases hg:o.guard with
  | none=>rfl
  | some gw =>
    obtain ⟨g,want⟩:=gw
    have:yielded ops a.tmps g=yielded ops b.tmps g:=by
     unfold yielded
     cases hd:(ops[g]?).bind (·.dst) with
     | none=>rfl
     | some d =>
       have:d∈o.looksAt ops:=List.mem_append_right _ (by simp[hg,hd])
       have:=h.2.2 d (hl d this)
       simp only[Option.bind_some,this]
    simp only[this]

theorem Agr.refl (U:Tmp->Prop) (a:Act):Agr U a a:=⟨rfl,rfl,fun _ _=>rfl⟩
theorem Agr.symm {U:Tmp->Prop} {a b:Act} (h:Agr U a b):Agr U b a:=⟨h.1.symm,h.2.1.symm,fun t ht=>(h.2.2 t ht).symm⟩
theorem Agr.mono {U V:Tmp->Prop} {a b:Act} (h:Agr U a b) (hu : ∀ t,U t->V t):Agr V a b:=⟨h.1,h.2.1,fun t ht=>h.2.2 t (fun hU=>ht (hu t hU))⟩
theorem Agr.trans {U:Tmp->Prop} {a b c:Act} (h:Agr U a b) (k:Agr U b c):Agr U a c:=⟨h.1.trans k.1,h.2.1.trans k.2.1,fun t ht=>(h.2.2 t ht).trans (k.2.2 t ht)⟩
theorem put_get (a:Act) (dst:Option Tmp) (v:Value) (t:Tmp) (h:dst≠some t):(a.put dst v).tmps[t]? = a.tmps[t]? := by
 cases dst with
 | none=>rfl
 | some d =>
   have:d≠t:=fun e=>h (by rw[e])
   simp[Act.put,Array.getElem?_setIfInBounds,this]
theorem put_at (a:Act) (d:Tmp) (v:Value) (h:d<a.tmps.size):(a.put (some d) v).tmps[d]? = some v:=by simp[Act.put,h]
theorem yc (a:Act) (dst:Option Tmp) (v:Value):(a.put dst v).tmps.size=a.tmps.size:=by cases dst <;> simp[Act.put]
theorem put_defers (a:Act) (dst:Option Tmp) (v:Value):(a.put dst v).defers=a.defers:=by cases dst <;> rfl
theorem Agr.put {U V:Tmp->Prop} {a b:Act} (h:Agr U a b) (dst:Option Tmp) (v:Value) (hu : ∀ t,U t->V t\/dst=some t):Agr V (a.put dst v) (b.put dst v):=by
 refine⟨by rw[put_defers,put_defers];exact h.1,by rw[yc,yc];exact h.2.1,fun t ht=>?_⟩
 by_cases hd:dst=some t
 ·subst hd
  by_cases hs:t<a.tmps.size
  ·rw[put_at _ _ _ hs,put_at _ _ _ (h.2.1 ▸ hs)]
  ·have e1:=h.2.1
   rw[Array.getElem?_eq_none (by rw[yc];exact Nat.le_of_not_lt hs),Array.getElem?_eq_none (by rw[yc,<- e1];exact Nat.le_of_not_lt hs)]
 ·rw[put_get _ _ _ _ hd,put_get _ _ _ _ hd]
  exact h.2.2 t (fun hU=>(hu t hU).elim ht hd)
theorem Agr.put_l {V:Tmp->Prop} (a:Act) (dst:Option Tmp) (v:Value) (hu : ∀ t,dst=some t->V t):Agr V (a.put dst v) a :=
 ⟨put_defers _ _ _,yc _ _ _,fun t ht=>put_get _ _ _ _ (fun e=>ht (hu t e))⟩

theorem alloc_det {P:Program} {T:TT} {o:Op} {sl:List (Nat × Value)} {H:List Blk} {K:Value->List Blk->Prop} (hv:allocOp o=true) (h:qE P T o sl H K) :
 ∃ v H',K v H' /\ ∀ H2:List Blk, ∃ v2,qE P T o sl H2 (fun u G=>u=v2/\∃ z vs,H' = H ++ [.cells true z vs]/\G=H2 ++ [.cells true z vs]) /\
   ∀ (m:LM) (l:Loc) (vR:Value),VRel (m.put H2.length l) v2 vR->VRel (m.put H.length l) v vR:=by
 have ptr : ∀ (m:LM) (i j:Nat) (l:Loc) (vR:Value),VRel (m.put i l) (.pointer (some ⟨i,0,none⟩)) vR->VRel (m.put j l) (.pointer (some ⟨j,0,none⟩)) vR:=by
  intro m i j l vR h
  cases h with
  | ptr b o r sh tot esz h=>rw[LM.put_self] at h;cases h;exact .ptr _ _ _ _ _ _ (LM.put_self _ _ _)
  | ptrDead b o a h=>rw[LM.put_self] at h;cases h;exact .ptrDead _ _ _ (LM.put_self _ _ _)
 have slc : ∀ (m:LM) (i j n c:Nat) (l:Loc) (vR:Value),VRel (m.put i l) (.slice (some ⟨i,0,none⟩) n c) vR->VRel (m.put j l) (.slice (some ⟨j,0,none⟩) n c) vR:=by
  intro m i j n c l vR h
  cases h with
  | slice b o r sh tot esz l c c' h hc hl=>rw[LM.put_self] at h;cases h;exact .slice _ _ _ _ _ _ _ _ _ (LM.put_self _ _ _) hc hl
  | sliceZero b o a=>exact .sliceZero _ _ _
  | sliceDead b o l c c' a h hc=>rw[LM.put_self] at h;cases h;exact .sliceDead _ _ _ _ _ _ (LM.put_self _ _ _) hc
 cases o <;> try (cases hv;done)
 ·simp only[qE] at h
  split at h
  ·rename_i i hi
   simp only[vI,vw,Nat.zero_add] at h
   refine⟨_,_,h,fun H2=>⟨.pointer (some ⟨H2.length,0,none⟩), ?_,fun m l vR=>ptr m _ _ l vR⟩⟩
   simp only[qE,hi,vI,vw,Nat.zero_add]
   exact⟨trivial,_,_,rfl,rfl⟩
  ·exact h.elim
 ·simp only[qE] at h
  obtain ⟨v,hv,hk⟩:=evK_spec h
  simp only[vI,vw,Nat.zero_add] at hk
  refine⟨_,_,hk,fun H2=>⟨.pointer (some ⟨H2.length,0,none⟩), ?_,fun m l vR=>ptr m _ _ l vR⟩⟩
  simp only[qE,evK,hv,vI,vw,Nat.zero_add]
  exact⟨trivial,_,_,rfl,rfl⟩
 ·simp only[qE] at h
  split at h
  ·rename_i i hi
   split at h
   ·rename_i e hk
    split at h
    ·rename_i j hj
     split at h
     ·rename_i pv hpv
      obtain ⟨hc,h⟩:=h
      split at h
      ·rename_i zs hzs
       simp only[vI,qG,vw,Nat.zero_add] at h
       refine⟨_,_,h,fun H2=>⟨.slice (some ⟨H2.length,0,none⟩) _ _, ?_,fun m l vR=>slc m _ _ _ _ l vR⟩⟩
       simp only[qE,hi,hk,hj,hpv,hzs,vI,qG,vw,Nat.zero_add]
       exact⟨hc,trivial,_,_,rfl,rfl⟩
      ·exact h.elim
     ·exact h.elim
    ·exact h.elim
   ·exact h.elim
  ·exact h.elim
 ·simp only[qE] at h
  split at h
  ·rename_i i hi
   split at h
   ·rename_i e hk
    split at h
    ·rename_i j hj
     split at h
     ·rename_i k1 li k2 ci hl hc
      obtain ⟨h1,n,c',h2,h3,vs,hvs,hkk⟩:=h
      simp only[vw,Nat.zero_add] at hkk
      refine⟨_,_,hkk,fun H2=>⟨.slice (some ⟨H2.length,0,none⟩) n c', ?_,fun m l vR=>slc m _ _ _ _ l vR⟩⟩
      simp only[qE,hi,hk,hj,hl,hc,vw,Nat.zero_add]
      exact⟨h1,n,c',h2,h3,vs,hvs,rfl,_,_,rfl,rfl⟩
     ·exact h.elim
    ·exact h.elim
   ·exact h.elim
  ·exact h.elim

theorem res_det {P:Program} {T:TT} (hT:TOk P T) {o:Oper} {sl:List (Nat × Value)} {H:List Blk} {K:Value->List Blk->Prop} (hv:resOp o.op=true) (h:qE P T o.op sl H K) :
 ∃ v H',K v H' /\ Op.isDefer o.op=false/\∀ b,H' = H ++ [b]->∀ (m:LM) (aR:Act) (w:World) (H2:List Blk),wU m sl aR.tmps->HRel m H2 w->m H.length=none->∃ (ob:Obj) (l:Loc) (vR:Value),
   (execOp aR.eval o).run P w = .ok (.value vR) { w with heap:=w.heap.push ob }/\vH (some l)=some w.heap.size/\BRel (m.put H.length l) b l { w with heap:=w.heap.push ob }/\VRel (m.put H.length l) v vR:=by
 by_cases hal:allocOp o.op=true
 ·obtain ⟨v,H',hk,hdet⟩:=alloc_det hal h
  refine⟨v,H',hk,(astep_alloc hT hal h).2,fun b hb m aR w H2 hs hh hm=>?_⟩
  obtain ⟨v2,ha,hvv⟩:=hdet H2
  obtain ⟨hA,_⟩:=astep_alloc hT hal ha
  obtain ⟨z,vs,vs',ty,u,vR,k1,⟨rfl,z3,vs3,k2,k3⟩,k4,k5,k6⟩:=hA m aR w hs hh
  rw[hb] at k2
  have e1:=List.append_cancel_left k2
  have e2:=List.append_cancel_left k3
  simp only[List.cons.injEq,Blk.cells.injEq,and_true,true_and] at e1 e2
  obtain ⟨rfl,rfl⟩:=e2
  subst e1
  refine⟨.cells vs' ty, .cel w.heap.size 0 vs'.size z,vR,k4,rfl, ?_,hvv m _ vR k6⟩
  refine⟨vs',ty,(0,0),by simp,fun i x hx=>?_, .inr rfl,fun _=>⟨fun j hj=>by omega,rfl,k1,rfl⟩⟩
  obtain ⟨y,hy,hr⟩:=k5.get hx
  exact⟨y,by simpa using hy,hr.mono (LM.le_put hm)⟩
 ·generalize hop:o.op=op at h hv hal
  cases op with
  | makeMap t r =>
    cases r with
    | some r=>exact absurd hv hal
    | none =>
      simp only[qE,zO] at h
      split at h
      ·split at h
       ·simp only[vw,Nat.zero_add] at h
        refine⟨_,_,h,rfl,fun b hb m aR w H2 hs hh hm=>?_⟩
        have e1:=List.append_cancel_left hb
        simp only[List.cons.injEq,and_true] at e1
        subst e1
        refine⟨.map #[] 0, .obj w.heap.size, .map (some w.heap.size), ?_,rfl,⟨#[],by simp,rfl,fun i e e' he=>by simp at he⟩, .map _ _ (LM.put_self _ _ _)⟩
        simp[execOp,hop,Instr.makeMap,newObj,Sem.run]
       ·exact h.elim
      ·exact h.elim
  | _=>exact absurd hv hal

theorem HRel.fill {m:LM} {H:List Blk} {w:World} (h:HRel m H w) {k:Nat} {b:Blk} {ob:Obj} {l:Loc} (hk:m k=none) (hb:H[k]? = some b) (hl:vH (some l)=some w.heap.size) (hB:BRel (m.put k l) b l { w with heap:=w.heap.push ob }) :
 HRel (m.put k l) H { w with heap:=w.heap.push ob }:=by
 have hkl:k<H.length:=(List.getElem?_eq_some_iff.1 hb).1
 refine⟨fun i l' hi=>?_,fun i l' b' hi hd hb' => ?_,fun i hi=>?_,fun i j r b' hi hb' hw hj=>?_⟩
 ·by_cases e:i=k
  ·subst e;exact hkl
  ·rw[LM.put_ne m _ e] at hi;exact h.dom i _ hi
 ·by_cases e:i=k
  ·subst e
   rw[LM.put_self] at hi;cases hi
   rw[hb] at hb'; cases hb'
   exact hB
  ·rw[LM.put_ne m _ e] at hi
   exact ((h.blk i l' b' hi hd hb').mono (LM.le_put hk)).same (fun r hr=>zf (h.lt (i:=i) (by rw[hi];exact hr)))
 ·by_cases e:i=k
  ·subst e;rw[LM.put_self] at hi;cases hi;cases hl
  ·rw[LM.put_ne m _ e] at hi
   exact h.dd i hi
 ·by_cases e:i=k
  ·subst e
   rw[LM.put_self,hl] at hi
   have hi:w.heap.size=r:=by cases hi;rfl
   subst hi
   by_cases e' : j=i
   ·exact e'.symm
   ·rw[LM.put_ne m _ e'] at hj;exact absurd (h.lt hj) (Nat.lt_irrefl _)
  ·rw[LM.put_ne m _ e] at hi
   by_cases e' : j=k
   ·subst e'
    rw[LM.put_self,hl] at hj
    have hj:w.heap.size=r:=by cases hj;rfl
    subst hj
    exact absurd (h.lt hi) (Nat.lt_irrefl _)
   ·rw[LM.put_ne m _ e'] at hj
    exact h.own i j r b' hi hb' hw hj
theorem Fr.fill {n:Nat} {m:LM} {H:List Blk} {w:World} {k:Nat} {ob:Obj} {l:Loc} (hk:n<=k) (hm:m k=none) (hl:vH (some l)=some w.heap.size) :
 Fr n m H w (m.put k l) H { w with heap:=w.heap.push ob }:=by
 refine⟨by simp,id,fun i hi l' hl' => .inl (by rw[LM.put_ne m _ (by omega)];exact hl'),fun i hi hl' => by rw[LM.put_ne m _ (by omega)];exact hl',fun _ _ b hb hr=>⟨b,hb,hr⟩,fun r hr hw=>⟨zf hr, ?_⟩,⟨rfl,rfl,rfl⟩⟩
 rintro ⟨i,b,h1,h2,h3⟩
 by_cases e:i=k
 ·subst e
  rw[LM.put_self,hl] at h1
  have h1:w.heap.size=r:=by cases h1;rfl
  omega
 ·rw[LM.put_ne m _ e] at h1
  exact hw ⟨i,b,h1,h2,h3⟩
end Go.Af
namespace Go.Af
open Go
variable {rd:Bool}

theorem getD_tf {l:Array Bool} {i:Nat} (h:i<l.size):l.getD i true=l.getD i false:=by simp[h]
theorem filt_lt {p q:Nat->Bool} {j:Nat} : ∀ {l:List Nat} (_:j∈l) (_:p j=true) (_:q j=false) (_ : ∀ i,q i=true->p i=true),(l.filter q).length<(l.filter p).length
 | a::l,hj,hp,hq,h=>by
   have le : ∀ l:List Nat,(l.filter q).length<=(l.filter p).length:=by
    intro l
    induction l with
    | nil=>simp
    | cons b l ih =>
      simp only[List.filter_cons]
      cases hb:q b with
      | true=>rw[h b hb];simpa using ih
      | false=>cases p b <;> simp <;> omega
   simp only[List.filter_cons]
   by_cases e:j=a
   ·subst e;rw[hp,hq];have:=le l;simp;omega
   ·have:=filt_lt (l:=l) (by simpa [e] using hj) hp hq h
    cases hb:q a with
    | true=>rw[h a hb];simpa using this
    | false=>cases p a <;> simp <;> omega

def OrdL (all:List Oper):List Nat->Prop
 | []=>True
 | i::r=>(∃ o,all[i]? = some o/\∀ e∈o.after,Region.binds .any e=true->e.on∈r)/\OrdL all r

section
variable {P:Program} {T:TT} {all:List Oper} {bf:Array Nat} {st:List Nat} {n n0:Nat} {m0:LM} {H0:List Blk} {w0:World} {dfs:List Deferred}

theorem OrdL.op : ∀ {L:List Nat} (_:OrdL all L) {i:Nat} (_:i∈L), ∃ o,all[i]? = some o
 | a::r,h,i,hi=>by
   rcases List.mem_cons.1 hi with rfl | hi
   ·obtain ⟨⟨o,h1,_⟩,_⟩:=h;exact⟨o,h1⟩
   ·exact OrdL.op h.2 hi
theorem OrdL.dc (hc:Closed all.toArray bf) : ∀ {L:List Nat} (_:OrdL all L) {j i:Nat} (_:j∈L) (_:waitsFor bf j i=true),i∈L
 | a::r,h,j,i,hj,hw=>by
   rcases List.mem_cons.1 hj with rfl | hj
   ·obtain ⟨⟨o,h1,h2⟩,h3⟩:=h
    obtain ⟨e,he,hb,hor⟩:=hc j o (by simpa using h1) i hw
    have:=h2 e he hb
    rcases hor with rfl | hor
    ·exact List.mem_cons_of_mem _ this
    ·exact List.mem_cons_of_mem _ (OrdL.dc hc h3 this hor)
   ·exact List.mem_cons_of_mem _ (OrdL.dc hc h.2 hj hw)
theorem OrdL.first {listed:Array Bool} (hs:listed.size=all.length) : ∀ {L:List Nat} (_:OrdL all L) (_ : ∃ i∈L,listed.getD i true=false), ∃ j∈L,j∈Region.ready .any all.toArray listed
 | a::r,h,hu=>by
   by_cases hr : ∃ i∈r,listed.getD i true=false
   ·obtain ⟨j,hj,hj'⟩:=OrdL.first hs h.2 hr
    exact⟨j,List.mem_cons_of_mem _ hj,hj'⟩
   ·obtain ⟨i,hi,hiu⟩:=hu
    rcases List.mem_cons.1 hi with rfl | hi
    ·obtain ⟨⟨o,h1,h2⟩,h3⟩:=h
     refine⟨i,List.mem_cons_self ..,mem_ready.2 ⟨hiu,o,by simpa using h1,fun e he hb=>?_⟩⟩
     have hm:=h2 e he hb
     obtain ⟨oe,hoe⟩:=h3.op hm
     have hlt:e.on<listed.size:=by rw[hs];exact (List.getElem?_eq_some_iff.1 hoe).1
     rw[<- getD_tf hlt]
     cases hx:listed.getD e.on true with
     | true=>rfl
     | false=>exact absurd ⟨e.on,hm,hx⟩ hr
    ·exact absurd ⟨i,hi,hiu⟩ hr

def Uf (all:List Oper) (L:List Nat) (listed:Array Bool) (t:Tmp):Prop :=
 ∃ (i:Nat) (o:Oper),all[i]? = some o/\o.dst=some t/\((i∈L/\listed.getD i true=false)\/(i ∉ L/\listed.getD i true=true))

def YW (P:Program) (ops:Array Oper) (o:Oper) (any:Bool) (a:Act) (w:World):Prop :=
 ∃ v,(∀ d,o.dst=some d->a.tmps[d]? = some v) /\
   ((Region.wanted o (yielded ops a.tmps)=true/\Op.isDefer o.op=false/\∀ w',(any=false->ExtW w w')->(execOp a.eval o).run P w' = .ok (.value v) w') \/
    (Region.wanted o (yielded ops a.tmps)=false/\v=undef))

theorem YW.of {ops:Array Oper} {o:Oper} {any:Bool} {a b:Act} {w w' : World} {U:Tmp->Prop} (h:YW P ops o any a w) (ag:Agr U a b) (hs : ∀ cs k,o.op ≠ .select cs k) (hl : ∀ d,d∈o.looksAt ops->¬ U d) (hd : ∀ d,o.dst=some d->¬ U d) (hw:any=false->ExtW w w'):YW P ops o any b w' := by
 obtain ⟨v,h1,h2⟩:=h
 obtain ⟨e1,e2⟩:=ag.exec o hs hl
 refine⟨v,fun d hd' => by rw[<- ag.2.2 d (hd d hd')];exact h1 d hd', ?_⟩
 rw[<- e1,<- e2]
 rcases h2 with ⟨g1,g2,g3⟩ | h2
 ·exact .inl ⟨g1,g2,fun w'' hx=>g3 w'' (fun ha=>(hw ha).trans (hx ha))⟩
 ·exact .inr h2

def LateE (P:Program) (all:List Oper) (bf:Array Nat) (st:List Nat) (n n0:Nat) (L:List Nat) (listed:Array Bool) (H:List Blk) (m:LM) (aR aV:Act) (e:RsE):Prop :=
 e.i ∉ L/\n0<=e.k/\e.k<H.length/\∃ o,all[e.i]? = some o/\o.guard=none/\resOp o.op=true/\Op.isDefer o.op=false/\dstIn n o.dst=true/\(∀ x,waitsFor bf e.i x=true->x∈L) /\
   (∀ (x:Nat) (ox:Oper) (d:Tmp),all[x]? = some ox->wM ox.op=true->x ∉ st->ox.dst=some d->d ∉ o.looksAt all.toArray) /\
   (listed.getD e.i true=false->m e.k=none/\H[e.k]? = some e.b/\∀ (m' : LM) (H' : List Blk) (w' : World),m.le m' -> HRel m' H' w' -> m' e.k=none->∃ (ob:Obj) (l:Loc) (vR:Value),
     (execOp aV.eval o).run P w' = .ok (.value vR) { w' with heap:=w'.heap.push ob }/\vH (some l)=some w'.heap.size/\BRel (m'.put e.k l) e.b l { w' with heap:=w'.heap.push ob }/\VRel (m'.put e.k l) e.v vR) /\
   (listed.getD e.i true=true->∃ vR,(∀ d,o.dst=some d->aR.tmps[d]? = some vR)/\VRel m e.v vR)

structure DrI (P:Program) (all:List Oper) (bf:Array Nat) (st:List Nat) (n n0:Nat) (m0:LM) (H0:List Blk) (w0:World) (dfs:List Deferred) (L:List Nat) (listed:Array Bool) (rs:List RsE) (sl:List (Nat × Value)) (H:List Blk) (m:LM) (aR aV:Act) (w:World):Prop where
 size:listed.size=all.length
 dl:DC bf listed
 ord:OrdL all L
 pend : ∀ (i:Nat) (o:Oper),all[i]? = some o->i∈L->listed.getD i true=false->wM o.op=true/\YW P all.toArray o (st.contains i) aV w
 early : ∀ (i:Nat) (o:Oper),all[i]? = some o->i ∉ L->listed.getD i true=true->∃ e∈rs,e.i=i
 late : ∀ e∈rs,LateE P all bf st n n0 L listed H m aR aV e
 ks : ∀ e∈rs, ∀ e' ∈ rs,e.k=e'.k->e.i=e'.i
 is : ∀ e∈rs, ∀ e' ∈ rs,e.i=e'.i->e=e'
 agr:Agr (Uf all L listed) aR aV
 rel:SRel m { n,sl } H aV w
 fr:Fr n0 m0 H0 w0 m H w
 len:n0<=H.length
 df:aV.defers=dfs

theorem rsFind_some : ∀ {rs:List RsE} {i:Nat} {e:RsE} (_:yC rs i=some e),e∈rs/\e.i=i
 | a::r,i,e,h=>by
   simp only[yC] at h
   split at h
   ·rename_i hb;cases h;exact⟨List.mem_cons_self ..,Nat.eq_of_beq_eq_true hb⟩
   ·have:=rsFind_some h;exact⟨List.mem_cons_of_mem _ this.1,this.2⟩
theorem rsFind_none : ∀ {rs:List RsE} {i:Nat} (_:yC rs i=none), ∀ e∈rs,e.i≠i
 | a::r,i,h,e,he=>by
   simp only[yC] at h
   split at h
   ·cases h
   ·rename_i hb
    rcases List.mem_cons.1 he with rfl | he
    ·intro hi;rw[hi] at hb;simp at hb
    ·exact rsFind_none h e he
theorem rsDel_map : ∀ (rs:List RsE) (i:Nat),(rsDel rs i).map (·.i)=(rs.map (·.i)).filter (fun x=>x != i)
 | [],_=>rfl
 | a::r,i=>by
   simp only[rsDel,List.map_cons,List.filter_cons]
   by_cases h:a.i=i
   ·rw[h];simp[rsDel_map r i]
   ·have:Nat.beq a.i i=false:=by cases hb:Nat.beq a.i i with | false=>rfl | true=>exact absurd (Nat.eq_of_beq_eq_true hb) h
    rw[this];simp[h,rsDel_map r i]
theorem xk : ∀ {rs:List RsE} {i:Nat} {e:RsE},e∈rsDel rs i↔e∈rs/\e.i≠i
 | [],_,_=>by simp[rsDel]
 | a::r,i,e=>by
   simp only[rsDel]
   by_cases h:a.i=i
   ·rw[h,show Nat.beq i i=true by simp]
    simp only[xk,List.mem_cons]
    constructor
    ·rintro ⟨h1,h2⟩;exact⟨.inr h1,h2⟩
    ·rintro ⟨rfl | h1,h2⟩
     ·exact absurd h h2
     ·exact⟨h1,h2⟩
   ·have:Nat.beq a.i i=false:=by cases hb:Nat.beq a.i i with | false=>rfl | true=>exact absurd (Nat.eq_of_beq_eq_true hb) h
    rw[this]
    simp only[List.mem_cons,xk]
    constructor
    ·rintro (rfl | ⟨h1,h2⟩)
     ·exact⟨.inl rfl,h⟩
     ·exact⟨.inr h1,h2⟩
    ·rintro ⟨rfl | h1,h2⟩
     ·exact .inl rfl
     ·exact .inr ⟨h1,h2⟩
theorem rsOk_spec {H:List Blk} : ∀ {rs:List RsE} (_:rsOk H rs) {e:RsE} (_:e∈rs),H[e.k]? = some e.b
 | a::r,h,e,he=>by
   rcases List.mem_cons.1 he with rfl | he
   ·have:=h.1;rwa [qX] at this
   ·exact rsOk_spec h.2 he

theorem yH {o:Oper} {L:List Nat} (h:depsB o L=true) : ∀ e∈o.after,Region.binds .any e=true->e.on∈L:=by
 intro e he hb
 unfold depsB at h
 rw[Array.all_eq_true_iff_forall_mem] at h
 have:=h e he
 simpa [hb] using this
theorem deps_waits (hc:Closed all.toArray bf) {L:List Nat} (ho:OrdL all L) {i:Nat} {o:Oper} (hi:all[i]? = some o) (h:depsB o L=true) : ∀ x,waitsFor bf i x=true->x∈L:=by
 intro x hx
 obtain ⟨e,he,hb,hor⟩:=hc i o (by simpa using hi) x hx
 have:=yH h e he hb
 rcases hor with rfl | hor
 ·exact this
 ·exact ho.dc hc this hor

theorem DrI.noU (hc:Closed all.toArray bf) (hg:gB all.toArray bf=true) {L:List Nat} {listed:Array Bool} (hsz:listed.size=all.length) (hdl:DC bf listed) {j:Nat} {oj:Oper} (hj:all[j]? = some oj) (hr:j∈Region.ready .any all.toArray listed)
 (hw : ∀ x,waitsFor bf j x=true->x∈L) : ∀ d,d∈oj.looksAt all.toArray->¬ Uf all L listed d:=by
 rintro d hd ⟨i,o,hi,hdst,hor⟩
 obtain ⟨g1,g2⟩:=zo hg (show all.toArray[i]? = some o by simpa using hi) hdst
 by_cases e:j=i
 ·subst e;rw[hi] at hj;cases hj;exact g1 hd
 ·have h1:=(g2 j oj (by simpa using hj) e).2
  cases hwf:waitsFor bf j i with
  | false=>exact h1 hwf hd
  | true =>
    rcases hor with ⟨_,hu⟩ | ⟨hn,_⟩
    ·have:=ready_dc hc hdl hr hwf
     have hlt:i<listed.size:=by rw[hsz];exact (List.getElem?_eq_some_iff.1 hi).1
     rw[getD_tf hlt,this] at hu;cases hu
    ·exact hn (hw i hwf)

theorem zK {l:Array Bool} {j:Nat} (h:j<l.size):(l.setIfInBounds j true).getD j true=true:=by simp[h]

theorem rc_ok (hT:TOk P T) (hg:gB all.toArray bf=true) (hsel : ∀ (j:Nat) (o:Oper) cs b,all[j]? = some o->o.op ≠ .select cs b) {sl:List (Nat × Value)} {H:List Blk} {m:LM} {w:World} (hh:HRel m H w) : ∀ (rc:List Nat) (_:rcB all.toArray st rc=true) (_:rcK P T all sl H rc) {a:Act} (_:wU m sl a.tmps),
 ∃ b,wU m sl b.tmps/\Agr (fun t => ∃ (i:Nat) (o:Oper),i∈rc/\all[i]? = some o/\o.dst=some t) a b/\∀ (i:Nat) (o:Oper),i∈rc->all[i]? = some o->YW P all.toArray o false b w
 | [],_,_,a,hs=>⟨a,hs, .refl _ _,fun i o hi=>by cases hi⟩
 | i::r,hB,hk,a,hs=>by
   simp only[rcB,Bool.and_eq_true,Bool.not_eq_true',List.all_eq_true] at hB
   obtain ⟨⟨⟨⟨hB1,_⟩,hB2⟩,hB3⟩,hB4⟩:=hB
   obtain ⟨hk1,hk2⟩:=hk
   cases ho:all[i]? with
   | none=>simp[ho] at hB1
   | some o =>
     have ho' : all.toArray[i]? = some o:=by simpa using ho
     simp only[ho',Bool.and_eq_true] at hB1
     obtain ⟨hv,hds⟩:=hB1
     rw[yf,ho] at hk1
     simp only at hk1
     cases hdst:o.dst with
     | none=>rw[hdst] at hds;cases hds
     | some d =>
       simp only[hdst] at hk1
       obtain ⟨sl',hsl',hor⟩:=zA (aR:=a) hk1 hs o rfl
       obtain ⟨g1,g2⟩:=zo hg ho' hdst
       -- the value now
       have key : ∃ vR v,look sl d=some v/\VRel m v vR/\((Region.wanted o (yielded all.toArray a.tmps)=true/\Op.isDefer o.op=false/\∀ w',ExtW w w' -> (execOp a.eval o).run P w' = .ok (.value vR) w')\/(Region.wanted o (yielded all.toArray a.tmps)=false/\vR=undef)):=by
        rcases hor with ⟨hw,hx⟩ | ⟨hw,hx⟩
        ·obtain ⟨hV,hdf⟩:=xX hT hv hx
         obtain ⟨v,vR,h1,h2,h3⟩:=hV m a w hsl' hh
         exact⟨vR,v,h1,h3, .inl ⟨hw,hdf,fun w' hx' => h2 w' (fun _=>hx')⟩⟩
        ·exact⟨undef,undef,hx,VRel.plain m 6 _ rfl, .inr ⟨hw,rfl⟩⟩
       obtain ⟨vR,v,hl,hvr,hy⟩:=key
       obtain ⟨vo,hvo,_⟩:=hs d v hl
       have hd:d<a.tmps.size:=(Array.getElem?_eq_some_iff.1 hvo).1
       have hs1:wU m sl (a.put (some d) vR).tmps:=by
        intro s u hu
        by_cases e:d=s
        ·subst e
         rw[hl] at hu;cases hu
         exact⟨vR,put_at a d vR hd,hvr⟩
        ·rw[put_get a (some d) vR s (fun h=>e (Option.some.inj h))]
         exact hs s u hu
       obtain ⟨b,hb1,hb2,hb3⟩:=rc_ok hT hg hsel hh r hB4 hk2 hs1
       have hs' := fun cs k=>hsel i o cs k ho
       have ag1:Agr (fun t=>t=d) a (a.put (some d) vR):=(Agr.put_l a (some d) vR (fun t h=>(Option.some.inj h).symm)).symm
       have hnr : ∀ (x:Nat) (ox:Oper) (t:Tmp),x∈r->all[x]? = some ox->ox.dst=some t->t≠d/\t ∉ o.looksAt all.toArray:=by
        intro x ox t hx hox ht
        have hne:x≠i:=fun e=>by subst e;have:r.contains x=true:=by simpa using hx
                                rw[this] at hB2;cases hB2
        refine⟨fun e=>?_,lookN_spec (hB3 x hx) (by simpa using hox) ho' ht⟩
        subst e
        exact (g2 x ox (by simpa using hox) hne).1 ht
       refine⟨b,hb1, ?_,fun j oj hj hoj=>?_⟩
       ·refine (Agr.mono ag1 ?_).trans (hb2.mono ?_)
        ·rintro t rfl;exact⟨i,o,List.mem_cons_self ..,ho,hdst⟩
        ·rintro t ⟨x,ox,hx,h1,h2⟩;exact⟨x,ox,List.mem_cons_of_mem _ hx,h1,h2⟩
       ·rcases List.mem_cons.1 hj with rfl | hj
        ·rw[ho] at hoj;cases hoj
         have y0:YW P all.toArray o false (a.put (some d) vR) w:=by
          obtain ⟨e1,e2⟩:=ag1.exec (ops:=all.toArray) o hs' (fun t ht h=>g1 (h ▸ ht))
          refine⟨vR,fun d' hd' => ?_, ?_⟩
          ·rw[hdst] at hd'; cases hd'; exact put_at a d vR hd
          ·rw[<- e1,<- e2]
           rcases hy with ⟨q1,q2,q3⟩ | q
           ·exact .inl ⟨q1,q2,fun w' hx=>q3 w' (hx rfl)⟩
           ·exact .inr q
         refine y0.of hb2 hs' ?_ ?_ (fun _=>.refl w)
         ·rintro t ht ⟨x,ox,hx,h1,h2⟩;exact (hnr x ox t hx h1 h2).2 ht
         ·rintro t ht ⟨x,ox,hx,h1,h2⟩
          rw[hdst] at ht;cases ht
          exact (hnr x ox d hx h1 h2).1 rfl
        ·exact hb3 j oj hj hoj
end
end Go.Af
namespace Go.Af
open Go
variable {rd:Bool}

section
variable {P:Program} {T:TT} {all:List Oper} {bf:Array Nat} {st:List Nat} {n n0:Nat} {m0:LM} {H0:List Blk} {w0:World} {dfs:List Deferred} {L:List Nat} {listed:Array Bool} {rs:List RsE} {sl:List (Nat × Value)} {H:List Blk} {m:LM} {aR aV:Act} {w:World}

theorem yE (hsz:listed.size=all.length) {i:Nat} {o:Oper} (h:all[i]? = some o):i<listed.size:=by rw[hsz];exact (List.getElem?_eq_some_iff.1 h).1

theorem DrI.value (hT:TOk P T) (hc:Closed all.toArray bf) (hg:gB all.toArray bf=true) (hst:stB all.toArray st=true) (hsel : ∀ (j:Nat) (o:Oper) cs b,all[j]? = some o->o.op ≠ .select cs b) (hI:DrI P all bf st n n0 m0 H0 w0 dfs L listed rs sl H m aR aV w)
 {i:Nat} {o:Oper} (ho:all[i]? = some o) (hv:wM o.op=true) (hiL:i ∉ L) (hd:depsB o L=true) (hun:listed.getD i true=false)
 {Kn:List (Nat × Value)->List Blk->Prop} (h:vM all o.guard sl (fun sl=>wS P T o.op sl H (fun v H' => putK n o.dst v sl (fun sl' => Kn sl' H'))) (fun sl=>putK n o.dst undef sl (fun sl' => Kn sl' H))) :
 ∃ sl' aV',Kn sl' H/\DrI P all bf st n n0 m0 H0 w0 dfs (i::L) listed rs sl' H m aR aV' w:=by
 have ho' : all.toArray[i]? = some o:=by simpa using ho
 obtain ⟨sl1,hs1,hor⟩:=zA (aR:=aV) h hI.rel.sl o rfl
 have key : ∃ v vR,putK n o.dst v sl1 (fun sl' => Kn sl' H)/\VRel m v vR/\((Region.wanted o (yielded all.toArray aV.tmps)=true/\Op.isDefer o.op=false/\∀ w',(zQ o.op=true->ExtW w w')->(execOp aV.eval o).run P w' = .ok (.value vR) w')\/(Region.wanted o (yielded all.toArray aV.tmps)=false/\vR=undef)):=by
  rcases hor with ⟨hw,hx⟩ | ⟨hw,hx⟩
  ·obtain ⟨hV,hdf⟩:=xX hT hv (cstep_valOp hv hx)
   obtain ⟨v,vR,h1,h2,h3⟩:=hV m aV w hs1 hI.rel.heap
   exact⟨v,vR,h1,h3, .inl ⟨hw,hdf,h2⟩⟩
  ·exact⟨undef,undef,hx,VRel.plain m 6 _ rfl, .inr ⟨hw,rfl⟩⟩
 obtain ⟨v,vR,hp,hvr,hy⟩:=key
 obtain ⟨sl2,hk2,hs2,hn2,hd2⟩:=zH (aR:=aV) hp hs1 hI.rel.n hvr
 have hdin : ∀ d,o.dst=some d->d<aV.tmps.size:=by
  intro d hd
  rw[hd] at hp
  simp only[putK] at hp
  split at hp
  ·rename_i hb;rw[hI.rel.n];exact Nat.le_of_ble_eq_true hb
  ·exact hp.elim
 have hnw : ∀ j,j∈L->waitsFor bf j i=false:=fun j hj=>by
  cases hwf:waitsFor bf j i with
  | false=>rfl
  | true=>exact absurd (hI.ord.dc hc hj hwf) hiL
 have ag:Agr (fun t=>o.dst=some t) aV (aV.put o.dst vR):=(Agr.put_l aV o.dst vR (fun t h=>h)).symm
 have hsel' := fun (j:Nat) (oj:Oper) (hj:all[j]? = some oj)=>fun cs k=>hsel j oj cs k hj
 have own : ∀ d,o.dst=some d->d ∉ o.looksAt all.toArray:=fun d hd=>(zo hg ho' hd).1
 refine⟨sl2,aV.put o.dst vR,hk2,⟨hI.size,hI.dl,⟨⟨o,ho,yH hd⟩,hI.ord⟩,fun j oj hj hjL hju=>?_,fun j oj hj hjL hju=>hI.early j oj hj (fun h=>hjL (List.mem_cons_of_mem _ h)) hju,fun e he=>?_,hI.ks,hI.is, ?_,⟨hn2,hs2,by rw[hd2];exact hI.rel.df,hI.rel.heap⟩,hI.fr,hI.len,by rw[hd2];exact hI.df⟩⟩
 ·by_cases e:j=i
  ·subst e
   rw[ho] at hj;cases hj
   refine⟨hv,vR,fun d hd=>by rw[hd];exact put_at aV d vR (hdin d hd), ?_⟩
   obtain ⟨e1,e2⟩:=ag.exec (ops:=all.toArray) o (hsel' j o ho) (fun t ht h=>own t h ht)
   rw[<- e1,<- e2]
   rcases hy with ⟨q1,q2,q3⟩ | q
   ·refine .inl ⟨q1,q2,fun w' hx=>q3 w' (fun hr=>?_)⟩
    refine hx ?_
    cases hcs:st.contains j with
    | false=>rfl
    | true =>
      unfold stB at hst
      rw[List.all_eq_true] at hst
      have:=hst j (by simpa using hcs)
      simp only[ho',Bool.and_eq_true,Bool.not_eq_true'] at this
      rw[this.1.2] at hr;cases hr
   ·exact .inr q
  ·have hjL:j∈L:=(List.mem_cons.1 hjL).resolve_left e
   obtain ⟨h1,h2⟩:=hI.pend j oj hj hjL hju
   refine⟨h1,h2.of ag (hsel' j oj hj) (fun t ht h=>?_) (fun t ht h=>?_) (fun _=>.refl w)⟩
   ·exact ((zo hg ho' h).2 j oj (by simpa using hj) e).2 (hnw j hjL) ht
   ·exact ((zo hg ho' h).2 j oj (by simpa using hj) e).1 ht
 ·obtain ⟨l1,l2,l3,oe,l4,l5,l6,l7,l8,l9,l10,l11,l12⟩:=hI.late e he
  have hne:e.i≠i:=fun h=>by
   rw[h,ho] at l4;cases l4
   cases hop:o.op <;> rw[hop] at hv l6 <;> first | (cases hv;done) | (cases l6;done)
  refine⟨fun h=>(List.mem_cons.1 h).elim hne l1,l2,l3,oe,l4,l5,l6,l7,l8,fun x hx=>List.mem_cons_of_mem _ (l9 x hx),l10,fun hu=>?_,l12⟩
  obtain ⟨g1,g2,g3⟩:=l11 hu
  refine⟨g1,g2,fun m' H' w' hm hh hn' => ?_⟩
  obtain ⟨e1,_⟩:=ag.exec (ops:=all.toArray) oe (hsel' _ oe l4) (fun t ht h=>by
   refine ((zo hg ho' h).2 e.i oe (by simpa using l4) hne).2 ?_ ht
   cases hwf:waitsFor bf e.i i with
   | false=>rfl
   | true=>exact absurd (l9 i hwf) hiL)
  rw[<- e1]
  exact g3 m' H' w' hm hh hn'
 ·refine (hI.agr.mono ?_).trans (ag.mono ?_)
  ·rintro t ⟨x,ox,h1,h2,h3⟩
   refine⟨x,ox,h1,h2, ?_⟩
   rcases h3 with ⟨h3,h4⟩ | ⟨h3,h4⟩
   ·exact .inl ⟨List.mem_cons_of_mem _ h3,h4⟩
   ·refine .inr ⟨fun h=>?_,h4⟩
    rcases List.mem_cons.1 h with rfl | h
    ·rw[hun] at h4;cases h4
    ·exact h3 h
  ·intro t ht
   exact⟨i,o,ho,ht, .inl ⟨List.mem_cons_self ..,hun⟩⟩

theorem DrI.reserve (hT:TOk P T) (hc:Closed all.toArray bf) (hI:DrI P all bf st n n0 m0 H0 w0 dfs L listed rs sl H m aR aV w)
 {i:Nat} {o:Oper} (ho:all[i]? = some o) (hv:resOp o.op=true) (hgd:o.guard=none) (hiL:i ∉ L) (hir : ∀ e∈rs,e.i≠i) (hd:depsB o L=true) (hun:listed.getD i true=false) (hdn:dstIn n o.dst=true)
 (hstl : ∀ (x:Nat) (ox:Oper) (d:Tmp),all[x]? = some ox->wM ox.op=true->x ∉ st->ox.dst=some d->d ∉ o.looksAt all.toArray)
 {Kn:Value->Blk->List Blk->Prop} (h:qE P T o.op sl H (fun v H' => ∃ b,H' = H ++ [b]/\Kn v b H')) :
 ∃ v b,Kn v b (H ++ [b])/\DrI P all bf st n n0 m0 H0 w0 dfs L listed (⟨i,v,H.length,b⟩::rs) sl (H ++ [b]) m aR aV w:=by
 obtain ⟨v,H',⟨b,rfl,hk⟩,hdf,hdet⟩:=res_det hT hv h
 have hdet:=hdet b rfl
 have hnl:=hI.rel.heap.none_len
 have hh:HRel m (H ++ [b]) w:=by
  refine⟨fun j l hj=>by have:=hI.rel.heap.dom j l hj;simp;omega,fun j l b hj hl hb=>?_,fun j hj=>?_,fun j k r b hj hb hw hk=>?_⟩
  ·have hjl:=hI.rel.heap.dom j l hj
   rw[List.getElem?_append_left hjl] at hb
   exact hI.rel.heap.blk j l b hj hl hb
  ·rw[List.getElem?_append_left (hI.rel.heap.dom j _ hj)];exact hI.rel.heap.dd j hj
  ·obtain ⟨l',h1,_⟩:=vC hj
   rw[List.getElem?_append_left (hI.rel.heap.dom j _ h1)] at hb
   exact hI.rel.heap.own j k r b hj hb hw hk
 have hwr : ∀ r,Wr m (H ++ [b]) r->Wr m H r:=by
  rintro r ⟨j,b,h1,h2,h3⟩
  obtain ⟨l',g1,_⟩:=vC h1
  rw[List.getElem?_append_left (hI.rel.heap.dom j _ g1)] at h2
  exact⟨j,b,h1,h2,h3⟩
 have hfr:Fr n0 m H w m (H ++ [b]) w :=
  ⟨Nat.le_refl _,fun h=>by simp;omega,fun _ _ _ h=>.inl h,fun _ _ h=>h,fun j hj b' hb hr=>by
    rw[List.getElem?_append_left (by have:=hI.len;omega)] at hb;exact⟨b',hb,hr⟩,fun r _ hw=>⟨rfl,fun h=>hw (hwr r h)⟩, .refl _⟩
 refine⟨v,b,hk,⟨hI.size,hI.dl,hI.ord,hI.pend,fun j oj hj hjL hju=>?_,fun e he=>?_,fun e he e' he' hke=>?_,fun e he e' he' hie=>?_,hI.agr,⟨hI.rel.n,hI.rel.sl,hI.rel.df.keep hfr.keep,hh⟩,hI.fr.trans hfr,by have:=hI.len;simp;omega,hI.df⟩⟩
 ·obtain ⟨e,h1,h2⟩:=hI.early j oj hj hjL hju;exact⟨e,List.mem_cons_of_mem _ h1,h2⟩
 ·rcases List.mem_cons.1 he with rfl | he
  ·exact⟨hiL,hI.len,by simp,o,ho,hgd,hv,hdf,hdn,deps_waits hc hI.ord ho hd,hstl,fun _=>⟨hnl,by simp,fun m' H' w' hm hh' hn' => hdet m' aV w' H' (hI.rel.sl.mono hm) hh' hn'⟩,fun hu=>by rw[hun] at hu;cases hu⟩
  ·obtain ⟨l1,l2,l3,oe,l4,l5,l6,l7,l8,l9,l10,l11,l12⟩:=hI.late e he
   exact⟨l1,l2,by simp;omega,oe,l4,l5,l6,l7,l8,l9,l10,fun hu=>⟨(l11 hu).1,by rw[List.getElem?_append_left l3];exact (l11 hu).2.1,(l11 hu).2.2⟩,l12⟩
 ·have hkl : ∀ e∈rs,e.k<H.length:=fun e he=>(hI.late e he).2.2.1
  rcases List.mem_cons.1 he with rfl | he <;> rcases List.mem_cons.1 he' with rfl | he'
  ·rfl
  ·exact absurd hke (by have:=hkl e' he'; simp only;omega)
  ·exact absurd hke (by have:=hkl e he;simp only;omega)
  ·exact hI.ks e he e' he' hke
 ·rcases List.mem_cons.1 he with rfl | he <;> rcases List.mem_cons.1 he' with rfl | he'
  ·rfl
  ·exact absurd hie.symm (hir e' he')
  ·exact absurd hie (hir e he)
  ·exact hI.is e he e' he' hie

theorem DrI.bind (hc:Closed all.toArray bf) (hg:gB all.toArray bf=true) (hI:DrI P all bf st n n0 m0 H0 w0 dfs L listed rs sl H m aR aV w)
 {e:RsE} {o:Oper} (he:e∈rs) (ho:all[e.i]? = some o) (hd:depsB o L=true) (hl:listed.getD e.i true=true)
 (hsel : ∀ (j:Nat) (o:Oper) cs b,all[j]? = some o->o.op ≠ .select cs b)
 {Kn:List (Nat × Value)->Prop} (h:putK n o.dst e.v sl Kn) :
 ∃ sl' aV',Kn sl' /\ DrI P all bf st n n0 m0 H0 w0 dfs (e.i::L) listed (rsDel rs e.i) sl' H m aR aV' w:=by
 have ho' : all.toArray[e.i]? = some o:=by simpa using ho
 obtain ⟨l1,l2,l3,oe,l4,l5,l6,l7,l8,l9,l10,l11,l12⟩:=hI.late e he
 rw[ho] at l4;cases l4
 obtain ⟨vR,hvR,hvr⟩:=l12 hl
 obtain ⟨sl2,hk2,hs2,hn2,hd2⟩:=zH (aR:=aV) h hI.rel.sl hI.rel.n hvr
 have ag:Agr (fun t=>o.dst=some t) aV (aV.put o.dst vR):=(Agr.put_l aV o.dst vR (fun t h=>h)).symm
 have hsel' := fun (j:Nat) (oj:Oper) (hj:all[j]? = some oj)=>fun cs k=>hsel j oj cs k hj
 have hnw : ∀ j,j∈L->waitsFor bf j e.i=false:=fun j hj=>by
  cases hwf:waitsFor bf j e.i with
  | false=>rfl
  | true=>exact absurd (hI.ord.dc hc hj hwf) l1
 refine⟨sl2,aV.put o.dst vR,hk2,⟨hI.size,hI.dl,⟨⟨o,ho,yH hd⟩,hI.ord⟩,fun j oj hj hjL hju=>?_,fun j oj hj hjL hju=>?_,fun e' he' => ?_,fun a ha b hb=>hI.ks a (xk.1 ha).1 b (xk.1 hb).1,fun a ha b hb=>hI.is a (xk.1 ha).1 b (xk.1 hb).1, ?_,⟨hn2,hs2,by rw[hd2];exact hI.rel.df,hI.rel.heap⟩,hI.fr,hI.len,by rw[hd2];exact hI.df⟩⟩
 ·have e0:j≠e.i:=fun h=>by subst h;rw[hl] at hju;cases hju
  have hjL:j∈L:=(List.mem_cons.1 hjL).resolve_left e0
  obtain ⟨h1,h2⟩:=hI.pend j oj hj hjL hju
  refine⟨h1,h2.of ag (hsel' j oj hj) (fun t ht h=>?_) (fun t ht h=>?_) (fun _=>.refl w)⟩
  ·exact ((zo hg ho' h).2 j oj (by simpa using hj) e0).2 (hnw j hjL) ht
  ·exact ((zo hg ho' h).2 j oj (by simpa using hj) e0).1 ht
 ·obtain ⟨e',h1,h2⟩:=hI.early j oj hj (fun h=>hjL (List.mem_cons_of_mem _ h)) hju
  exact⟨e',xk.2 ⟨h1,fun h=>hjL (by rw[<- h2,h];exact List.mem_cons_self ..)⟩,h2⟩
 ·obtain ⟨he1,he2⟩:=xk.1 he'
  obtain ⟨l1',l2',l3',oe',l4',l5',l6',l7',l8',l9',l10',l11',l12'⟩:=hI.late e' he1
  refine⟨fun h=>(List.mem_cons.1 h).elim he2 l1',l2',l3',oe',l4',l5',l6',l7',l8',fun x hx=>List.mem_cons_of_mem _ (l9' x hx),l10',fun hu=>?_,l12'⟩
  obtain ⟨g1,g2,g3⟩:=l11' hu
  refine⟨g1,g2,fun m' H' w' hm hh hn' => ?_⟩
  obtain ⟨e1,_⟩:=ag.exec (ops:=all.toArray) oe' (hsel' _ oe' l4') (fun t ht h=>by
   refine ((zo hg ho' h).2 e'.i oe' (by simpa using l4') he2).2 ?_ ht
   cases hwf:waitsFor bf e'.i e.i with
   | false=>rfl
   | true=>exact absurd (l9' _ hwf) l1)
  rw[<- e1]
  exact g3 m' H' w' hm hh hn'
 ·refine⟨hI.agr.1.trans (put_defers _ _ _).symm,hI.agr.2.1.trans (yc _ _ _).symm,fun t ht=>?_⟩
  by_cases hdt:o.dst=some t
  ·rw[hvR t hdt,hdt]
   refine (put_at aV t vR ?_).symm
   have:=hvR t hdt
   have:=(Array.getElem?_eq_some_iff.1 this).1
   rw[<- hI.agr.2.1];exact this
  ·rw[put_get _ _ _ _ hdt]
   refine hI.agr.2.2 t (fun hU=>ht ?_)
   obtain ⟨x,ox,h1,h2,h3⟩:=hU
   have hxe:x≠e.i:=fun h=>by subst h;rw[ho] at h1;cases h1;exact hdt h2
   refine⟨x,ox,h1,h2, ?_⟩
   rcases h3 with ⟨h3,h4⟩ | ⟨h3,h4⟩
   ·exact .inl ⟨List.mem_cons_of_mem _ h3,h4⟩
   ·exact .inr ⟨fun h=>(List.mem_cons.1 h).elim hxe h3,h4⟩
end
end Go.Af
namespace Go.Af
open Go
variable {rd:Bool}

section
variable {P:Program} {T:TT} {all:List Oper} {bf:Array Nat} {st:List Nat} {n n0:Nat} {m0:LM} {H0:List Blk} {w0:World} {dfs:List Deferred} {L:List Nat} {listed:Array Bool} {rs:List RsE} {sl:List (Nat × Value)} {H:List Blk} {m:LM} {aR aV:Act} {w:World}

theorem wE {l:Array Bool} {j i:Nat} (h:i≠j):(l.setIfInBounds j true).getD i true=l.getD i true:=getD_set_ne true (Ne.symm h)

theorem DrI.doV (hI:DrI P all bf st n n0 m0 H0 w0 dfs L listed rs sl H m aR aV w) (hc:Closed all.toArray bf) (hg:gB all.toArray bf=true) (hsel : ∀ (j:Nat) (o:Oper) cs b,all[j]? = some o->o.op ≠ .select cs b)
 {j:Nat} {o:Oper} (hj:all[j]? = some o) (hr:j∈Region.ready .any all.toArray listed) (hjL:j∈L) {q:Nat->Bool} {Q:Act->World->Prop}
 (h : ∀ v,DrI P all bf st n n0 m0 H0 w0 dfs L (listed.setIfInBounds j true) rs sl H m (aR.put o.dst v) aV w->Q (aR.put o.dst v) w):sOp P all.toArray q j Q aR w:=by
 have hu:=(mem_ready.1 hr).1
 have hjl:=yE hI.size hj
 obtain ⟨_,v,hv1,hv2⟩:=hI.pend j o hj hjL hu
 have nu:=DrI.noU hc hg hI.size hI.dl hj hr (fun x hx=>hI.ord.dc hc hjL hx)
 obtain ⟨e1,e2⟩:=hI.agr.exec (ops:=all.toArray) o (fun cs k=>hsel j o cs k hj) nu
 have ho' : all.toArray[j]? = some o:=by simpa using hj
 have fin:Q (aR.put o.dst v) w:=by
  refine h v ⟨by simpa using hI.size,dc_set hc hI.dl hr,hI.ord,fun i oi hi hiL hiu=>?_,fun i oi hi hiL hiu=>?_,fun e he=>?_,hI.ks,hI.is, ?_,hI.rel,hI.fr,hI.len,hI.df⟩
  ·by_cases e:i=j
   ·subst e;rw[zK hjl] at hiu;cases hiu
   ·rw[wE e] at hiu;exact hI.pend i oi hi hiL hiu
  ·have e:i≠j:=fun e=>by subst e;exact hiL hjL
   rw[wE e] at hiu;exact hI.early i oi hi hiL hiu
  ·obtain ⟨l1,l2,l3,oe,l4,l5,l6,l7,l8,l9,l10,l11,l12⟩:=hI.late e he
   have hne:e.i≠j:=fun h=>l1 (by rw[h];exact hjL)
   refine⟨l1,l2,l3,oe,l4,l5,l6,l7,l8,l9,l10,fun hu=>l11 (by rw[wE hne] at hu;exact hu),fun hl=>?_⟩
   rw[wE hne] at hl
   obtain ⟨vR,g1,g2⟩:=l12 hl
   refine⟨vR,fun d hd=>?_,g2⟩
   rw[put_get]
   ·exact g1 d hd
   ·intro h
    exact (zo hg ho' h).2 e.i oe (by simpa using l4) hne |>.1 hd
  ·refine⟨(put_defers _ _ _).trans hI.agr.1,(yc _ _ _).trans hI.agr.2.1,fun t ht=>?_⟩
   by_cases hd:o.dst=some t
   ·have g:=hv1 t hd
    have hs:=(Array.getElem?_eq_some_iff.1 g).1
    rw[hd,put_at aR t v (by rw[hI.agr.2.1];exact hs),g]
   ·rw[put_get _ _ _ _ hd]
    refine hI.agr.2.2 t (fun ⟨i,oi,h1,h2,h3⟩=>ht ?_)
    have hne:i≠j:=fun e=>by subst e;rw[hj] at h1;cases h1;exact hd h2
    exact⟨i,oi,h1,h2,by rw[wE hne];exact h3⟩
 unfold sOp
 simp only[ho']
 rw[e1,e2]
 rcases hv2 with ⟨g1,g2,g3⟩ | ⟨g1,rfl⟩
 ·simp only[g1,if_true]
  exact⟨g2,_,_,g3 w (fun _=>.refl w),fun _=>.refl w,fin⟩
 ·simp only[g1,Bool.false_eq_true,if_false]
  exact fin

theorem DrI.doA (hI:DrI P all bf st n n0 m0 H0 w0 dfs L listed rs sl H m aR aV w) (hc:Closed all.toArray bf) (hg:gB all.toArray bf=true) (hsel : ∀ (j:Nat) (o:Oper) cs b,all[j]? = some o->o.op ≠ .select cs b)
 {e:RsE} (he:e∈rs) {o:Oper} (hj:all[e.i]? = some o) (hr:e.i∈Region.ready .any all.toArray listed) {q:Nat->Bool} {Q:Act->World->Prop}
 (h : ∀ v m' w',DrI P all bf st n n0 m0 H0 w0 dfs L (listed.setIfInBounds e.i true) rs sl H m' (aR.put o.dst v) aV w' -> Q (aR.put o.dst v) w'):sOp P all.toArray q e.i Q aR w:=by
 have hu:=(mem_ready.1 hr).1
 have hjl:=yE hI.size hj
 obtain ⟨l1,l2,l3,oe,l4,l5,l6,l7,l8,l9,l10,l11,l12⟩:=hI.late e he
 rw[hj] at l4;cases l4
 obtain ⟨g1,g2,g3⟩:=l11 hu
 obtain ⟨ob,l,vR,k1,kl,k2,k3⟩:=g3 m H w (LM.le.refl m) hI.rel.heap g1
 have nu:=DrI.noU hc hg hI.size hI.dl hj hr l9
 obtain ⟨e1,e2⟩:=hI.agr.exec (ops:=all.toArray) o (fun cs k=>hsel e.i o cs k hj) nu
 have ho' : all.toArray[e.i]? = some o:=by simpa using hj
 obtain ⟨d,hd,hdn⟩ : ∃ d,o.dst=some d/\d<n:=by
  unfold dstIn at l8
  split at l8
  ·rename_i d hd;exact⟨d,hd,Nat.le_of_ble_eq_true l8⟩
  ·cases l8
 have hds:d<aR.tmps.size:=by rw[hI.agr.2.1,hI.rel.n];exact hdn
 have hle:=LM.le_put (l:=l) g1
 have hff:=Fr.fill (n:=n0) (H:=H) (ob:=ob) l2 g1 kl
 have hx:ExtW w { w with heap:=w.heap.push ob } := .push _ _
 unfold sOp
 simp only[ho']
 have hw:Region.wanted o (yielded all.toArray aR.tmps)=true:=by simp[Region.wanted,l5]
 simp only[hw,if_true]
 refine⟨l7, .value vR, { w with heap:=w.heap.push ob },by rw[e1];exact k1,fun _=>hx, ?_⟩
 refine h vR _ _ ⟨by simpa using hI.size,dc_set hc hI.dl hr,hI.ord,fun i oi hi hiL hiu=>?_,fun i oi hi hiL hiu=>?_,fun e' he' => ?_,hI.ks,hI.is, ?_,⟨hI.rel.n,hI.rel.sl.mono hle,hI.rel.df.keep hff.keep,hI.rel.heap.fill g1 g2 kl k2⟩,hI.fr.trans hff,hI.len,hI.df⟩
 ·have hne:i≠e.i:=fun h=>l1 (h ▸ hiL)
  rw[wE hne] at hiu
  obtain ⟨p1,p2⟩:=hI.pend i oi hi hiL hiu
  exact⟨p1,p2.of (.refl (fun _=>False) aV) (fun cs k=>hsel i oi cs k hi) (fun _ _ h=>h) (fun _ _ h=>h) (fun _=>hx)⟩
 ·by_cases hie:i=e.i
  ·exact⟨e,he,hie.symm⟩
  ·rw[wE hie] at hiu;exact hI.early i oi hi hiL hiu
 ·obtain ⟨l1',l2',l3',oe',l4',l5',l6',l7',l8',l9',l10',l11',l12'⟩:=hI.late e' he'
  by_cases hne:e'.i=e.i
  ·have:=hI.is e' he' e he hne
   subst this
   rw[hj] at l4'; cases l4'
   refine⟨l1',l2',l3',o,hj,l5',l6',l7',l8',l9',l10',fun hu' => ?_,fun _=>⟨vR,fun d' hd' => ?_,k3⟩⟩
   ·rw[zK hjl] at hu'; cases hu'
   ·rw[hd] at hd'; cases hd'; rw[hd];exact put_at aR d vR hds
  ·refine⟨l1',l2',l3',oe',l4',l5',l6',l7',l8',l9',l10',fun hu' => ?_,fun hl=>?_⟩
   ·rw[wE hne] at hu'
    obtain ⟨q1,q2,q3⟩:=l11' hu'
    have hk:e'.k≠e.k:=fun h=>hne (hI.ks e' he' e he h)
    exact⟨by rw[LM.put_ne m _ hk];exact q1,q2,fun m' H' w' hm hh hn' => q3 m' H' w' (hle.trans hm) hh hn'⟩
   ·rw[wE hne] at hl
    obtain ⟨v',q1,q2⟩:=l12' hl
    refine⟨v',fun d' hd' => ?_,q2.mono hle⟩
    rw[put_get]
    ·exact q1 d' hd'
    ·intro h
     exact ((zo hg ho' h).2 e'.i oe' (by simpa using l4') hne).1 hd'
 ·refine (Agr.put_l (V:=Uf all L (listed.setIfInBounds e.i true)) aR o.dst vR (fun t ht=>⟨e.i,o,hj,ht, .inr ⟨l1,zK hjl⟩⟩)).trans (hI.agr.mono ?_)
  rintro t ⟨i,oi,h1,h2,h3⟩
  have hne:i≠e.i:=fun h=>by
   subst h
   rcases h3 with ⟨h3,_⟩ | ⟨_,h3⟩
   ·exact l1 h3
   ·rw[hu] at h3;cases h3
  exact⟨i,oi,h1,h2,by rw[wE hne];exact h3⟩

theorem DrI.after (hT:TOk P T) (hI:DrI P all bf st n n0 m0 H0 w0 dfs L listed rs sl H m aR aV w) (hc:Closed all.toArray bf) (hg:gB all.toArray bf=true) (hst:stB all.toArray st=true) (hsel : ∀ (j:Nat) (o:Oper) cs b,all[j]? = some o->o.op ≠ .select cs b)
 {j:Nat} {o:Oper} (hj:all[j]? = some o) (hr:j∈Region.ready .any all.toArray listed) (hjL:j ∉ L) (hjr : ∀ e∈rs,e.i≠j) (hd:depsB o L=true) {rc:List Nat} (hrB:rcB all.toArray st rc=true) (hrL : ∀ x∈rc,x∈L)
 (hcov : ∀ (v:Nat) (ov:Oper),all[v]? = some ov->v∈L->wM ov.op=true->waitsFor bf j v=true\/v∈rc\/v∈st)
 {vR:Value} {m' : LM} {H' : List Blk} {w' : World} {sl' : List (Nat × Value)} (hs:wU m' sl' (aV.put o.dst vR).tmps) (hh:HRel m' H' w') (hf:Fr H.length m H w m' H' w') (hrs : ∀ e∈rs,listed.getD e.i true=false->H'[e.k]? = some e.b) (hrc:rcK P T all sl' H' rc) :
 ∃ aV',DrI P all bf st n n0 m0 H0 w0 dfs (j::L) (listed.setIfInBounds j true) rs sl' H' m' (aR.put o.dst vR) aV' w' := by
 have hu:=(mem_ready.1 hr).1
 have hjl:=yE hI.size hj
 have ho' : all.toArray[j]? = some o:=by simpa using hj
 have hle:m.le m' := hf.le hI.rel.heap.dom
 have hnw : ∀ x,x∈L->waitsFor bf x j=false:=fun x hx=>by
  cases hwf:waitsFor bf x j with
  | false=>rfl
  | true=>exact absurd (hI.ord.dc hc hx hwf) hjL
 -- those that are looked at again
 have hsub : ∀ (rc:List Nat),rcB all.toArray st rc=true->rcK P T all sl' H' rc->rcB all.toArray st (rc.filter (fun x => !listed.getD x true))=true/\rcK P T all sl' H' (rc.filter (fun x => !listed.getD x true)):=by
  intro rc
  induction rc with
  | nil=>intro _ _;exact⟨rfl,trivial⟩
  | cons a r ih =>
    intro h1 h2
    simp only[rcB,Bool.and_eq_true,Bool.not_eq_true',List.all_eq_true] at h1
    obtain ⟨⟨⟨⟨q1,q2⟩,q3⟩,q4⟩,q5⟩:=h1
    obtain ⟨i1,i2⟩:=ih q5 h2.2
    simp only[List.filter_cons]
    cases hl:listed.getD a true with
    | true=>simp only[Bool.not_true,Bool.false_eq_true,if_false];exact⟨i1,i2⟩
    | false =>
      simp only[Bool.not_false,if_true]
      refine⟨?_,h2.1,i2⟩
      simp only[rcB,Bool.and_eq_true,Bool.not_eq_true',List.all_eq_true]
      refine⟨⟨⟨⟨q1,q2⟩, ?_⟩,fun x hx=>q4 x (List.mem_filter.1 hx).1⟩,i1⟩
      cases hx:(r.filter (fun x => !listed.getD x true)).contains a with
      | false=>rfl
      | true =>
        have:a∈r:=(List.mem_filter.1 (by rw[List.contains_eq_mem] at hx;exact of_decide_eq_true hx)).1
        have:r.contains a=true:=by simpa using this
        rw[this] at q3;cases q3
 obtain ⟨hrB',hrc'⟩:=hsub rc hrB hrc
 obtain ⟨b,hb1,hb2,hb3⟩:=rc_ok hT hg hsel hh _ hrB' hrc' hs
 have hsel' := fun (x:Nat) (ox:Oper) (hx:all[x]? = some ox)=>fun cs k=>hsel x ox cs k hx
 -- what is in the list
 have hrcm : ∀ x,x∈rc.filter (fun x => !listed.getD x true)->x∈rc/\x∈L/\listed.getD x true=false:=fun x hx=>by
  obtain ⟨h1,h2⟩:=List.mem_filter.1 hx
  exact⟨h1,hrL x h1,by simpa using h2⟩
 have hrcs : ∀ (rc:List Nat) (x:Nat),rcB all.toArray st rc=true->x∈rc->x ∉ st/\∃ ox,all[x]? = some ox/\wM ox.op=true:=by
  intro rc
  induction rc with
  | nil=>intro x _ h;cases h
  | cons a r ih =>
    intro x h1 hx
    simp only[rcB,Bool.and_eq_true,Bool.not_eq_true',List.all_eq_true] at h1
    obtain ⟨⟨⟨⟨q1,q2⟩,q3⟩,q4⟩,q5⟩:=h1
    rcases List.mem_cons.1 hx with rfl | hx
    ·refine⟨fun h=>?_, ?_⟩
     ·have:st.contains x=true:=by simpa using h
      rw[this] at q2;cases q2
     ·cases hox:all[x]? with
      | none=>simp[hox] at q1
      | some ox =>
        have:all.toArray[x]? = some ox:=by simpa using hox
        simp only[this,Bool.and_eq_true] at q1
        exact⟨ox,rfl,q1.1⟩
    ·exact ih x q5 hx
 -- from the old virtual act to the new one
 have ag:Agr (fun t=>o.dst=some t\/∃ (i:Nat) (oi:Oper),i∈rc.filter (fun x => !listed.getD x true)/\all[i]? = some oi/\oi.dst=some t) aV b:=by
  refine ((Agr.put_l aV o.dst vR (fun t h=>h)).symm.mono ?_).trans (hb2.mono ?_)
  ·intro t h;exact .inl h
  ·intro t h;exact .inr h
 have hbn:b.tmps.size=n:=by rw[<- hb2.2.1,yc];exact hI.rel.n
 have hbd:b.defers=aV.defers:=by rw[<- hb2.1,put_defers]
 have hfw:=hf.weaken hI.len (Nat.le_refl _)
 refine⟨b,⟨by simpa using hI.size,dc_set hc hI.dl hr,⟨⟨o,hj,yH hd⟩,hI.ord⟩,fun i oi hi hiL hiu=>?_,fun i oi hi hiL hiu=>?_,fun e he=>?_,hI.ks,hI.is, ?_,⟨hbn,hb1,by rw[hbd];exact hI.rel.df.keep hf.keep,hh⟩,hI.fr.trans hfw,hfw.len hI.len,hbd.trans hI.df⟩⟩
 ·have hne:i≠j:=fun e=>by subst e;rw[zK hjl] at hiu;cases hiu
  rw[wE hne] at hiu
  have hiL:i∈L:=(List.mem_cons.1 hiL).resolve_left hne
  obtain ⟨p1,p2⟩:=hI.pend i oi hi hiL hiu
  refine⟨p1, ?_⟩
  have notw:waitsFor bf j i=false:=by
   cases hwf:waitsFor bf j i with
   | false=>rfl
   | true=>have:=ready_dc hc hI.dl hr hwf;rw[getD_tf (yE hI.size hi),this] at hiu;cases hiu
  by_cases his:i∈st
  ·have hcs:st.contains i=true:=by simpa using his
   rw[hcs] at p2 ⊢
   have hst' := hst
   unfold stB at hst'
   rw[List.all_eq_true] at hst'
   have h3:=hst' i his
   simp only[show all.toArray[i]? = some oi by simpa using hi,Bool.and_eq_true,List.all_eq_true,List.mem_range,Bool.or_eq_true] at h3
   refine p2.of ag (hsel' i oi hi) (fun t ht h=>?_) (fun t ht h=>?_) (fun h=>by cases h)
   ·rcases h with h | ⟨x,ox,hx,hox,hxt⟩
    ·exact ((zo hg ho' h).2 i oi (by simpa using hi) hne).2 (hnw i hiL) ht
    ·obtain ⟨x1,x2,x3⟩:=hrcm x hx
     obtain ⟨s1,ox',s2,s3⟩:=hrcs rc x hrB x1
     rw[hox] at s2;cases s2
     have h4:=h3.2 x (by simpa using (List.getElem?_eq_some_iff.1 hox).1)
     rcases h4 with (h4 | h4) | h4
     ·exact lookN_spec h4 (by simpa using hox) (by simpa using hi) hxt ht
     ·exact s1 (by simpa using h4)
     ·simp[hox,s3] at h4
   ·rcases h with h | ⟨x,ox,hx,hox,hxt⟩
    ·exact ((zo hg ho' h).2 i oi (by simpa using hi) hne).1 ht
    ·obtain ⟨x1,x2,x3⟩:=hrcm x hx
     have hne2:i≠x:=fun e=>(hrcs rc x hrB x1).1 (e ▸ his)
     exact ((zo hg (show all.toArray[x]? = some ox by simpa using hox) hxt).2 i oi (by simpa using hi) hne2).1 ht
  ·have hcs:st.contains i=false:=by
    cases h:st.contains i with
    | false=>rfl
    | true=>exact absurd (by simpa using h) his
   rw[hcs]
   rcases hcov i oi hi hiL p1 with h | h | h
   ·rw[notw] at h;cases h
   ·exact hb3 i oi (List.mem_filter.2 ⟨h,by rw[hiu];rfl⟩) hi
   ·exact absurd h his
 ·have hne:i≠j:=fun e=>hiL (by rw[e];exact List.mem_cons_self ..)
  rw[wE hne] at hiu
  exact hI.early i oi hi (fun h=>hiL (List.mem_cons_of_mem _ h)) hiu
 ·obtain ⟨l1,l2,l3,oe,l4,l5,l6,l7,l8,l9,l10,l11,l12⟩:=hI.late e he
  have hne:=hjr e he
  refine⟨fun h=>(List.mem_cons.1 h).elim hne l1,l2,Nat.lt_of_lt_of_le l3 (hf.len (Nat.le_refl _)),oe,l4,l5,l6,l7,l8,fun x hx=>List.mem_cons_of_mem _ (l9 x hx),l10,fun hu' => ?_,fun hl=>?_⟩
  ·rw[wE hne] at hu'
   obtain ⟨q1,q2,q3⟩:=l11 hu'
   refine⟨hf.base' e.k l3 q1,hrs e he hu',fun m2 H2 w2 hm2 hh2 hn2=>?_⟩
   obtain ⟨e1,_⟩:=ag.exec (ops:=all.toArray) oe (hsel' _ oe l4) (fun t ht h=>by
    rcases h with h | ⟨x,ox,hx,hox,hxt⟩
    ·refine ((zo hg ho' h).2 e.i oe (by simpa using l4) hne).2 ?_ ht
     cases hwf:waitsFor bf e.i j with
     | false=>rfl
     | true=>exact absurd (l9 _ hwf) hjL
    ·obtain ⟨x1,x2,x3⟩:=hrcm x hx
     obtain ⟨s1,ox',s2,s3⟩:=hrcs rc x hrB x1
     rw[hox] at s2;cases s2
     exact l10 x ox t hox s3 s1 hxt ht)
   rw[<- e1]
   exact q3 m2 H2 w2 (hle.trans hm2) hh2 hn2
  ·rw[wE hne] at hl
   obtain ⟨v',q1,q2⟩:=l12 hl
   refine⟨v',fun d' hd' => ?_,q2.mono hle⟩
   rw[put_get]
   ·exact q1 d' hd'
   ·intro h
    exact ((zo hg ho' h).2 e.i oe (by simpa using l4) hne).1 hd'
 ·refine (hI.agr.put o.dst vR ?_).trans (hb2.mono ?_)
  ·rintro t ⟨i,oi,h1,h2,h3⟩
   by_cases hdt:o.dst=some t
   ·exact .inr hdt
   ·have hne:i≠j:=fun e=>by subst e;rw[hj] at h1;cases h1;exact hdt h2
    refine .inl ⟨i,oi,h1,h2, ?_⟩
    rw[wE hne]
    rcases h3 with ⟨h3,h4⟩ | ⟨h3,h4⟩
    ·exact .inl ⟨List.mem_cons_of_mem _ h3,h4⟩
    ·exact .inr ⟨fun h=>(List.mem_cons.1 h).elim hne h3,h4⟩
  ·rintro t ⟨x,ox,hx,hox,hxt⟩
   obtain ⟨x1,x2,x3⟩:=hrcm x hx
   have hne:x≠j:=fun e=>hjL (e ▸ x2)
   exact⟨x,ox,hox,hxt, .inl ⟨List.mem_cons_of_mem _ x2,by rw[wE hne];exact x3⟩⟩
end
end Go.Af
namespace Go.Af
open Go
variable {rd:Bool}

theorem yI {k:Nat} {p:Nat->Bool} (h:(List.range k).all p=true) {i:Nat} (hi:i<k):p i=true:=by
 rw[List.all_eq_true] at h;exact h i (List.mem_range.2 hi)
theorem xh {l:List Nat} {x:Nat} (h:l.contains x=true):x∈l:=by rw[List.contains_eq_mem] at h;exact of_decide_eq_true h
theorem cont_not {l:List Nat} {x:Nat} (h:l.contains x=false):x ∉ l:=by rw[List.contains_eq_mem] at h;exact of_decide_eq_false h
theorem not_both {o:Op} (h:wM o=true) (k:resOp o=true):False:=by cases o <;> first | (cases h;done) | (cases k;done)

section
variable {P:Program} {T:TT} {all:List Oper} {bf:Array Nat} {st:List Nat} {n n0:Nat} {m0:LM} {H0:List Blk} {w0:World} {dfs:List Deferred} {K:List (Nat × Value)->List Blk->Prop}

theorem DrI.eager (hT:TOk P T) (hc:Closed all.toArray bf) (hg:gB all.toArray bf=true) (hst:stB all.toArray st=true) (hsel : ∀ (j:Nat) (o:Oper) cs b,all[j]? = some o->o.op ≠ .select cs b) {listed:Array Bool} {m:LM} {aR:Act} {w:World} :
 ∀ (es:List DEv) {L:List Nat} {rs:List RsE} {sl:List (Nat × Value)} {H:List Blk} {aV:Act} (_:evB all.toArray bf st es L (rs.map (·.i))=true) (_:yj P T n all es rs K sl H) (_:DrI P all bf st n n0 m0 H0 w0 dfs L listed rs sl H m aR aV w),
 ∃ es' L' rs' sl' H' aV',evB all.toArray bf st es' L' (rs'.map (·.i))=true/\yj P T n all es' rs' K sl' H' /\ DrI P all bf st n n0 m0 H0 w0 dfs L' listed rs' sl' H' m aR aV' w /\
   (es' = []\/∃ i rc r o,es' = .op i rc::r/\all[i]? = some o/\wM o.op=false/\listed.getD i true=false)
 | [],L,rs,sl,H,aV,hB,h,hI=>⟨[],L,rs,sl,H,aV,hB,h,hI, .inl rfl⟩
 | .res i::r,L,rs,sl,H,aV,hB,h,hI=>by
   simp only[evB,Bool.and_eq_true,Bool.not_eq_true'] at hB
   obtain ⟨⟨⟨b1,b2⟩,b3⟩,b4⟩:=hB
   simp only[yj,yf] at h
   cases ho:all[i]? with
   | none=>simp[ho] at b3
   | some o =>
     have ho' : all.toArray[i]? = some o:=by simpa using ho
     rw[ho] at h
     simp only[ho',Bool.and_eq_true,Option.isNone_iff_eq_none] at b3
     obtain ⟨⟨⟨c1,c2⟩,c3⟩,c4⟩:=b3
     have hir : ∀ e∈rs,e.i≠i:=fun e he hei=>cont_not b2 (List.mem_map.2 ⟨e,he,hei⟩)
     have hun:listed.getD i true=false:=by
      cases hl:listed.getD i true with
      | false=>rfl
      | true =>
        obtain ⟨e,he,hei⟩:=hI.early i o ho (cont_not b1) hl
        exact absurd hei (hir e he)
     obtain ⟨v,b,hk,hI'⟩:=hI.reserve hT hc ho c1 c2 (cont_not b1) hir c3 hun h.1 (fun x ox d hx hv hs hd=>by
      have:=yI c4 (show x<all.toArray.size by simpa using (List.getElem?_eq_some_iff.1 hx).1)
      simp only[Bool.or_eq_true] at this
      rcases this with (h1 | h1) | h1
      ·exact lookN_spec h1 (by simpa using hx) ho' hd
      ·exact absurd (xh h1) hs
      ·simp[hx,hv] at h1) (Kn:=fun v b H' => yj P T n all r (⟨i,v,H.length,b⟩::rs) K sl H') h.2
     exact DrI.eager hT hc hg hst hsel r (rs:=⟨i,v,H.length,b⟩::rs) b4 hk hI'
 | .op i rc::r,L,rs,sl,H,aV,hB,h,hI=>by
   have hB0:=hB
   have h0:=h
   simp only[evB,Bool.and_eq_true,Bool.not_eq_true'] at hB
   obtain ⟨⟨b1,b2⟩,b3⟩:=hB
   simp only[yj,yf] at h
   cases ho:all[i]? with
   | none=>simp[ho] at b2
   | some o =>
     have ho' : all.toArray[i]? = some o:=by simpa using ho
     rw[ho] at h
     simp only[ho',Bool.and_eq_true] at b2
     obtain ⟨c1,c2⟩:=b2
     simp only at h
     cases hf:yC rs i with
     | some e =>
       obtain ⟨he,rfl⟩:=rsFind_some hf
       rw[hf] at h
       cases hl:listed.getD e.i true with
       | true =>
         obtain ⟨sl',aV',k1,k2⟩:=hI.bind hc hg he ho c1 hl hsel (Kn:=fun sl' => yj P T n all r (rsDel rs e.i) K sl' H) h
         refine DrI.eager hT hc hg hst hsel r (rs:=rsDel rs e.i) ?_ k1 k2
         rw[rsDel_map];exact b3
       | false =>
         refine⟨_,L,rs,sl,H,aV,hB0,h0,hI, .inr ⟨e.i,rc,r,o,rfl,ho, ?_,hl⟩⟩
         obtain ⟨_,_,_,oe,l4,_,l6,_⟩:=hI.late e he
         rw[ho] at l4;cases l4
         cases hv:wM o.op with
         | false=>rfl
         | true=>exact (not_both hv l6).elim
     | none =>
       rw[hf] at h
       have hir:=rsFind_none hf
       have hun:listed.getD i true=false:=by
        cases hl:listed.getD i true with
        | false=>rfl
        | true =>
          obtain ⟨e,he,hei⟩:=hI.early i o ho (cont_not b1) hl
          exact absurd hei (hir e he)
       cases hv:wM o.op with
       | false=>exact⟨_,L,rs,sl,H,aV,hB0,h0,hI, .inr ⟨i,rc,r,o,rfl,ho,hv,hun⟩⟩
       | true =>
         simp only[hv] at h
         obtain ⟨sl',aV',k1,k2⟩:=hI.value hT hc hg hst hsel ho hv (cont_not b1) c1 hun (Kn:=fun sl' H' => yj P T n all r rs K sl' H') h
         refine DrI.eager hT hc hg hst hsel r ?_ k1 k2
         have:(rs.map (·.i)).filter (fun x=>x != i)=rs.map (·.i):=by
          rw[List.filter_eq_self]
          intro x hx
          obtain ⟨e,he,rfl⟩:=List.mem_map.1 hx
          simpa using hir e he
         rw[this] at b3;exact b3

def unl (l:Array Bool) (k:Nat):Nat:=((List.range k).filter (fun i => !(l.getD i true))).length
theorem unl_lt {l:Array Bool} {k j:Nat} (hs:l.size=k) (hj:j<k) (hu:l.getD j true=false):unl (l.setIfInBounds j true) k<unl l k:=by
 refine filt_lt (j:=j) (List.mem_range.2 hj) (by rw[hu];rfl) (by rw[zK (hs ▸ hj)];rfl) (fun i hi=>?_)
 by_cases e:i=j
 ·subst e;rw[hu];rfl
 ·rw[wE e] at hi;exact hi
theorem unl_zero {l:Array Bool} {k:Nat} (h:unl l k=0) : ∀ i,i<k->l.getD i true=true:=by
 intro i hi
 cases hl:l.getD i true with
 | true=>rfl
 | false =>
   have:i∈(List.range k).filter (fun i => !(l.getD i true)):=List.mem_filter.2 ⟨List.mem_range.2 hi,by rw[hl];rfl⟩
   rw[List.eq_nil_of_length_eq_zero h] at this;cases this

theorem DrI.any (hT:TOk P T) (hc:Closed all.toArray bf) (hg:gB all.toArray bf=true) (hst:stB all.toArray st=true) (hsel : ∀ (j:Nat) (o:Oper) cs b,all[j]? = some o->o.op ≠ .select cs b) :
 ∀ (fuel:Nat) {es:List DEv} {L:List Nat} {listed:Array Bool} {rs:List RsE} {sl:List (Nat × Value)} {H:List Blk} {m:LM} {aR aV:Act} {w:World} (_:evB all.toArray bf st es L (rs.map (·.i))=true) (_:yj P T n all es rs K sl H) (_:DrI P all bf st n n0 m0 H0 w0 dfs L listed rs sl H m aR aV w) (_:unl listed all.length<=fuel),
   sAny P all.toArray (fun _=>false) (fun aR' w' => ∃ sl' H' m',K sl' H' /\ SRel m' { n,sl:=sl' } H' aR' w' /\ Fr n0 m0 H0 w0 m' H' w' /\ aR'.defers=dfs) fuel listed aR w:=by
 intro fuel
 induction fuel with
 | zero =>
   intro es L listed rs sl H m aR aV w hB h hI hu
   have hz:=unl_zero (Nat.le_zero.1 hu)
   obtain ⟨es',L',rs',sl',H',aV',hB',h',hI',hor⟩:=DrI.eager hT hc hg hst hsel es hB h hI
   have hnr:Region.ready .any all.toArray listed = []:=by
    cases hr:Region.ready .any all.toArray listed with
    | nil=>rfl
    | cons a r =>
      have ha:a∈Region.ready .any all.toArray listed:=by rw[hr];exact List.mem_cons_self ..
      obtain ⟨h1,o,h2,_⟩:=mem_ready.1 ha
      have:=hz a (by simpa using (Array.getElem?_eq_some_iff.1 h2).1)
      rw[this] at h1;cases h1
   rcases hor with rfl | ⟨i,rc,r,o,rfl,ho,_,hl⟩
   ·refine⟨hnr,sl',H',m,h', ?_,hI'.fr,hI'.agr.1.trans hI'.df⟩
    have hU : ∀ t, ¬ Uf all L' listed t:=by
     rintro t ⟨i,o,h1,h2,h3⟩
     have hi:i<all.length:=(List.getElem?_eq_some_iff.1 h1).1
     rcases h3 with ⟨_,h4⟩ | ⟨h4,_⟩
     ·rw[hz i hi] at h4;cases h4
     ·have:=yI (show (List.range all.toArray.size).all (fun i=>L'.contains i)=true from hB') (show i<all.toArray.size by simpa using hi)
      exact h4 (xh this)
    have e:aR=aV' := by
     have h1:=hI'.agr.1
     have h2:aR.tmps=aV'.tmps:=Array.ext_getElem? fun t=>hI'.agr.2.2 t (hU t)
     cases aR;cases aV'; simp only at h1 h2;rw[h1,h2]
    rw[e];exact hI'.rel
   ·rw[hz i (by have:=(List.getElem?_eq_some_iff.1 ho).1;exact this)] at hl;cases hl
 | succ fuel ih =>
   intro es L listed rs sl H m aR aV w hB h hI hu
   obtain ⟨es',L',rs',sl',H',aV',hB',h',hI',hor⟩:=DrI.eager hT hc hg hst hsel es hB h hI
   have step : ∀ j o,all[j]? = some o->j∈Region.ready .any all.toArray listed->unl (listed.setIfInBounds j true) all.length<=fuel:=by
    intro j o hj hr
    have:=unl_lt hI.size (List.getElem?_eq_some_iff.1 hj).1 (mem_ready.1 hr).1
    omega
   refine⟨fun hnr=>?_,fun j hj=>?_⟩
   ·-- nothing is ready: all is done
    have hL : ∀ i∈L',listed.getD i true=true:=by
     intro i hi
     cases hl:listed.getD i true with
     | true=>rfl
     | false =>
       obtain ⟨j,_,hj⟩:=OrdL.first hI'.size hI'.ord ⟨i,hi,hl⟩
       rw[hnr] at hj;cases hj
    rcases hor with rfl | ⟨i,rc,r,o,rfl,ho,_,hl⟩
    ·refine⟨sl',H',m,h', ?_,hI'.fr,hI'.agr.1.trans hI'.df⟩
     have hall : ∀ i,i<all.length->i∈L' := fun i hi=>xh (yI (show (List.range all.toArray.size).all (fun i=>L'.contains i)=true from hB') (show i<all.toArray.size by simpa using hi))
     have hU : ∀ t, ¬ Uf all L' listed t:=by
      rintro t ⟨i,o,h1,h2,h3⟩
      have hi:i<all.length:=(List.getElem?_eq_some_iff.1 h1).1
      rcases h3 with ⟨h3,h4⟩ | ⟨h4,_⟩
      ·rw[hL i h3] at h4;cases h4
      ·exact h4 (hall i hi)
     have e:aR=aV' := by
      have h1:=hI'.agr.1
      have h2:aR.tmps=aV'.tmps:=Array.ext_getElem? fun t=>hI'.agr.2.2 t (hU t)
      cases aR;cases aV'; simp only at h1 h2;rw[h1,h2]
     rw[e];exact hI'.rel
    ·have:i∈Region.ready .any all.toArray listed:=by
      simp only[evB,Bool.and_eq_true,Bool.not_eq_true',show all.toArray[i]? = some o by simpa using ho] at hB'
      obtain ⟨⟨_,c1,_⟩,_⟩:=hB'
      refine mem_ready.2 ⟨hl,o,by simpa using ho,fun e he hb=>?_⟩
      have hm:=yH c1 e he hb
      obtain ⟨oe,hoe⟩:=hI'.ord.op hm
      rw[<- getD_tf (yE hI'.size hoe)]
      exact hL _ hm
     rw[hnr] at this;cases this
   ·obtain ⟨hju,o,hjo,_⟩:=mem_ready.1 hj
    have hjo:all[j]? = some o:=by simpa using hjo
    have hst' := step j o hjo hj
    by_cases hjL:j∈L'
    ·exact hI'.doV hc hg hsel hjo hj hjL fun v hI2=>ih hB' h' hI2 hst'
    ·rcases hor with rfl | ⟨i,rc,r,oi,rfl,hoi,hvi,hil⟩
     ·exact absurd (xh (yI (show (List.range all.toArray.size).all (fun i=>L'.contains i)=true from hB') (show j<all.toArray.size by simpa using (List.getElem?_eq_some_iff.1 hjo).1))) hjL
     ·have hB2:=hB'
      simp only[evB,Bool.and_eq_true,Bool.not_eq_true',show all.toArray[i]? = some oi by simpa using hoi,hvi,Bool.or_eq_true,Bool.false_eq_true,false_or] at hB2
      obtain ⟨⟨b1,c1,c2,c3⟩,b3⟩:=hB2
      by_cases hjr : ∃ e∈rs',e.i=j
      ·obtain ⟨e,he,rfl⟩:=hjr
       exact hI'.doA hc hg hsel he hjo hj fun v m' w' hI2=>ih hB' h' hI2 hst'
      ·have hij:j=i:=by
        have:=yI c2 (show j<all.toArray.size by simpa using (List.getElem?_eq_some_iff.1 hjo).1)
        simp only[Bool.or_eq_true,beq_iff_eq] at this
        rcases this with ((h1 | h1) | h1) | h1
        ·exact h1
        ·exact absurd (xh h1) hjL
        ·have:=ready_dc hc hI'.dl hj h1
         rw[<- getD_tf (yE hI'.size hoi),hil] at this;cases this
        ·obtain ⟨e,he,hei⟩:=List.mem_map.1 (xh h1)
         exact absurd ⟨e,he,hei⟩ hjr
       subst hij
       rw[hjo] at hoi;cases hoi
       have hnr : ∀ e∈rs',e.i≠j:=fun e he hei=>hjr ⟨e,he,hei⟩
       have hjr' : (rs'.map (·.i)).contains j=false:=by
        cases hx:(rs'.map (·.i)).contains j with
        | false=>rfl
        | true=>obtain ⟨e,he,hei⟩:=List.mem_map.1 (xh hx);exact absurd hei (hnr e he)
       rcases c3 with c3 | c3
       ·rw[hjr'] at c3;cases c3
       obtain ⟨⟨⟨d1,d2⟩,d3⟩,d4⟩:=c3
       have hdl : ∀ x∈rc,x∈L' := fun x hx=>by rw[List.all_eq_true] at d3;exact xh (d3 x hx)
       have hcov : ∀ (v:Nat) (ov:Oper),all[v]? = some ov->v∈L' -> wM ov.op=true->waitsFor bf j v=true\/v∈rc\/v∈st:=by
        intro v ov hv hvL hvv
        have:=yI d4 (show v<all.toArray.size by simpa using (List.getElem?_eq_some_iff.1 hv).1)
        simp only[Bool.or_eq_true,show all.toArray[v]? = some ov by simpa using hv,hvv,Bool.not_true,Bool.false_eq_true,or_false,Bool.not_eq_true'] at this
        rcases this with ((h1 | h1) | h1) | h1
        ·exact absurd hvL (cont_not h1)
        ·exact .inl h1
        ·exact .inr (.inl (xh h1))
        ·exact .inr (.inr (xh h1))
       have hfn:yC rs' j=none:=by
        cases hx:yC rs' j with
        | none=>rfl
        | some e=>have:=rsFind_some hx;exact absurd this.2 (hnr e this.1)
       have hfil:(rs'.map (·.i)).filter (fun x=>x != j)=rs'.map (·.i):=by
        rw[List.filter_eq_self]
        intro x hx
        obtain ⟨e,he,rfl⟩:=List.mem_map.1 hx
        simpa using hnr e he
       rw[hfil] at b3
       simp only[yj,yf,hjo,hfn,hvi] at h'
       have nu:=DrI.noU hc hg hI'.size hI'.dl hjo hj (deps_waits hc hI'.ord hjo c1)
       obtain ⟨e1,e2⟩:=hI'.agr.exec (ops:=all.toArray) o (fun cs k=>hsel j o cs k hjo) nu
       obtain ⟨sl1,hs1,hor2⟩:=zA (aR:=aV') h' hI'.rel.sl o rfl
       unfold sOp
       simp only[show all.toArray[j]? = some o by simpa using hjo]
       rw[e1,e2]
       rcases hor2 with ⟨hw,hx⟩ | ⟨hw,hx⟩
       ·simp only[hw,if_true]
        obtain ⟨hS,hdf⟩:=cstep_sound hT hx
        obtain ⟨nx,w1,q1,q2⟩:=hS m aV' w hs1 hI'.rel.heap
        refine⟨hdf,nx,w1,q1,q2.mono fun vR w2 ⟨v,H2,m2,k1,k2,k3,k4⟩=>⟨fun h=>(by cases h), ?_⟩⟩
        obtain ⟨sl2,⟨⟨g1,g2⟩,g3⟩,hs2,_,_⟩:=zH (aR:=aV') k1 (hs1.mono (k4.le hI'.rel.heap.dom)) hI'.rel.n k2
        obtain ⟨aV2,hI2⟩:=hI'.after hT hc hg hst hsel hjo hj hjL hnr c1 d2 hdl hcov hs2 k3 k4 (fun e he _=>rsOk_spec g1 he) g2
        exact ih b3 g3 hI2 hst'
       ·simp only[hw,Bool.false_eq_true,if_false]
        obtain ⟨sl2,⟨g2,g3⟩,hs2,_,_⟩:=zH (aR:=aV') hx hs1 hI'.rel.n (VRel.plain m 6 undef rfl)
        obtain ⟨aV2,hI2⟩:=hI'.after hT hc hg hst hsel hjo hj hjL hnr c1 d2 hdl hcov hs2 hI'.rel.heap (.refl _ _ _ _) (fun e he hu=>by
         obtain ⟨_,_,_,_,_,_,_,_,_,_,_,l11,_⟩:=hI'.late e he
         exact (l11 hu).2.1) g2
        exact ih b3 g3 hI2 hst'

theorem awp_drawR (hT:TOk P T) (hm:P.follows .mixedOrders=true) {n0:Nat} {Q:Ex->AF->List Blk->Prop} {a:AF} {H:List Blk} {id:Nat} {ops:List Oper} (bf:List Nat) (st:List Nat) (es:List DEv) (hB:drawRB ops.toArray bf.toArray st es=true)
 (h:yj P T a.n ops es [] (fun sl H=>Q .normal { n:=a.n,sl:=sl } H) a.sl H):awp P rd n0 (.region id ops.toArray true) Q a H:=by
 intro hn m aR w hs b k cs hb
 simp only[drawRB,Bool.and_eq_true] at hB
 obtain ⟨⟨⟨⟨h1,h2⟩,h3⟩,h4⟩,h5⟩:=hB
 have hdc:DC bf.toArray (Array.replicate ops.toArray.size false):=fun j hj=>by
  rcases Nat.lt_or_ge j ops.toArray.size with h | h
  ·simp at h;simp[h] at hj
  ·simp at h;simp[h] at hj
 have hs' : SRel m { n:=a.n,sl:=a.sl } H aR { w with drawn:=w.drawn+1 }:=⟨hs.n,hs.sl,DfOk.keep (w:=w) (w' := { w with drawn:=w.drawn+1 }) (m:=m) (m' := m) (H:=H) (H' := H) (fun _ _ h=>⟨rfl,h⟩) hs.df,hs.heap.drawn _⟩
 have hI:DrI P ops bf.toArray st a.n n0 m H w aR.defers [] (Array.replicate ops.toArray.size false) [] a.sl H m aR aR { w with drawn:=w.drawn+1 }:=by
  have hnl : ∀ (i:Nat) (o:Oper),ops[i]? = some o->(Array.replicate ops.toArray.size false).getD i true=false:=fun i o hi=>by
   have:=(List.getElem?_eq_some_iff.1 hi).1
   simp[this]
  exact⟨by simp,hdc,trivial,fun i o _ h=>(by cases h),fun i o hi _ h=>(by rw[hnl i o hi] at h;cases h),fun e h=>(by cases h),fun e h=>(by cases h),fun e h=>(by cases h), .refl _ _,hs',Fr.drawn _,hn,rfl⟩
 have hsel : ∀ (j:Nat) (o:Oper) cs b,ops[j]? = some o->o.op ≠ .select cs b:=fun j o cs b hj=>Region.noSelect_spec h1 j o cs b (by simpa using hj)
 have hany:=DrI.any hT (closedB_spec h2) h3 h4 hsel ops.toArray.size (rs := []) h5 h hI (by
  have:=List.length_filter_le (fun i => !((Array.replicate ops.toArray.size false).getD i true)) (List.range ops.length)
  rw[List.length_range] at this
  simpa [unl] using this)
 obtain ⟨aR',w',⟨sl',H',m',k1,k2,k3,k4⟩,hst⟩:=sAny_steps b k cs ops.toArray.size (w.tape w.drawn (.order b.fn id)) _ _ _ hany
 refine⟨.normal,_,H',m',aR',w',k1,k2,⟨k3, .of_eq k4⟩, .head yl ?_⟩
 simpa [Region.schedule,hm,Region.linearise] using hst

theorem vcg_drawR (hT:TOk P T) (hm:P.follows .mixedOrders=true) {n0 n:Nat} {Q:Ex->List (Nat × Value)->List Blk->Prop} {sl:List (Nat × Value)} {H:List Blk} {id:Nat} {ops:List Oper} (bf:List Nat) (st:List Nat) (es:List DEv) (hB:drawRB ops.toArray bf.toArray st es=true)
 (h:yj P T n ops es [] (fun sl H=>Q .normal sl H) sl H):awp P rd n0 (.region id ops.toArray true) (aft n Q) ⟨n,sl⟩ H:=by
 refine zi (awp_drawR hT hm (Q:=fun e a H=>e = .normal/\a.n=n/\Q .normal a.sl H) (a:=⟨n,sl⟩) bf st es hB (by simpa using h)) ?_
 intro e a H ⟨h1,h2,h4⟩
 subst h1;exact⟨h2,h4⟩
end
end Go.Af
namespace Go.Af
open Go
section
variable {H0 H:List Blk} {o:Nat->Prop} {L:List (Bool × Nat × Blk)}
end
end Go.Af
