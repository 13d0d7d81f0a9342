/- A part of the proof. -/
import Derived.Test.YtmnjcogpchodhaaGreatME
import Derived.Test.YtmnjcogpchodhaaGreatMB
set_option linter.all false
namespace Go.Af
open Go

def roB:Blk->Blk
 | .cells _ z vs=>.cells false z vs
 | .map _ es c=>.map false es c
 | .dead=>.dead
 | .defr d=>.defr d
 | _=>.ghost
def Blk.isDefr:Blk->Bool
 | .defr _=>true
 | _=>false

theorem Uc {m:LM} {b:Blk} {l:Loc} {w:World} (hd:b.isDefr=false) (h:BRel m b l w):BRel m (roB b) l w:=by
 cases b with
 | cells wr z vs =>
   cases l with
   | cel r sh tot esz=>obtain ⟨c,e,f,h1,h2,h3,h4⟩:=h;exact⟨c,e,f,h1,h2,h3,fun h=>by cases h⟩
   | obj r=>exact h.elim
   | dead=>exact h.elim
 | map wr es c=>cases l <;> exact h
 | iter o =>
   cases l with
   | obj r =>
     obtain ⟨o',h1,h2⟩:=h;refine⟨o',h1,fun x e=>?_⟩;subst e;split at h2
     ·cases h2
     ·obtain ⟨_,_,h2⟩:=h2;cases h2
     ·cases h2
     ·exact h2
   | cel r sh tot esz=>exact h.elim
   | dead=>exact h.elim
 | loop st p n sl ps as body =>
   cases l with
   | obj r=>obtain ⟨tmps,d',fn,h1,_⟩:=h;exact⟨_,h1,fun x e=>by cases e⟩
   | cel r sh tot esz=>exact h.elim
   | dead=>exact h.elim
 | defr d=>cases hd
 | ghost=>exact h
 | dead=>cases l <;> exact h
theorem roB_ro {b:Blk} (hd:b.isDefr=false):(roB b).isRw=false:=by cases b <;> first | rfl | cases hd

section
variable {P:Program} {f:FuncId} {args:List Value} {H V:List Blk} {R2 R:Value->List Blk->Prop}

structure View (H V:List Blk):Prop where
 len:V.length=H.length
 at' : ∀ (i:Nat) (b:Blk),H[i]? = some b->∃ b2,V[i]? = some b2/\b2.isRw=false/\(b = .dead->b2 = .dead)/\∀ (m:LM) (l:Loc) (w:World),BRel m b l w->BRel m b2 l w
theorem UE (hv:View H V) (hc:qj P f args V R2)
 (hR : ∀ v H2',R2 v H2' -> ∃ N,H2' = V++N/\(∀ b∈N,H = []\/b.isRw=true\/b = .dead)/\R v (H++N)):qI P f args H R :=
 ⟨hc.1,fun m argsR w hl hh=>by
   have seen : ∀ (i:Nat) (b2:Blk),V[i]? = some b2->∃ b,H[i]? = some b/\b2.isRw=false/\(b = .dead->b2 = .dead)/\∀ (m:LM) (l:Loc) (w:World),BRel m b l w->BRel m b2 l w:=by
    intro i b2 h;have hi:i<H.length:=by have:=(List.getElem?_eq_some_iff.1 h).1;rw[hv.len] at this;exact this
    obtain ⟨b3,h1,h2⟩:=hv.at' i H[i] (List.getElem?_eq_getElem hi);rw[h] at h1;cases h1;exact⟨H[i],List.getElem?_eq_getElem hi,h2⟩
   have noRw : ∀ (i:Nat) (b:Blk),V[i]? = some b->b.isRw=true->False:=by
    intro i b hb hr;obtain ⟨_,_,h1,_⟩:=seen i b hb;rw[h1] at hr;cases hr
   have hh2:HRel m V w:=by
    refine⟨fun i l hi=>by rw[hv.len];exact hh.dom i l hi,fun i l b hi hl hb=>?_,fun i hi=>?_,fun i j r b h1 h2 h3 h4=>(noRw i b h2 h3).elim⟩
    ·obtain ⟨b0,g1,_,_,g2⟩:=seen i b hb
     exact g2 m l w (hh.blk i l b0 hi hl g1)
    ·obtain ⟨b2,g1,_,g2,_⟩:=hv.at' i _ (hh.dd i hi)
     rw[g1,g2 rfl]
   have noWr : ∀ r, ¬ Wr m V r:=fun r ⟨i,b,h1,h2,h3⟩=>noRw i b h2 h3
   refine (hc.2 m argsR w hl hh2).mono ?_;rintro vR w' ⟨v,H2',m',r1,r2,r3,r4⟩;obtain ⟨N,rfl,hN,hRv⟩:=hR v H2' r1;have len2:V.length=H.length:=hv.len;have keep : ∀ r,r<w.heap.size->w'.heap[r]? = w.heap[r]? /\ ¬ Wr m' (V++N) r:=fun r hr=>r4.keep r hr (noWr r)
   have bs : ∀ i l,m i=some l->m' i=some l:=fun i l hi=>by
    rcases r4.base i (by rw[len2];exact hh.dom i l hi) l hi with h | ⟨_,_,b,h2,h3⟩
    ·exact h
    ·exact (noRw i b h2 h3).elim
   have bn : ∀ i,i<H.length->m i=none->m' i=none:=fun i hi h=>r4.base' i (by rw[len2];exact hi) h
   have bo : ∀ i,i<H.length->m' i=m i:=fun i hi=>by
    cases hm:m i with
    | none=>exact bn i hi hm
    | some l=>exact bs i l hm
   have hle:m.le m' := fun i l hi=>.inl (bs i l hi)
   have getL : ∀ i,i<H.length->(H++N)[i]? = H[i]? := fun i hi=>List.getElem?_append_left hi
   have getR : ∀ i,H.length<=i->(H++N)[i]? = (V++N)[i]? := fun i hi=>by
    rw[List.getElem?_append_right hi,List.getElem?_append_right (by rw[len2];exact hi),len2]
   have wrR : ∀ i r b,H.length<=i->vI (m' i)=some r->(H++N)[i]? = some b->b.isRw=true->w.heap.size<=r:=by
    intro i r b hi h1 h2 h3;rcases Nat.lt_or_ge r w.heap.size with hr | hr
    ·exact ((keep r hr).2 ⟨i,b,h1,by rw[<- getR i hi];exact h2,h3⟩).elim
    ·exact hr
   have ltL : ∀ i r,i<H.length->vI (m' i)=some r->r<w.heap.size:=fun i r hi h=>hh.lt (by rw[<- bo i hi];exact h)
   have newRw:H≠[]->∀ i r,H.length<=i->vI (m' i)=some r->∃ b,(H++N)[i]? = some b/\b.isRw=true:=by
    intro hne i r hi h;obtain ⟨l,h1,h2,h3⟩:=vF h;obtain ⟨b,k1,k2⟩:=r3.get h1 h2;rw[<- getR i hi] at k1;refine⟨b,k1, ?_⟩;rw[List.getElem?_append_right hi] at k1;rcases hN b (List.mem_of_getElem? k1) with h | h | h
    ·exact absurd h hne
    ·exact h
    ·subst h;cases l <;> exact k2.elim
   have hh' : HRel m' (H++N) w' := by
    refine⟨fun i l hi=>by have:=r3.dom i l hi;simpa [hv.len] using this,fun i l b hi hl hb=>?_,fun i hi=>?_,fun i j r b h1 h2 h3 h4=>?_⟩
    ·rcases Nat.lt_or_ge i H.length with h | h
     ·rw[getL i h] at hb
      rw[bo i h] at hi;exact ((hh.blk i l b hi hl hb).mono hle).same fun r hr=>(keep r (hh.lt (by rw[hi];exact hr))).1
     ·rw[getR i h] at hb;exact r3.blk i l b hi hl hb
    ·rcases Nat.lt_or_ge i H.length with h | h
     ·rw[getL i h];exact hh.dd i (by rw[<- bo i h];exact hi)
     ·rw[getR i h];exact r3.dd i hi
    ·rcases Nat.lt_or_ge i H.length with hi | hi <;> rcases Nat.lt_or_ge j H.length with hj | hj
     ·rw[getL i hi] at h2;rw[bo i hi] at h1;rw[bo j hj] at h4
      exact hh.own i j r b h1 h2 h3 h4
     ·obtain ⟨b',k1,k2⟩:=newRw (fun e=>by subst e;simp at hi) j r hj h4
      have:=wrR j r b' hj h4 k1 k2;have:=ltL i r hi h1;omega
     ·have:=wrR i r b hi h1 h2 h3
      have:=ltL j r hj h4;omega
     ·rw[getR i hi] at h2
      exact r3.own i j r b h1 h2 h3 h4
   refine⟨⟨v,_,m',hRv,r2,hh', ?_⟩,r4.size,fun r hr=>(keep r hr).1⟩;refine⟨r4.size,fun _=>by simp,fun i hi l hl=>.inl (bs i l hl),fun i hi h=>bn i hi h,fun i hi b' hb hr=>⟨b',by rw[<- getL i hi];exact hb,hr⟩,fun r hr hw=>⟨(keep r hr).1, ?_⟩,r4.out⟩;rintro ⟨i,b,h1,h2,h3⟩;rcases Nat.lt_or_ge i H.length with hi | hi
   ·exact hw ⟨i,b,by rw[<- bo i hi];exact h1,by rw[<- getL i hi];exact h2,h3⟩
   ·have:=wrR i r b hi h1 h2 h3;omega⟩
end

def vwB (eb:EB) (b:Blk):Blk :=
 match eb with
 | .gone=>.ghost
 | .goneC z=>.cells false z []
 | _=>roB b
theorem vwB_ok {w:Bool} {eb:EB} {b:Blk} (h:BOk w eb b):BOk false eb (vwB eb b)/\(vwB eb b).isRw=false/\(b = .dead->vwB eb b = .dead)/\∀ (m:LM) (l:Loc) (w:World),BRel m b l w->BRel m (vwB eb b) l w:=by
 have ro : ∀ {b:Blk},b.isDefr=false->(roB b).isRw=false/\(b = .dead->roB b = .dead)/\∀ (m:LM) (l:Loc) (w:World),BRel m b l w->BRel m (roB b) l w:=fun hd=>⟨roB_ro hd,fun h=>by subst h;rfl,fun m l w h=>Uc hd h⟩
 have key:vwB eb b=roB b->b.isDefr=false->BOk false eb (roB b)->BOk false eb (vwB eb b)/\(vwB eb b).isRw=false/\(b = .dead->vwB eb b = .dead)/\∀ (m:LM) (l:Loc) (w:World),BRel m b l w->BRel m (vwB eb b) l w:=fun e h1 h2=>by rw[e];exact⟨h2,ro h1⟩
 cases eb with
 | cells z vs=>simp only[BOk] at h;subst h;exact key rfl rfl rfl
 | loop st p m F ps as body dr =>
   cases w with
   | true=>obtain ⟨sl,_,rfl⟩:=h;exact key rfl rfl rfl
   | false=>simp only[BOk] at h;subst h;exact key rfl rfl rfl
 | dead=>simp only[BOk] at h;subst h;exact key rfl rfl rfl
 | map es c=>simp only[BOk] at h;subst h;exact key rfl rfl rfl
 | heldC z vs=>simp only[BOk] at h;subst h;exact key rfl rfl rfl
 | heldM es c=>simp only[BOk] at h;subst h;exact key rfl rfl rfl
 | iter m since seen stepped=>cases w <;> (simp only[BOk] at h;subst h;exact key rfl rfl rfl)
 | ro z vs=>simp only[BOk] at h;subst h;exact key rfl rfl rfl
 | gone =>
   cases w with
   | true =>
     simp only[BOk] at h
     replace h:=h.1
     refine⟨(rfl:vwB .gone b = .ghost),(rfl:Blk.isRw .ghost=false),(fun e=>by subst e;cases h),fun m l w hb=>?_⟩;cases b <;> try (cases h;done)
     ·cases l with
      | obj r=>obtain ⟨es',h1,_⟩:=hb;exact⟨_,h1,fun x e=>by cases e⟩
      | cel r sh tot esz=>exact hb.elim
      | dead=>exact hb.elim
     ·exact Uc rfl hb
     ·exact Uc rfl hb
   | false=>simp only[BOk] at h;subst h;exact⟨rfl,rfl,fun e=>(by cases e),fun m l w hb=>hb⟩
 | goneC z =>
   have : ∃ w' vs,b = .cells w' z vs:=by
    cases w with
    | true=>obtain ⟨vs,h⟩:=h;exact⟨_,_,h⟩
    | false=>exact⟨_,_,h⟩
   obtain ⟨w',vs,rfl⟩:=this;refine⟨rfl,rfl,fun e=>(by cases e),fun m l w hb=>?_⟩
   cases l with
   | cel r sh tot esz=>obtain ⟨c,e,f,h1,h2,h3,h4⟩:=hb;exact⟨c,e,f,h1,fun i v hv=>by simp at hv,h3,fun h=>by cases h⟩
   | obj r=>exact hb.elim
   | dead=>exact hb.elim
noncomputable def vwM (M:Tr EB) (H:List Blk) (n:Nat):List Blk:=(List.range n).map fun i=>match M.get (psOf i),H[i]? with
 | some eb,some b=>vwB eb b
 | _,_=>.ghost
theorem YK {P:Program} {f:FuncId} {args:List Value} {B M:Tr EB} {lim n:Nat} {H:List Blk} {K:HK} (hh:HOk B lim M n H)
 (hc : ∀ B' H',HOk B' n M n H' -> qj P f args H' (fun v H2 => ∃ M' n',HOk B' n M' n' H2/\K v M' n' = true)):qI P f args H (Aft B lim K):=by
 have inH : ∀ (i:Nat) (b:Blk),H[i]? = some b->∃ eb,M.get (psOf i)=some eb/\i<n/\BOk (Nat.ble lim i) eb b:=by
  intro i b hb;have hi:i<n:=by have:=(List.getElem?_eq_some_iff.1 hb).1;rw[hh.len] at this;exact this
  obtain ⟨eb,he⟩:=hh.all i hi;obtain ⟨_,b',h2,h3⟩:=hh.get i eb he;rw[hb] at h2;cases h2;exact⟨eb,he,hi,h3⟩
 have bro : ∀ {w:Bool} {eb:EB} {b:Blk},BOk w eb b->BOk false eb (vwB eb b)/\(vwB eb b).isRw=false/\(b = .dead->vwB eb b = .dead)/\∀ (m:LM) (l:Loc) (w:World),BRel m b l w->BRel m (vwB eb b) l w:=fun h=>vwB_ok h
 have atV : ∀ i eb b,M.get (psOf i)=some eb->H[i]? = some b->(vwM M H n)[i]? = some (vwB eb b):=by
  intro i eb b he hb;have hi:=(hh.get i eb he).1;simp[vwM,hi,he,hb]
 have lenV:(vwM M H n).length=H.length:=by simp[vwM,hh.len]
 have hv:HOk M n M n (vwM M H n):=by
  refine⟨by rw[lenV,hh.len],Nat.le_refl _,fun i eb he=>?_,hh.all,fun i hi=>rfl,fun i eb he _ hl=>by have:=(hh.get i eb he).1;omega⟩;obtain ⟨h1,b,h2,h3⟩:=hh.get i eb he;refine⟨h1,vwB eb b,atV i eb b he h2, ?_⟩;rw[show Nat.ble n i=false from by cases hb:Nat.ble n i with | false=>rfl | true=>have:=Nat.le_of_ble_eq_true hb;omega];exact (bro h3).1
 have hvw:View H (vwM M H n):=⟨lenV,fun i b hb=>by
  obtain ⟨eb,he,hi,hb2⟩:=inH i b hb;obtain ⟨_,g1,g2,g3⟩:=bro hb2
  exact⟨_,atV i eb b he hb,g1,g2,g3⟩⟩
 refine UE hvw (hc M _ hv) ?_;rintro v H2' ⟨M',n',h1,h2⟩;have hn:n<=n' := h1.le
 have eqL : ∀ i,i<n->H2'[i]? = (vwM M H n)[i]? := by
  intro i hi;obtain ⟨eb,he⟩:=hh.all i hi;obtain ⟨_,b,k1,k2⟩:=hv.get i eb he;have he' : M'.get (psOf i)=some eb:=by rw[h1.base i (.inl hi)];exact he
  obtain ⟨_,b',k3,k4⟩:=h1.get i eb he';rw[k3,k1];congr 1;have e1:Nat.ble n i=false:=by cases hb:Nat.ble n i with | false=>rfl | true=>have:=Nat.le_of_ble_eq_true hb;omega
  rw[e1] at k2 k4
  cases eb with
  | cells z vs=>simp only[BOk] at k2 k4;rw[k2,k4]
  | loop st p m F ps as body dr=>simp only[BOk] at k2 k4;rw[k2,k4]
  | dead=>simp only[BOk] at k2 k4;rw[k2,k4]
  | map es c=>simp only[BOk] at k2 k4;rw[k2,k4]
  | heldC z vs=>simp only[BOk] at k2 k4;rw[k2,k4]
  | heldM es c=>simp only[BOk] at k2 k4;rw[k2,k4]
  | iter m since seen stepped=>simp only[BOk] at k2 k4;rw[k2,k4]
  | ro z vs=>simp only[BOk] at k2 k4;rw[k2,k4]
  | gone=>simp only[BOk] at k2 k4;rw[k2,k4]
  | goneC z=>simp only[BOk] at k2 k4;rw[k2,k4]
 have e2:H2' = vwM M H n++H2'.drop n:=by
  have:H2'.take n=vwM M H n:=by
   apply List.ext_getElem?
   intro i;rcases Nat.lt_or_ge i n with hi | hi
   ·rw[List.getElem?_take_of_lt hi];exact eqL i hi
   ·rw[List.getElem?_eq_none (by simp;omega),List.getElem?_eq_none (by rw[lenV,hh.len];omega)]
  rw[<- this,List.take_append_drop]
 refine⟨H2'.drop n,e2, ?_,M',n', ?_,h2⟩
 ·intro b hb
  obtain ⟨k,hk⟩:=List.mem_iff_getElem?.1 hb;rw[List.getElem?_drop] at hk;have hlt:n+k<n' := by have:=(List.getElem?_eq_some_iff.1 hk).1;rw[h1.len] at this;exact this
  obtain ⟨eb,he⟩:=h1.all (n+k) hlt;obtain ⟨_,b',k1,k2⟩:=h1.get (n+k) eb he;rw[hk] at k1;cases k1;rw[Nat.ble_eq_true_of_le (show n<=n+k by omega)] at k2
  cases n with
  | zero=>exact .inl (List.eq_nil_of_length_eq_zero hh.len)
  | succ n0 =>
  refine .inr ?_
  cases eb with
  | cells z vs=>simp only[BOk] at k2;subst k2;exact .inl rfl
  | loop st p m F ps as body dr=>obtain ⟨sl,_,rfl⟩:=k2;exact .inl rfl
  | dead=>exact .inr k2
  | map es c=>simp only[BOk] at k2;subst k2;exact .inl rfl
  | heldC z vs=>simp only[BOk] at k2;subst k2;exact .inl rfl
  | heldM es c=>simp only[BOk] at k2;subst k2;exact .inl rfl
  | iter m since seen stepped=>simp only[BOk] at k2;subst k2;exact .inl rfl
  | ro z vs=>have:=h1.roz _ _ he rfl (by omega);omega
  | gone=>exact .inl k2.2
  | goneC z=>obtain ⟨vs,rfl⟩:=k2;exact .inl rfl
 ·refine⟨by simp[hh.len,h1.len];omega,by have:=hh.le;omega,fun i eb he=>?_,h1.all,fun i hi=>?_,fun i eb he hr hl=>?_⟩
  ·obtain ⟨g1,b,g2,g3⟩:=h1.get i eb he
   refine⟨g1, ?_⟩;rcases Nat.lt_or_ge i n with hi | hi
   ·have he' : M.get (psOf i)=some eb:=by rw[<- h1.base i (.inl hi)];exact he
    obtain ⟨_,b',k1,k2⟩:=hh.get i eb he';exact⟨b',by rw[List.getElem?_append_left (by rw[hh.len];exact hi)];exact k1,k2⟩
   ·refine⟨b, ?_, ?_⟩
    ·rw[List.getElem?_append_right (by rw[hh.len];exact hi),hh.len,List.getElem?_drop,show n+(i-n)=i by omega];exact g2
    ·rw[Nat.ble_eq_true_of_le hi] at g3
     rw[Nat.ble_eq_true_of_le (show lim<=i from Nat.le_trans hh.le hi)];exact g3
  ·have hn:i<n:=by
    rcases hi with hi | ⟨eb,g1,g2⟩
    ·have:=hh.le;omega
    ·rw[<- hh.base i (.inr ⟨eb,g1,g2⟩)] at g1;exact (hh.get i eb g1).1
   rw[h1.base i (.inl hn)];exact hh.base i hi
  ·rcases Nat.lt_or_ge i n with hi | hi
   ·exact hh.roz i eb (by rw[<- h1.base i (.inl hi)];exact he) hr hl
   ·have:=h1.roz i eb he hr hi
    have:=hh.le;omega
end Go.Af
namespace Go.Af
open Go

inductive DS where
 | none
 | at (p:Ps)
 | bad
inductive GS where
 | none
 | at (p:Ps) (want:Bool)
 | bad
structure XOp where
 dst:DS
 g:GS
 q:Bool
 op:XO

inductive XPl where
 | done
 | first (o:XOp) (p:XPl)
 | alt (o:XOp) (p q:XPl)
 | no

inductive IR where
 | skip
 | reg (l:List XOp)
 | regT (p:XPl)
 | seq (a b:IR)
 | cond (c:EV) (a b:IR)
 | block (id:Nat) (a:IR)
 | loop (a:IR)
 | range (f:EV) (n:Nat) (ps:Array Tmp) (as body:Code) (dr:DT)
 | exit (id:Nat)
 | ret
 | bad

noncomputable def cDst (n:Nat):Option Tmp->DS
 | none=>.none
 | some d=>match Nat.blt d n with
   | true=>.at (psOf d)
   | false=>.bad
noncomputable def Xa (all:List Oper):Option (Nat × Bool)->GS
 | none=>.none
 | some (j,want)=>match qX0 all j with
   | none=>.bad
   | some d=>.at (psOf d) want
noncomputable def YC (E:Env) (n:Nat) (all:List Oper) (q:Bool) (o:Oper):XOp:=⟨cDst n o.dst,Xa all o.guard,q,cOp E o.op⟩

def Uz:XOp:=⟨.bad, .bad,false, .bad⟩
noncomputable def cOps (E:Env) (n:Nat) (all:List Oper) (l:List Oper):List XOp:=List.rec [] (fun o _ ih=>YC E n all false o::ih) l
noncomputable def cOrd (E:Env) (n:Nat) (all:List Oper) (qs:List Bool) (σ : List Nat):List XOp :=
 List.rec [] (fun i _ ih=>(match uf all i with | some o=>YC E n all (bAt qs i) o | none=>Uz)::ih) σ

noncomputable def ZB (E:Env) (n:Nat) (all:List Oper) (qs:List Bool) (p:Plan):XPl :=
 Plan.rec (motive:=fun _=>XPl) .done
  (fun i _ ih=>.first (match uf all i with | some o=>YC E n all (bAt qs i) o | none=>Uz) ih)
  (fun i _ _ ih ih2=>.alt (match uf all i with | some o=>YC E n all (bAt qs i) o | none=>Uz) ih ih2) .no p

noncomputable def comp (E:Env) (dr:DT) (n:Nat) (rd:Bool) (c:Code):IR :=
 Code.rec (motive:=fun _=>IR) .skip
  (fun id ops draw=>match draw with
    | false=>.reg (cOps E n ops.toList ops.toList)
    | true=>match ndF dr id with
      | some (.ord bf qs σ)=>match Qn0 ops bf qs σ with
        | true=>.reg (cOrd E n ops.toList qs σ)
        | false=>.bad
      | some (.tree bf qs p)=>match Yh ops bf.toArray qs p with
        | true=>.regT (ZB E n ops.toList qs p)
        | false=>.bad
      | none=>.bad)
  (fun _ _ a b=>.seq a b) (fun c _ _ a b=>.cond (cv c) a b) (fun id _ a=>.block id a) (fun _ a=>.loop a)
  (fun f ps as body _ _=>match rd with
    | true=>.bad
    | false=>.range (cv f) n ps as body dr)
  (fun id=>.exit id) (fun _ a=>a) (fun _=>.bad) (fun _=>.bad) .ret (fun _=>.bad) c

structure St where
 F:Tr Value
 M:Tr EB
 n:Nat

abbrev CallT:=Nat->Nat->List Value->Tr EB->Nat->HK->Bool
structure Ev where
 fu:Nat
 call:CallT
 yld:CallT

noncomputable def opE (ev:Ev) (lim:Nat) (q:Bool) (o:XO) (F:Tr Value) (M:Tr EB) (n:Nat) (K:HK):Bool :=
 match o with
 | .call f args=>gv f F (fun fv=>gvs args F (fun vs=>match fv with
   | .func (.func g) first captured=>lapp vs captured.toList (fun r=>lapp first.toList r (fun l=>ev.call (Bool.rec lim n q) g l M n K))
   | .func (.yield l) first _=>match first.toList with
     | []=>Bool.rec (ev.yld lim l vs M n K) false q
     | _::_=>false
   | _=>false))
 | .inv r ms args=>gv r F (fun rv=>match rv with
   | .iface t v=>gvs args F (fun vs=>match ndF ms t with
     | some f=>ev.call (Bool.rec lim n q) f (v::vs) M n K
     | none=>false)
   | _=>false)
 | o=>Bool.rec (eop o lim F M n K) (Bool.rec false (eop o lim F M n K) (valX o)) q

noncomputable def dstE (d:DS) (v:Value) (F:Tr Value) (K:Tr Value->Bool):Bool :=
 match d with
 | .none=>K F
 | .at p=>F.setK v p K
 | .bad=>false
noncomputable def guardE (g:GS) (F:Tr Value) (yes no:Bool):Bool :=
 match g with
 | .none=>yes
 | .at p want=>F.getK (fun v=>match v with
   | .bool b=>Bool.rec (Bool.rec yes no want) (Bool.rec no yes want) b
   | .tuple _=>no
   | _=>false) p
 | .bad=>false

noncomputable def uM (ev:Ev) (lim:Nat) (l:List XOp):Tr Value->Tr EB->Nat->(St->Bool)->Bool :=
 List.rec (motive:=fun _=>Tr Value->Tr EB->Nat->(St->Bool)->Bool) (fun F M n K=>K ⟨F,M,n⟩)
  (fun o _ ih F M n K=>guardE o.g F (opE ev lim o.q o.op F M n (fun v M' n' => dstE o.dst v F (fun F' => ih F' M' n' K))) (dstE o.dst undef F (fun F' => ih F' M n K))) l

noncomputable def runT (ev:Ev) (lim:Nat) (p:XPl):Tr Value->Tr EB->Nat->(St->Bool)->Bool :=
 XPl.rec (motive:=fun _=>Tr Value->Tr EB->Nat->(St->Bool)->Bool) (fun F M n K=>natF n (fun n=>Bool.rec false true (K ⟨F,M,n⟩)))
  (fun o _ ih F M n K=>guardE o.g F (opE ev lim o.q o.op F M n (fun v M' n' => dstE o.dst v F (fun F' => ih F' M' n' K))) (dstE o.dst undef F (fun F' => ih F' M n K)))
  (fun o _ _ ih ih2 F M n K=>Bool.rec false (ih2 F M n K) (guardE o.g F (opE ev lim o.q o.op F M n (fun v M' n' => dstE o.dst v F (fun F' => ih F' M' n' K))) (dstE o.dst undef F (fun F' => ih F' M n K))))
  (fun _ _ _ _=>true) p

noncomputable def wo0 (M:Tr EB) (l:Nat) (K:LoopState->Option Code->Nat->Tr Value->Array Tmp->Code->Code->DT->Bool):Bool :=
 M.getK (fun eb=>match eb with | .loop st pend n F ps as body dr=>K st pend n F ps as body dr | _=>false) (psOf l)
noncomputable def uT0 (pend:Option Code) (K:Ex->Bool):Bool :=
 match pend with
 | none=>K .normal
 | some (.exit id)=>K (.exit id)
 | some .ret=>K .ret
 | _=>false
noncomputable def endE (lim l:Nat) (M:Tr EB) (K:Ex->Tr EB->Bool):Bool :=
 Bool.rec false (wo0 M l (fun st pend n F ps as body dr=>match st with
  | .busy=>false
  | _=>M.setK (.loop .exhausted pend n F ps as body dr) (psOf l) (fun M' => uT0 pend (fun e=>K e M')))) (Nat.ble lim l)

noncomputable def runC (ev:Ev) (lim:Nat) (c:IR):(Ex->St->Bool)->St->Bool :=
 IR.rec (motive:=fun _=>(Ex->St->Bool)->St->Bool)
   (fun k s=>k .normal s)
   (fun l k s=>St.rec (fun F M n=>uM ev lim l F M n (fun s=>k .normal s)) s)
   (fun p k s=>St.rec (fun F M n=>runT ev lim p F M n (fun s=>k .normal s)) s)
   (fun _ _ ia ib k s=>ia (fun e s=>Ex.rec (ib k s) (fun i=>k (.exit i) s) (k .ret s) e) s)
   (fun c _ _ ia ib k s=>gv c s.F (fun v=>match v with | .bool t=>Bool.rec (ib k s) (ia k s) t | _=>false))
   (fun id _ ia k s=>ia (fun e s=>Ex.rec (k .normal s) (fun i=>Bool.rec (k (.exit i) s) (k .normal s) (Nat.beq i id)) (k .ret s) e) s)
   (fun _ ia k s=>Nat.rec (motive:=fun _=>St->Bool) (fun _=>false) (fun _ ih s=>ia (fun e s=>Ex.rec (ih s) (fun i=>k (.exit i) s) (k .ret s) e) s) ev.fu s)
   (fun f n ps as body dr k s=>St.rec (fun F M0 n0=>gv f F (fun v=>match v with
     | .func (.func g) first captured=>zM M0 n0 (.loop .ready none n F ps as body dr) (fun l M m =>
         lapp first.toList (.func (.yield l) #[] #[]::captured.toList) (fun args=>ev.call lim g args M m (fun _ M m=>endE lim l M (fun e M=>k e ⟨F,M,m⟩))))
     | _=>false)) s)
   (fun id k s=>k (.exit id) s)
   (fun k s=>k .ret s)
   (fun _ _=>false) c

noncomputable def resE (E:Env) (F:Tr Value) (M:Tr EB) (l:List ResultVar) (K:List Value->Bool):Bool :=
 List.rec (motive:=fun _=>(List Value->Bool)->Bool) (fun K=>K [])
  (fun r _ ih K=>match r with
    | .tmp t=>F.getK (fun v=>ih (fun vs=>K (v::vs))) (psOf t)
    | .cell a t=>match tget E.T t with
      | some i=>F.getK (fun v=>match v with
        | .pointer (some ⟨b,o,none⟩)=>cellsE M b (fun _ vs=>Bool.rec (lget (fun v=>ih (fun us=>K (v::us))) vs o) (lseg vs o i.size (fun seg=>ih (fun us=>K (.agg ⟨seg⟩::us)))) i.kind.agg)
        | _=>false) (psOf a)
      | none=>false) l K

structure FI where
 nt:Nat
 res:List ResultVar
 code:Code
 dr:DT
 jn:Nat

noncomputable def argE (args:List Value) (F:Tr Value) (i:Nat) (K:Tr Value->Bool):Bool :=
 List.rec (motive:=fun _=>Tr Value->Nat->(Tr Value->Bool)->Bool) (fun F _ K=>K F) (fun v _ ih F i K=>F.setK v (psOf i) (fun F' => ih F' (Nat.succ i) K)) args F i K

noncomputable def vO0 (vs:List Value) (K:Value->Bool):Bool:=List.rec (K (.tuple ⟨[]⟩)) (fun x r _=>List.rec (K x) (fun _ _ _=>K (.tuple ⟨x::r⟩)) r) vs
theorem UX (vs:List Value) (K:Value->Bool):vO0 vs K=K (resV vs):=by
 cases vs with
 | nil=>rfl
 | cons x r=>cases r <;> rfl
noncomputable def Ug (g:Value->List Nat->(List Nat->Bool)->Bool) (l:List Value):List Nat->(List Nat->Bool)->Bool :=
 List.rec (motive:=fun _=>List Nat->(List Nat->Bool)->Bool) (fun acc K=>K acc) (fun x _ ih acc K=>g x acc (fun acc=>ih acc K)) l
noncomputable def refB (n0 b:Nat) (acc:List Nat) (K:List Nat->Bool):Bool:=Bool.rec (K acc) (K (b::acc)) (Nat.ble n0 b)
noncomputable def refS (n0:Nat) (ih:Value->List Nat->(List Nat->Bool)->Bool) (v:Value) (acc:List Nat) (K:List Nat->Bool):Bool :=
 match v with
 | .pointer (some ⟨b,_,_⟩)=>refB n0 b acc K
 | .slice (some ⟨b,_,_⟩) _ _=>refB n0 b acc K
 | .map (some b)=>refB n0 b acc K
 | .agg xs=>Ug ih xs.toList acc K
 | .tuple xs=>Ug ih xs.toList acc K
 | .func _ xs ys=>Ug ih xs.toList acc (fun acc=>Ug ih ys.toList acc K)
 | .iface _ x=>ih x acc K
 | _=>K acc
noncomputable def refV (n0 f:Nat):Value->List Nat->(List Nat->Bool)->Bool:=Nat.rec (motive:=fun _=>Value->List Nat->(List Nat->Bool)->Bool) (fun _ acc K=>K acc) (fun _ ih=>refS n0 ih) f
noncomputable def refM (g:Value->List Nat->(List Nat->Bool)->Bool) (l:List MapEntry):List Nat->(List Nat->Bool)->Bool :=
 List.rec (motive:=fun _=>List Nat->(List Nat->Bool)->Bool) (fun acc K=>K acc) (fun x _ ih acc K=>entK x (fun k v _=>g k acc (fun acc=>g v acc (fun acc=>ih acc K)))) l
noncomputable def qN0 (n0:Nat) (eb:EB) (acc:List Nat) (K:List Nat->Bool):Bool :=
 match eb with
 | .cells _ vs | .ro _ vs | .heldC _ vs=>Ug (refV n0 8) vs acc K
 | .map es _ | .heldM es _=>refM (refV n0 8) es acc K
 | _=>K acc
noncomputable def refT (n0:Nat) (M:Tr EB):List Nat->(List Nat->Bool)->Bool :=
 Tr.rec (motive:=fun _=>List Nat->(List Nat->Bool)->Bool) (fun acc K=>K acc) (fun _ v _ ihl ihr acc K=>ihl acc (fun acc=>Option.rec (ihr acc K) (fun eb=>qN0 n0 eb acc (fun acc=>ihr acc K)) v)) M
noncomputable def uN0 (r:Bool) (eb:EB) (K:EB->Bool) (L:Bool):Bool:=match eb with
 | .loop .. | .iter .. => K .gone
 | .map .. => Bool.rec (K .gone) L r
 | .cells z _=>Bool.rec (K (.goneC z)) L r
 | _=>L
noncomputable def uq (g:Nat->Bool) (c:Nat):Nat->Tr EB->(Tr EB->Bool)->Bool :=
 Nat.rec (motive:=fun _=>Nat->Tr EB->(Tr EB->Bool)->Bool) (fun _ M K=>K M)
  (fun _ ih k M K=>M.getK (fun eb=>uN0 (g k) eb (fun eb' => M.setK eb' (psOf k) (fun M' => natF (Nat.succ k) (fun k' => ih k' M' K))) (natF (Nat.succ k) (fun k' => ih k' M K))) (psOf k)) c
noncomputable def Ut (M:Tr EB) (c:Nat):Nat->(Nat->Nat->Bool)->Bool :=
 Nat.rec (motive:=fun _=>Nat->(Nat->Nat->Bool)->Bool) (fun k K=>K k Nat.zero)
  (fun c ih k K=>M.getK (fun eb=>match eb with
    | .iter .. => K k (Nat.succ c)
    | _=>natF (Nat.succ k) (fun k' => ih k' K)) (psOf k)) c
noncomputable def qr0 (n0:Nat) (M:Tr EB) (f:Nat):List Nat->List Nat->(List Nat->Bool)->Bool :=
 Nat.rec (motive:=fun _=>List Nat->List Nat->(List Nat->Bool)->Bool) (fun _ seen K=>K seen)
  (fun _ ih todo seen K=>List.rec (K seen) (fun b r _=>Bool.rec (M.getK (fun eb=>qN0 n0 eb r (fun todo' => ih todo' (b::seen) K)) (psOf b)) (ih r seen K) (nin seen b)) todo) f
noncomputable def qS0 (jn n n' : Nat) (v:Value) (M:Tr EB) (K:Tr EB->Nat->Bool):Bool :=
 match jn with
 | 0=>K M n'
 | 1=>natF (Nat.sub n' n) (fun c=>uq (fun _=>true) c n M (fun M' => natF n' (fun m=>Bool.rec false true (K M' m))))
 | 2=>natF (Nat.sub n' n) (fun c=>Ut M c n (fun k q=>refV k 8 v [] (fun acc=>qr0 k M 100000 acc [] (fun rs=>uq (nin rs) q k M (fun M' => natF n' (fun m=>Bool.rec false true (K M' m)))))))
 | _=>natF (Nat.sub n' n) (fun c=>refV n 8 v [] (fun acc=>refT n M acc (fun rs=>uq (nin rs) c n M (fun M' => natF n' (fun m=>Bool.rec false true (K M' m))))))
noncomputable def vm0 (v:Value) (K:Value->Bool):Bool:=match v with
 | .int k z=>intF z (fun z=>K (.int k z))
 | .slice (some ⟨b,o,none⟩) l c=>natF b (fun b=>natF l (fun l=>natF c (fun c=>K (.slice (some ⟨b,o,none⟩) l c))))
 | v=>K v
theorem UJ (v:Value) (K:Value->Bool):vm0 v K=K v:=by
 unfold vm0;split <;> simp only[yE,vP]
noncomputable def qC0 (l:List Value):(List Value->Bool)->Bool:=List.rec (motive:=fun _=>(List Value->Bool)->Bool) (fun K=>K []) (fun v _ ih K=>vm0 v (fun v=>ih (fun r=>K (v::r)))) l
theorem Wu : ∀ (l:List Value) (K:List Value->Bool),qC0 l K=K l
 | [],K=>rfl
 | v::l,K=>by
   show vm0 v (fun v=>qC0 l (fun r=>K (v::r)))=_;rw[UJ,Wu l]
noncomputable def vfin (v:Value) (K:Value->Bool):Bool:=match v with
 | .agg cs=>qC0 cs.toList (fun l=>K (.agg ⟨l⟩))
 | v=>vm0 v K
theorem ua0 (v:Value) (K:Value->Bool):vfin v K=K v:=by
 unfold vfin;split
 ·rw[Wu]
 ·exact UJ _ _
noncomputable def xj0 (lim:Nat) (bs:List (Bool × Nat × List Value)):Tr EB->Nat->(Tr EB->Nat->Bool)->Bool :=
 List.rec (motive:=fun _=>Tr EB->Nat->(Tr EB->Nat->Bool)->Bool) (fun M n K=>K M n) (fun x _ ih M n K=>Prod.rec (fun w y=>Prod.rec (fun z vs=>qC0 vs (fun vs=>Bool.rec (Bool.rec false (zM M n (.ro z vs) (fun _ M' n' => ih M' n' K)) (Nat.beq lim 0)) (zM M n (.cells z vs) (fun _ M' n' => ih M' n' K)) w)) y) x) bs
noncomputable def memE (M:Tr EB) (i:Nat):Option (Nat × List Value):=match M.get (psOf i) with
 | some (.cells z vs)=>some (z,vs)
 | some (.ro z vs)=>some (z,vs)
 | _=>none
noncomputable def orcE (lim:Nat) (r:Option (Value × List (Bool × Nat × List Value))) (M:Tr EB) (n:Nat) (K:HK):Bool:=Option.rec false (fun p=>xj0 lim p.2 M n (fun M' n' => vfin p.1 (fun v=>K v M' n'))) r
noncomputable def callB (FN:Tr FI) (E:Env) (ev:Ev) (lim f:Nat) (args:List Value) (M:Tr EB) (n:Nat) (K:HK):Bool :=
 Option.rec (FN.getK (fun fi=>Bool.rec false (argE args .e Nat.zero (fun F=>runC ev lim (comp E fi.dr fi.nt false fi.code)
  (fun e s=>St.rec (fun F1 M1 n1=>Ex.rec (resE E F1 M1 fi.res (fun vs=>vO0 vs (fun v=>qS0 fi.jn n n1 v M1 (fun M' m=>K v M' m)))) (fun _=>false) (resE E F1 M1 fi.res (fun vs=>vO0 vs (fun v=>qS0 fi.jn n n1 v M1 (fun M' m=>K v M' m)))) e) s) ⟨F,M,n⟩)) (Nat.ble (llen args) fi.nt)) (psOf f)) (fun g=>orcE lim (g args (memE M) n) M n K) (ndF E.ors f)

noncomputable def Qt0 (n:Nat) (ps:List Tmp) (vs:List Value) (F:Tr Value) (K:Tr Value->Bool):Bool :=
 List.rec (motive:=fun _=>List Value->Tr Value->(Tr Value->Bool)->Bool) (fun vs F K=>List.rec (K F) (fun _ _ _=>false) vs)
  (fun p _ ih vs F K=>List.rec false (fun v vs _=>Bool.rec false (F.setK v (psOf p) (fun F' => ih vs F' K)) (Nat.blt p n)) vs) ps vs F K

noncomputable def vr0 (lim l:Nat) (st:LoopState) (pend:Option Code) (M:Tr EB) (K:Tr EB->Bool):Bool :=
 Bool.rec false (wo0 M l (fun _ _ n F ps as body dr=>M.setK (.loop st pend n F ps as body dr) (psOf l) K)) (Nat.ble lim l)

noncomputable def yldB (E:Env) (ev:Ev) (lim l:Nat) (args:List Value) (M:Tr EB) (n:Nat) (K:HK):Bool :=
 Bool.rec false (wo0 M l (fun _ _ nt F ps as body dr=>Qt0 nt ps.toList args F (fun F' => runC ev lim (comp E dr nt true as)
  (fun e s=>St.rec (fun F3 M3 n3=>match e with
    | .normal=>wo0 M3 l (fun st pend _ _ _ _ _ _=>match st with
      | .ready=>vr0 lim l .busy pend M3 (fun M1=>runC ev lim (comp E dr nt true body) (fun e s=>St.rec (fun F4 M4 n4=>match e with
        | .normal=>vr0 lim l .ready none M4 (fun M2=>K (.bool true) M2 n4)
        | .exit id=>vr0 lim l .done (some (.exit id)) M4 (fun M2=>K (.bool false) M2 n4)
        | .ret=>vr0 lim l .done (some .ret) M4 (fun M2=>K (.bool false) M2 n4)) s) ⟨F3,M1,n3⟩)
      | _=>false)
    | _=>false) s) ⟨F',M,n⟩))) (Nat.ble lim l)

noncomputable def evN (FN:Tr FI) (E:Env) (d:Nat):Ev :=
 Nat.rec ⟨1000000,fun _ _ _ _ _ _=>false,fun _ _ _ _ _ _=>false⟩ (fun _ ih=>⟨1000000,callB FN E ih,yldB E ih⟩) d
end Go.Af
namespace Go.Af
open Go
variable {rd:Bool}
attribute [local irreducible] awp qj qI qK

structure EvOk (P:Program) (ev:Ev):Prop where
 call : ∀ {lim f:Nat} {args:List Value} {B M:Tr EB} {n:Nat} {H:List Blk} {K:HK},ev.call lim f args M n K=true->HOk B lim M n H->qj P f args H (Aft B lim K)
 yld : ∀ {lim l:Nat} {args:List Value} {B M:Tr EB} {n:Nat} {H:List Blk} {K:HK},ev.yld lim l args M n K=true->HOk B lim M n H->qK P l args H (Aft B lim K)

theorem qt0 {E:Env} {o:Op} {f:EV} {args:List EV} (h:cOp E o = .call f args) : ∃ c f',o = .call c/\c.callee = .value f' /\ f=cv f' /\ args=c.args.toList.map cv:=by
 cases o with
 | slice t x lo hi mx=>cases mx <;> simp only[cOp] at h <;> (repeat' split at h) <;> cases h
 | makeMap t r=>cases r <;> simp only[cOp] at h <;> (repeat' split at h) <;> cases h
 | next x is=>cases is <;> simp only[cOp] at h <;> cases h
 | call c =>
   obtain ⟨callee,as,ats⟩:=c
   cases callee with
   | value f' => simp only[cOp] at h;cases h;exact⟨_,f',rfl,rfl,rfl,rfl⟩
   | invoke r m=>cases h
   | builtin b=>cases b <;> simp only[cOp] at h <;> (repeat' split at h) <;> cases h
 | _=>simp only[cOp] at h <;> (repeat' split at h) <;> cases h
theorem za0 {E:Env} {o:Op} {f:EV} {ms:List (Nat × Nat)} {args:List EV} (h:cOp E o = .inv f ms args) : ∃ c f' name,o = .call c/\c.callee = .invoke f' name/\f=cv f' /\ ms=msF E.ms name/\args=c.args.toList.map cv:=by
 cases o with
 | slice t x lo hi mx=>cases mx <;> simp only[cOp] at h <;> (repeat' split at h) <;> cases h
 | makeMap t r=>cases r <;> simp only[cOp] at h <;> (repeat' split at h) <;> cases h
 | next x is=>cases is <;> simp only[cOp] at h <;> cases h
 | call c =>
   obtain ⟨callee,as,ats⟩:=c
   cases callee with
   | value f' => cases h
   | invoke r m=>simp only[cOp] at h;cases h;exact⟨_,r,m,rfl,rfl,rfl,rfl,rfl⟩
   | builtin b=>cases b <;> simp only[cOp] at h <;> (repeat' split at h) <;> cases h
 | _=>simp only[cOp] at h <;> (repeat' split at h) <;> cases h
theorem ud0 {E:Env} {o:Op} (h:valX (cOp E o)=true):(uC o||QO o)=true:=by
 cases o <;> try rfl
 case makeMap t r=>cases r <;> simp only[cOp] at h <;> (repeat' split at h) <;> cases h
 case next x is=>cases is <;> simp only[cOp] at h <;> cases h
 case convert s d x=>simp only[cOp] at h;(repeat' split at h) <;> first | (cases h;done) | (cases hsd:Nat.beq s d <;> simp_all [uC])
 all_goals (simp only[cOp] at h;try (cases h;done))
 case call c =>
  obtain ⟨callee,args,ats⟩:=c
  cases callee with
  | value f=>cases h
  | invoke r m=>cases h
  | builtin b=>cases b <;> first | rfl | (simp only at h;(repeat' split at h) <;> cases h)
 all_goals ((repeat' split at h) <;> cases h)

section
variable {P:Program} {E:Env} {ev:Ev} {B M:Tr EB} {lim n:Nat} {H:List Blk} {F:Tr Value} {sl:List (Nat × Value)} {K:HK} {K' : Value->List Blk->Prop}

theorem ZN (hev:EvOk P ev) (hh:HOk B lim M n H) {f:Nat} {args:List Value} (h:ev.call n f args M n K=true):qI P f args H (Aft B lim K) :=
 YK hh fun B' H' h' => hev.call h h'

theorem ZY (hs:SlOk F sl) {q:Bool} {f:Operand} {args:List Operand} (h:opE ev lim q (.call (cv f) (args.map cv)) F M n K=true) :
 ∃ fv as,Go.Af.ev sl f=some fv/\evs sl args=some as /\
   ((∃ g first captured,fv = .func (.func g) first captured/\ev.call (Bool.rec lim n q) g (first.toList++(as++captured.toList)) M n K=true) \/
    (∃ l first captured,fv = .func (.yield l) first captured/\first.toList = []/\q=false/\ev.yld lim l as M n K=true)):=by
 simp only[opE] at h;obtain ⟨fv,h1,h2⟩:=qA hs h;obtain ⟨as,h3,h4⟩:=Vk hs h2;refine⟨fv,as,h1,h3, ?_⟩;split at h4
 ·rw[um,um] at h4
  exact .inl ⟨_,_,_,rfl,h4⟩
 ·split at h4
  ·rename_i hf
   cases q with
   | false=>exact .inr ⟨_,_,_,rfl,hf,rfl,h4⟩
   | true=>cases h4
  ·cases h4
 ·cases h4
theorem Yu (hs:SlOk F sl) {q:Bool} {r:Operand} {ms:List (Nat × Nat)} {args:List Operand} (h:opE ev lim q (.inv (cv r) ms (args.map cv)) F M n K=true) :
 ∃ t v as g,Go.Af.ev sl r=some (.iface t v)/\evs sl args=some as/\(t,g)∈ms/\ev.call (Bool.rec lim n q) g (v::as) M n K=true:=by
 simp only[opE] at h;obtain ⟨rv,h1,h2⟩:=qA hs h;split at h2
 ·obtain ⟨as,h3,h4⟩:=Vk hs h2
  split at h4
  ·rename_i g hg
   exact⟨_,_,as,g,h1,h3,Xx hg,h4⟩
  ·cases h4
 ·cases h2

theorem vY0 {x:XO} {q:Bool} (hc : ∀ f args,x ≠ .call f args) (hi : ∀ f ms args,x ≠ .inv f ms args) (h:opE ev lim q x F M n K=true):eop x lim F M n K=true/\(q=true->valX x=true):=by
 have h' : Bool.rec (motive:=fun _=>Bool) (eop x lim F M n K) (Bool.rec (motive:=fun _=>Bool) false (eop x lim F M n K) (valX x)) q=true:=by
  cases x <;> first | exact absurd rfl (hc _ _) | exact absurd rfl (hi _ _ _) | exact h
 cases q with
 | false=>exact⟨h',fun h=>by cases h⟩
 | true=>obtain ⟨h1,h2⟩:=brT' h'; exact⟨h2,fun _=>h1⟩

theorem qK.monoE {P:Program} {l:Nat} {args:List Value} {H:List Blk} {R R' : Value->List Blk->Prop} (h:qK P l args H R) (hr : ∀ v H,R v H->R' v H):qK P l args H R' := by
 unfold qK at *;intro m argsR w r h1 h2 h3;obtain ⟨nx,w1,k1,k2⟩:=h m argsR w r h1 h2 h3;exact⟨nx,w1,k1,k2.mono fun _ _ h=>h.mono hr⟩
theorem opE_c (hE:EOk P E) (hev:EvOk P ev) (hs:SlOk F sl) (hh:HOk B lim M n H) (hK : ∀ v M' n' H',HOk B lim M' n' H' -> K v M' n' = true->K' v H') {o:Op} (h:opE ev lim false (cOp E o) F M n K=true):ZA P E.T o sl H K' := by
 have aft : ∀ v H',Aft B lim K v H' -> K' v H' := fun v H' ⟨M',n',h1,h2⟩=>hK v M' n' H' h1 h2
 by_cases hcall : ∃ f args,cOp E o = .call f args
 ·obtain ⟨f,args,he⟩:=hcall
  obtain ⟨c,f',rfl,hc,rfl,rfl⟩:=qt0 he;rw[he] at h;obtain ⟨fv,as,h1,h2,h3⟩:=ZY hs h;simp only[ZA,hc,h1,h2];rcases h3 with ⟨g,first,captured,rfl,h4⟩ | ⟨l,first,captured,rfl,hf,_,h4⟩
  ·exact (hev.call h4 hh).mono aft
  ·simp only[AVal,hf];exact (hev.yld h4 hh).monoE aft
 by_cases hinv : ∃ f ms args,cOp E o = .inv f ms args
 ·obtain ⟨f,ms,args,he⟩:=hinv
  obtain ⟨c,f',name,rfl,hc,rfl,rfl,rfl⟩:=za0 he;rw[he] at h;obtain ⟨t,v,as,g,h1,h2,h3,h4⟩:=Yu hs h;simp only[ZA,hc,h1,h2];obtain ⟨m,h5,h6⟩:=Xz h3;exact⟨g,fun v w=>hE.ms name m h5 t g h6 v w,(hev.call h4 hh).mono aft⟩
 obtain ⟨h1,_⟩:=vY0 (fun f args he=>hcall ⟨f,args,he⟩) (fun f ms args he=>hinv ⟨f,ms,args,he⟩) h;have:=yJ0 hE hs hh hK h1
 cases o with
 | call c =>
   obtain ⟨callee,args,ats⟩:=c
   cases callee with
   | value f=>exact absurd ⟨_,_,rfl⟩ hcall
   | invoke r m=>exact absurd ⟨_,_,_,rfl⟩ hinv
   | builtin b=>exact this
 | _=>exact this

theorem opE_x (hE:EOk P E) (hev:EvOk P ev) (hs:SlOk F sl) (hh:HOk B lim M n H) (hK : ∀ v M' n' H',HOk B lim M' n' H' -> K v M' n' = true->K' v H') {o:Op} (h:opE ev lim true (cOp E o) F M n K=true):Zw P E.T o sl H K' := by
 have aft : ∀ v H',Aft B lim K v H' -> K' v H' := fun v H' ⟨M',n',h1,h2⟩=>hK v M' n' H' h1 h2
 by_cases hcall : ∃ f args,cOp E o = .call f args
 ·obtain ⟨f,args,he⟩:=hcall
  obtain ⟨c,f',rfl,hc,rfl,rfl⟩:=qt0 he;rw[he] at h;obtain ⟨fv,as,h1,h2,h3⟩:=ZY hs h;simp only[Zw,hc,h1,h2];rcases h3 with ⟨g,first,captured,rfl,h4⟩ | ⟨l,first,captured,rfl,hf,hq,h4⟩
  ·exact (ZN hev hh h4).mono aft
  ·cases hq
 by_cases hinv : ∃ f ms args,cOp E o = .inv f ms args
 ·obtain ⟨f,ms,args,he⟩:=hinv
  obtain ⟨c,f',name,rfl,hc,rfl,rfl,rfl⟩:=za0 he;rw[he] at h;obtain ⟨t,v,as,g,h1,h2,h3,h4⟩:=Yu hs h;simp only[Zw,hc,h1,h2];obtain ⟨m,h5,h6⟩:=Xz h3;exact⟨g,fun v w=>hE.ms name m h5 t g h6 v w,(ZN hev hh h4).mono aft⟩
 obtain ⟨h1,h2⟩:=vY0 (fun f args he=>hcall ⟨f,args,he⟩) (fun f ms args he=>hinv ⟨f,ms,args,he⟩) h;have hst:=yJ0 hE hs hh hK h1;have hv:=ud0 (h2 rfl)
 cases o with
 | call c =>
   obtain ⟨callee,args,ats⟩:=c
   cases callee with
   | value f=>exact absurd ⟨_,_,rfl⟩ hcall
   | invoke r m=>exact absurd ⟨_,_,_,rfl⟩ hinv
   | builtin b =>
     have hv' : uC (.call ⟨.builtin b,args,ats⟩)=true:=by simpa [QO] using hv
     simp only[Zw,hv'];exact hst
 | _=>first | (simp only[Zw,hv];exact hst) | cases hv

theorem UO (hE:EOk P E) (hev:EvOk P ev) (hs:SlOk F sl) (hh:HOk B lim M n H) (hK : ∀ v M' n' H',HOk B lim M' n' H' -> K v M' n' = true->K' v H') {o:Op} {q:Bool} (h:opE ev lim q (cOp E o) F M n K=true):WJ P E.T q o sl H K' := by
 cases q with
 | false=>exact opE_c hE hev hs hh hK h
 | true=>exact opE_x hE hev hs hh hK h

theorem SlOk.put (hs:SlOk F sl) (d:Nat) (v:Value):SlOk (F.set v (psOf d)) ((d,v)::sl):=by
 intro s u hu;rw[Tr.get_set] at hu;simp only[look];split at hu
 ·rename_i hp;have:=QY hp;subst this;cases hu;simp
 ·rename_i hp
  have:Nat.beq d s=false:=by cases hb:Nat.beq d s with | false=>rfl | true=>exact absurd (by rw[Nat.eq_of_beq_eq_true hb]) hp
  rw[this];exact hs s u hu

theorem yK {nt:Nat} (hs:SlOk F sl) {d:Option Tmp} {v:Value} {G:Tr Value->Bool} (h:dstE (cDst nt d) v F G=true) {G' : List (Nat × Value)->Prop} (hG : ∀ F' sl',SlOk F' sl' -> G F' = true->G' sl'):putK nt d v sl G' := by
 cases d with
 | none=>exact hG _ _ hs h
 | some d =>
   simp only[cDst] at h;simp only[putK];split at h
   ·rename_i hb
    rw[hb];have h' : F.setK v (psOf d) G=true:=h;rw[Tr.setK_eq] at h';exact hG _ _ (hs.put d v) h'
   ·cases h

theorem QH (hs:SlOk F sl) {all:List Oper} {g:Option (Nat × Bool)} {yes no:Bool} (h:guardE (Xa all g) F yes no=true) {Y N:List (Nat × Value)->Prop}
 (hY : ∀ sl',SlOk F sl' -> yes=true->Y sl') (hN : ∀ sl',SlOk F sl' -> no=true->N sl'):uB all g sl Y N:=by
 cases g with
 | none=>exact hY _ hs h
 | some g =>
   obtain ⟨j,want⟩:=g;simp only[Xa] at h;simp only[uB];split at h
   ·cases h
   ·rename_i d hd
    obtain ⟨v,h1,h2⟩:=Tr.getK_spec (show F.getK _ (psOf d)=true from h);have hl:=hs d v h1
    have re : ∀ b,v = .bool b->SlOk F ((d, .bool b)::sl):=by
     intro b hb s u hu;simp only[look]
     cases hbq:Nat.beq d s with
     | true =>
       have:=Nat.eq_of_beq_eq_true hbq;subst this;rw[h1] at hu;rw[<- hb];exact hu
     | false=>exact hs s u hu
    rw[hd];simp only[hl];split at h2
    ·rename_i b
     simp only;refine⟨fun hb=>?_,fun hb=>?_⟩
     ·subst hb;refine hY _ (re _ rfl) ?_;cases b <;> exact h2
     ·subst hb;refine hN _ (re _ rfl) ?_;cases want <;> exact h2
    ·exact hN _ hs h2
    ·cases h2

/-! ### Monotone conditions -/
end
end Go.Af
namespace Go.Af
open Go
variable {rd:Bool}
attribute [local irreducible] awp qj qI qK

section
variable {P:Program} {E:Env} {ev:Ev} {B M:Tr EB} {lim n nt:Nat} {H:List Blk} {F:Tr Value} {sl:List (Nat × Value)} {K:HK}

theorem YQ (hE:EOk P E) (hev:EvOk P ev) {all:List Oper} : ∀ {l:List Oper} {F:Tr Value} {M:Tr EB} {n:Nat} {H:List Blk} {sl:List (Nat × Value)} {k:St->Bool} (_:uM ev lim (cOps E nt all l) F M n k=true) (_:SlOk F sl) (_:HOk B lim M n H)
 {Q:List (Nat × Value)->List Blk->Prop} (_ : ∀ s sl' H',SlOk s.F sl' -> HOk B lim s.M s.n H' -> k s=true->Q sl' H'),vops P E.T nt all l Q sl H
 | [],F,M,n,H,sl,k,h,hs,hh,Q,hQ=>hQ _ _ _ hs hh h
 | o::l,F,M,n,H,sl,k,h,hs,hh,Q,hQ=>by
   simp only[vops]
   have h' : guardE (Xa all o.guard) F (opE ev lim false (cOp E o.op) F M n (fun v M' n' => dstE (cDst nt o.dst) v F (fun F' => uM ev lim (cOps E nt all l) F' M' n' k)))
    (dstE (cDst nt o.dst) undef F (fun F' => uM ev lim (cOps E nt all l) F' M n k))=true:=h
   refine QH hs h' (fun sl' hs' h1=>?_) (fun sl' hs' h1=>?_)
   ·refine opE_c hE hev hs' hh (fun v M' n' H' hh' h2=>?_) h1
    exact yK hs' h2 fun F' sl2 hs2 h3=>YQ hE hev h3 hs2 hh' hQ
   ·exact yK hs' h1 fun F' sl2 hs2 h3=>YQ hE hev h3 hs2 hh hQ

theorem Xh (hE:EOk P E) (hev:EvOk P ev) {all:List Oper} {qs:List Bool} : ∀ {σ : List Nat} {F:Tr Value} {M:Tr EB} {n:Nat} {H:List Blk} {sl:List (Nat × Value)} {k:St->Bool} (_:uM ev lim (cOrd E nt all qs σ) F M n k=true) (_:SlOk F sl) (_:HOk B lim M n H)
 {Q:List (Nat × Value)->List Blk->Prop} (_ : ∀ s sl' H',SlOk s.F sl' -> HOk B lim s.M s.n H' -> k s=true->Q sl' H'),Qx P E.T nt all qs σ Q sl H
 | [],F,M,n,H,sl,k,h,hs,hh,Q,hQ=>hQ _ _ _ hs hh h
 | i :: σ,F,M,n,H,sl,k,h,hs,hh,Q,hQ=>by
   simp only[Qx]
   cases ho:uf all i with
   | none =>
     have h' : uM ev lim ((match uf all i with | some o=>YC E nt all (bAt qs i) o | none=>Uz)::cOrd E nt all qs σ) F M n k=true:=h;rw[ho] at h'; cases h'
   | some o =>
     have h' : uM ev lim ((match uf all i with | some o=>YC E nt all (bAt qs i) o | none=>Uz)::cOrd E nt all qs σ) F M n k=true:=h;rw[ho] at h'
     have h' : guardE (Xa all o.guard) F (opE ev lim (bAt qs i) (cOp E o.op) F M n (fun v M' n' => dstE (cDst nt o.dst) v F (fun F' => uM ev lim (cOrd E nt all qs σ) F' M' n' k)))
      (dstE (cDst nt o.dst) undef F (fun F' => uM ev lim (cOrd E nt all qs σ) F' M n k))=true:=h'
     refine QH hs h' (fun sl' hs' h1=>?_) (fun sl' hs' h1=>?_)
     ·refine UO hE hev hs' hh (fun v M' n' H' hh' h2=>?_) h1
      exact yK hs' h2 fun F' sl2 hs2 h3=>Xh hE hev h3 hs2 hh' hQ
     ·exact yK hs' h1 fun F' sl2 hs2 h3=>Xh hE hev h3 hs2 hh hQ

theorem zD0 (hE:EOk P E) (hev:EvOk P ev) {all:List Oper} {qs:List Bool} : ∀ {p:Plan} {F:Tr Value} {M:Tr EB} {n:Nat} {H:List Blk} {sl:List (Nat × Value)} {k:St->Bool} (_:runT ev lim (ZB E nt all qs p) F M n k=true) (_:SlOk F sl) (_:HOk B lim M n H)
 {Q:List (Nat × Value)->List Blk->Prop} (_ : ∀ s sl' H',SlOk s.F sl' -> HOk B lim s.M s.n H' -> k s=true->Q sl' H'),Vx P E.T nt all qs Q p sl H:=by
 have step : ∀ {i:Nat} {p:Plan} {F:Tr Value} {M:Tr EB} {n:Nat} {H:List Blk} {sl:List (Nat × Value)} {k:St->Bool} (_:runT ev lim (.first (match uf all i with | some o=>YC E nt all (bAt qs i) o | none=>Uz) (ZB E nt all qs p)) F M n k=true) (_:SlOk F sl) (_:HOk B lim M n H)
  {X:List (Nat × Value)->List Blk->Prop} (_ : ∀ {F M n H sl},runT ev lim (ZB E nt all qs p) F M n k=true->SlOk F sl->HOk B lim M n H->X sl H),
  (match uf all i with
  | some o=>uB all o.guard sl (fun sl=>WJ P E.T (bAt qs i) o.op sl H (fun v H' => putK nt o.dst v sl (fun sl' => X sl' H')))
     (fun sl=>putK nt o.dst undef sl (fun sl' => X sl' H))
  | none=>False):=by
  intro i p F M n H sl k h hs hh X hX
  cases ho:uf all i with
  | none=>rw[ho] at h;cases h
  | some o =>
    rw[ho] at h
    have h' : guardE (Xa all o.guard) F (opE ev lim (bAt qs i) (cOp E o.op) F M n (fun v M' n' => dstE (cDst nt o.dst) v F (fun F' => runT ev lim (ZB E nt all qs p) F' M' n' k)))
     (dstE (cDst nt o.dst) undef F (fun F' => runT ev lim (ZB E nt all qs p) F' M n k))=true:=h
    refine QH hs h' (fun sl' hs' h1=>?_) (fun sl' hs' h1=>?_)
    ·refine UO hE hev hs' hh (fun v M' n' H' hh' h2=>?_) h1
     exact yK hs' h2 fun F' sl2 hs2 h3=>hX h3 hs2 hh'
    ·exact yK hs' h1 fun F' sl2 hs2 h3=>hX h3 hs2 hh
 intro p
 induction p with
 | done =>
   intro F M n H sl k h hs hh Q hQ;have h' : natF n (fun n=>Bool.rec (motive:=fun _=>Bool) false true (k ⟨F,M,n⟩))=true:=h;rw[vP] at h';exact hQ _ _ _ hs hh (brT' h').1
 | no=>intro F M n H sl k h hs hh Q hQ;exact trivial
 | first i p ih=>intro F M n H sl k h hs hh Q hQ;exact step h hs hh fun h hs hh=>ih h hs hh hQ
 | alt i p q ih ih2 =>
   intro F M n H sl k h hs hh Q hQ;obtain ⟨h1,h2⟩:=brT' (show Bool.rec (motive:=fun _=>Bool) false (runT ev lim (ZB E nt all qs q) F M n k) (runT ev lim (.first (match uf all i with | some o=>YC E nt all (bAt qs i) o | none=>Uz) (ZB E nt all qs p)) F M n k)=true from h);exact⟨step h1 hs hh fun h hs hh=>ih h hs hh hQ,ih2 h2 hs hh hQ⟩

theorem xn0 (hh:HOk B lim M n H) {l:Nat} (hl:Nat.ble lim l=true) {G:LoopState->Option Code->Nat->Tr Value->Array Tmp->Code->Code->DT->Bool} (h:wo0 M l G=true) :
 ∃ st pend m F ps as body dr sl,l<n/\lim<=l/\G st pend m F ps as body dr=true/\SlOk F sl/\bget H l=some (.loop st pend m sl ps as body)/\M.get (psOf l)=some (.loop st pend m F ps as body dr):=by
 obtain ⟨eb,h1,h2⟩:=Tr.getK_spec h;obtain ⟨h3,b,h4,h5⟩:=hh.get l eb h1;split at h2
 ·rename_i st pend m F ps as body dr
  rw[hl] at h5;obtain ⟨sl,h6,h7⟩:=h5;exact⟨st,pend,m,F,ps,as,body,dr,sl,h3,Nat.le_of_ble_eq_true hl,h2,h6,by rw[qV,h4,h7],h1⟩
 ·cases h2

theorem wN0 (hh:HOk B lim M n H) {l:Nat} {G:Ex->Tr EB->Bool} (h:endE lim l M G=true) {Q:Ex->List Blk->Prop} (hQ : ∀ e M' H',HOk B lim M' n H' -> G e M' = true->Q e H'):qx l H Q:=by
 obtain ⟨hl,h1⟩:=brT' h;obtain ⟨st,pend,m,F,ps,as,body,dr,sl,k1,k2,k3,k4,k5,k6⟩:=xn0 hh hl h1
 have fin : ∀ {K' : Ex->Prop} {G' : Ex->Bool},uT0 pend G' = true->(∀ e,G' e=true->K' e)->Zz pend K' := by
  intro K' G' hj hk;unfold uT0 at hj;split at hj
  ·exact hk _ hj
  ·exact hk _ hj
  ·exact hk _ hj
  ·cases hj
 unfold qx;rw[k5];have w:HOk B lim (M.set (.loop .exhausted pend m F ps as body dr) (psOf l)) n (H.set l (.loop .exhausted pend m sl ps as body)):=hh.write k2 k1 k6 rfl ⟨sl,k4,rfl⟩
 cases st with
 | busy=>cases k3
 | ready=>rw[Tr.setK_eq] at k3;simp only[qP];exact fin k3 fun e h=>hQ e _ _ w h
 | done=>rw[Tr.setK_eq] at k3;simp only[qP];exact fin k3 fun e h=>hQ e _ _ w h
 | exhausted=>rw[Tr.setK_eq] at k3;simp only[qP];exact fin k3 fun e h=>hQ e _ _ w h

theorem Qb (hh:HOk B lim M n H) {l:Nat} {st' : LoopState} {pend' : Option Code} {G:Tr EB->Bool} (h:vr0 lim l st' pend' M G=true) :
 ∃ st pend m sl ps as body M',bget H l=some (.loop st pend m sl ps as body)/\HOk B lim M' n (H.set l (.loop st' pend' m sl ps as body))/\G M' = true:=by
 obtain ⟨hl,h1⟩:=brT' h;obtain ⟨st,pend,m,F,ps,as,body,dr,sl,k1,k2,k3,k4,k5,k6⟩:=xn0 hh hl h1;rw[Tr.setK_eq] at k3;exact⟨st,pend,m,sl,ps,as,body,_,k5,hh.write k2 k1 k6 rfl (eb := .loop st' pend' m F ps as body dr) ⟨sl,k4,rfl⟩,k3⟩

theorem yB (hE:EOk P E) (hev:EvOk P ev) (hm:P.follows .mixedOrders=true) {dr:DT} {n0:Nat} : ∀ (c:Code) {k:Ex->St->Bool} {s:St} {sl:List (Nat × Value)} {H:List Blk} (_:runC ev lim (comp E dr nt rd c) k s=true) (_:SlOk s.F sl) (_:HOk B lim s.M s.n H)
 {Q:Ex->List (Nat × Value)->List Blk->Prop} (_ : ∀ e s' sl' H',SlOk s'.F sl' -> HOk B lim s'.M s'.n H' -> k e s' = true->Q e sl' H'),vcg P E.T rd n0 nt c Q sl H
 | .skip,k,s,sl,H,h,hs,hh,Q,hQ=>hQ _ _ _ _ hs hh h
 | .region id ops draw,k,s,sl,H,h,hs,hh,Q,hQ=>by
   cases draw with
   | false=>exact YQ hE hev (show uM ev lim (cOps E nt ops.toList ops.toList) s.F s.M s.n (fun s=>k .normal s)=true from h) hs hh fun s' sl' H' h1 h2 h3=>hQ _ _ _ _ h1 h2 h3
   | true =>
     have h' : runC ev lim (match ndF dr id with
      | some (.ord bf qs σ)=>match Qn0 ops bf qs σ with
        | true=>.reg (cOrd E nt ops.toList qs σ)
        | false=>.bad
      | some (.tree bf qs p)=>match Yh ops bf.toArray qs p with
        | true=>.regT (ZB E nt ops.toList qs p)
        | false=>.bad
      | none=>.bad) k s=true:=h
     split at h'
     ·rename_i bf qs σ hd
      split at h'
      ·rename_i hB
       obtain ⟨l⟩:=ops;exact wo hE.T hm bf qs σ (xQ0 hB) (Xh hE hev (show uM ev lim (cOrd E nt l qs σ) s.F s.M s.n (fun s=>k .normal s)=true from h') hs hh fun s' sl' H' h1 h2 h3=>hQ _ _ _ _ h1 h2 h3)
      ·cases h'
     ·rename_i bf qs p hd
      split at h'
      ·rename_i hB
       obtain ⟨l⟩:=ops;exact qp hE.T hm bf qs p hB (zD0 hE hev (show runT ev lim (ZB E nt l qs p) s.F s.M s.n (fun s=>k .normal s)=true from h') hs hh fun s' sl' H' h1 h2 h3=>hQ _ _ _ _ h1 h2 h3)
      ·cases h'
     ·cases h'
 | .seq x y,k,s,sl,H,h,hs,hh,Q,hQ=>by
   simp only[vcg];refine yB hE hev hm x (show runC ev lim (comp E dr nt rd x) (fun e s=>Ex.rec (runC ev lim (comp E dr nt rd y) k s) (fun i=>k (.exit i) s) (k .ret s) e) s=true from h) hs hh fun e s' sl' H' h1 h2 h3=>?_
   cases e with
   | normal=>exact yB hE hev hm y h3 h1 h2 hQ
   | exit i=>exact hQ _ _ _ _ h1 h2 h3
   | ret=>exact hQ _ _ _ _ h1 h2 h3
 | .cond c x y,k,s,sl,H,h,hs,hh,Q,hQ=>by
   obtain ⟨v,h1,h2⟩:=qA hs (show gv (cv c) s.F _=true from h);simp only[vcg,Uw,h1];split at h2
   ·rename_i t
    refine⟨fun ht=>?_,fun ht=>?_⟩
    ·subst ht;exact yB hE hev hm x h2 hs hh hQ
    ·subst ht;exact yB hE hev hm y h2 hs hh hQ
   ·cases h2
 | .block id c,k,s,sl,H,h,hs,hh,Q,hQ=>by
   simp only[vcg];refine yB hE hev hm c (show runC ev lim (comp E dr nt rd c) (fun e s=>Ex.rec (k .normal s) (fun i=>Bool.rec (k (.exit i) s) (k .normal s) (Nat.beq i id)) (k .ret s) e) s=true from h) hs hh fun e s' sl' H' h1 h2 h3=>?_
   cases e with
   | normal=>exact hQ _ _ _ _ h1 h2 h3
   | exit i =>
     cases hb:Nat.beq i id with
     | true=>simp only[hb] at h3 ⊢; exact hQ _ _ _ _ h1 h2 h3
     | false=>simp only[hb] at h3 ⊢; exact hQ _ _ _ _ h1 h2 h3
   | ret=>exact hQ _ _ _ _ h1 h2 h3
 | .loop c,k,s,sl,H,h,hs,hh,Q,hQ=>by
   have go : ∀ m,(Nat.rec (motive:=fun _=>St->Bool) (fun _=>false) (fun _ ih s=>runC ev lim (comp E dr nt rd c) (fun e s=>Ex.rec (ih s) (fun i=>k (.exit i) s) (k .ret s) e) s) m) s=true->awp P rd n0 (.loop c) (aft nt Q) ⟨nt,sl⟩ H:=by
    intro m hm0;refine zI0 hE.T (fun m sl H => ∃ s,SlOk s.F sl/\HOk B lim s.M s.n H/\(Nat.rec (motive:=fun _=>St->Bool) (fun _=>false) (fun _ ih s=>runC ev lim (comp E dr nt rd c) (fun e s=>Ex.rec (ih s) (fun i=>k (.exit i) s) (k .ret s) e) s) m) s=true) m ⟨s,hs,hh,hm0⟩ ?_;rintro m sl H ⟨s,hs,hh,hr⟩
    cases m with
    | zero=>cases hr
    | succ m =>
      refine yB hE hev hm c (show runC ev lim (comp E dr nt rd c) (fun e s=>Ex.rec (Nat.rec (motive:=fun _=>St->Bool) (fun _=>false) (fun _ ih s=>runC ev lim (comp E dr nt rd c) (fun e s=>Ex.rec (ih s) (fun i=>k (.exit i) s) (k .ret s) e) s) m s) (fun i=>k (.exit i) s) (k .ret s) e) s=true from hr) hs hh fun e s' sl' H' h1 h2 h3=>?_
      cases e with
      | normal=>exact⟨m,Nat.lt_succ_self _,s',h1,h2,h3⟩
      | exit i=>exact hQ _ _ _ _ h1 h2 h3
      | ret=>exact hQ _ _ _ _ h1 h2 h3
   exact go ev.fu h
 | .rangeFunc f ps as body,k,s,sl,H,h,hs,hh,Q,hQ=>by
   cases rd with
   | true=>cases h
   | false =>
     obtain ⟨v,h1,h2⟩:=qA hs (show gv (cv f) s.F _=true from h);simp only[vcg,h1];split at h2
     ·rename_i g first captured
      refine wI hh (eb := .loop .ready none nt s.F ps as body dr) (b := .loop .ready none nt sl ps as body) ⟨sl,hs,rfl⟩ h2 fun l M' n' H' hh' h3=>?_
      rw[um] at h3;refine (hev.call h3 hh').mono fun v H2 ⟨M2,n2,hh2,h4⟩=>?_
      exact wN0 hh2 h4 fun e M3 H3 hh3 h5=>hQ e ⟨s.F,M3,n2⟩ _ _ hs hh3 h5
     ·cases h2
 | .exit id,k,s,sl,H,h,hs,hh,Q,hQ=>hQ _ _ _ _ hs hh h
 | .scope c,k,s,sl,H,h,hs,hh,Q,hQ=>by
   simp only[vcg];exact yB hE hev hm c h hs hh hQ
 | .label _,k,s,sl,H,h,hs,hh,Q,hQ=>by cases h
 | .goto _,k,s,sl,H,h,hs,hh,Q,hQ=>by cases h
 | .ret,k,s,sl,H,h,hs,hh,Q,hQ=>hQ _ _ _ _ hs hh h
 | .refuse _,k,s,sl,H,h,hs,hh,Q,hQ=>by cases h

theorem uN (hs:SlOk F sl) (hh:HOk B lim M n H) : ∀ {l:List ResultVar} {K:List Value->Bool} (_:resE E F M l K=true) {K' : List Value->Prop} (_ : ∀ vs,K vs=true->K' vs),resK E.T sl H l K'
 | [],K,h,K',hK=>hK _ h
 | .tmp t::l,K,h,K',hK=>by
   obtain ⟨v,h1,h2⟩:=Tr.getK_spec (show F.getK (fun v=>resE E F M l (fun vs=>K (v::vs))) (psOf t)=true from h);simp only[resK,hs t v h1];exact uN hs hh h2 fun vs h=>hK _ h
 | .cell a t::l,K,h,K',hK=>by
   simp only[resK]
   have h' : (match tget E.T t with
    | some i=>F.getK (fun v=>match v with
      | .pointer (some ⟨b,o,none⟩)=>cellsE M b (fun _ vs=>Bool.rec (lget (fun v=>resE E F M l (fun us=>K (v::us))) vs o) (lseg vs o i.size (fun seg=>resE E F M l (fun us=>K (.agg ⟨seg⟩::us)))) i.kind.agg)
      | _=>false) (psOf a)
    | none=>false)=true:=h
   split at h'
   ·rename_i i hi
    rw[hi];obtain ⟨v,h1,h2⟩:=Tr.getK_spec h';obtain ⟨b,o,rfl,h3⟩:=ptrE (G:=fun b o=>cellsE M b _) h2;obtain ⟨w,z,vs,g1,g2,g4⟩:=wH hh h3;simp only[hs a _ h1,g1]
    cases ha:i.kind.agg with
    | true =>
      rw[ha] at g4;obtain ⟨g5,g6⟩:=xX g4;exact YX g5 (uN hs hh g6 fun vs h=>hK _ h)
    | false =>
      rw[ha] at g4;obtain ⟨u,g5,g6⟩:=xw g4;exact⟨u,g5,uN hs hh g6 fun vs h=>hK _ h⟩
   ·cases h'

theorem YH : ∀ {args:List Value} {i:Nat} {F:Tr Value} {sl:List (Nat × Value)} (_:SlOk F sl) (_ : ∀ s v,look sl s=some v->s<i) {G:Tr Value->Bool} (_:argE args F i G=true), ∃ F',(∀ s v,F'.get (psOf s)=some v->look (Vp args i) s=some v\/look sl s=some v)/\G F' = true
 | [],i,F,sl,hs,hl,G,h=>⟨F,fun s v h=>.inr (hs s v h),h⟩
 | v::args,i,F,sl,hs,hl,G,h=>by
   have h' : F.setK v (psOf i) (fun F' => argE args F' (i+1) G)=true:=h;rw[Tr.setK_eq] at h'
   obtain ⟨F',h1,h2⟩:=YH (sl:=(i,v)::sl) (hs.put i v) (fun s u hu=>by
    simp only[look] at hu;split at hu
    ·rename_i hb;have:=Nat.eq_of_beq_eq_true hb;omega
    ·have:=hl s u hu;omega) h'
   refine⟨F',fun s u hu=>?_,h2⟩;show look ((i,v)::Vp args (i+1)) s=some u\/_;rcases h1 s u hu with h3 | h3
   ·obtain ⟨h4,_⟩:=VM _ _ _ _ h3
    have:Nat.beq i s=false:=by cases hb:Nat.beq i s with | false=>rfl | true=>have:=Nat.eq_of_beq_eq_true hb;omega
    simp only[look,this];exact .inl h3
   ·simp only[look] at h3 ⊢
    split at h3
    ·rename_i hb;exact .inl h3
    ·have:=hl s u h3
     exact .inr h3

structure FnOk (P:Program) (FN:Tr FI):Prop where
 ok : ∀ f fi,FN.get (psOf f)=some fi->(∀ (as:Array Value) (w:World),(callFunc f as).run P w = .ok (.enter f as) w)/\∃ fn,P.funcs[f]? = some fn/\fn.body=some fi.code/\fn.ntmps=fi.nt/\fn.results.toList=fi.res

theorem zK {g:Value->List Nat->(List Nat->Bool)->Bool} (hg : ∀ v acc K,g v acc K=true->∃ a,K a=true) : ∀ {l:List Value} {acc:List Nat} {K:List Nat->Bool},Ug g l acc K=true->∃ a,K a=true
 | [],acc,K,h=>⟨acc,h⟩
 | x::l,acc,K,h=>by obtain ⟨a,h2⟩:=hg x acc (fun acc=>Ug g l acc K) h;exact zK hg h2
theorem WW {n0 b:Nat} {acc:List Nat} {K:List Nat->Bool} (h:refB n0 b acc K=true) : ∃ a,K a=true:=by
 unfold refB at h;cases hb:Nat.ble n0 b <;> rw[hb] at h <;> exact⟨_,h⟩
theorem wR {n0:Nat} : ∀ {f:Nat} (v:Value) (acc:List Nat) (K:List Nat->Bool),refV n0 f v acc K=true->∃ a,K a=true
 | 0,v,acc,K,h=>⟨acc,h⟩
 | f+1,v,acc,K,h=>by
   have h' : refS n0 (refV n0 f) v acc K=true:=h;unfold refS at h';split at h'
   ·exact WW h'
   ·exact WW h'
   ·exact WW h'
   ·exact zK wR h'
   ·exact zK wR h'
   ·obtain ⟨a,h2⟩:=zK wR h'; exact zK wR h2
   ·exact wR _ _ _ h'
   ·exact⟨_,h'⟩
theorem WV {g:Value->List Nat->(List Nat->Bool)->Bool} (hg : ∀ v acc K,g v acc K=true->∃ a,K a=true) : ∀ {l:List MapEntry} {acc:List Nat} {K:List Nat->Bool},refM g l acc K=true->∃ a,K a=true
 | [],acc,K,h=>⟨acc,h⟩
 | x::l,acc,K,h=>by
   obtain ⟨a,h2⟩:=hg x.key acc (fun acc=>g x.val acc (fun acc=>refM g l acc K)) h;obtain ⟨a,h3⟩:=hg _ _ _ h2;exact WV hg h3
theorem ZL {n0:Nat} {eb:EB} {acc:List Nat} {K:List Nat->Bool} (h:qN0 n0 eb acc K=true) : ∃ a,K a=true:=by
 unfold qN0 at h;split at h
 ·exact zK wR h
 ·exact zK wR h
 ·exact zK wR h
 ·exact WV wR h
 ·exact WV wR h
 ·exact⟨_,h⟩
theorem QW {n0:Nat} : ∀ {M:Tr EB} {acc:List Nat} {K:List Nat->Bool},refT n0 M acc K=true->∃ a,K a=true
 | .e,acc,K,h=>⟨acc,h⟩
 | .n l v r,acc,K,h=>by
   obtain ⟨a,h2⟩:=QW (show refT n0 l acc (fun acc=>Option.rec (refT n0 r acc K) (fun eb=>qN0 n0 eb acc (fun acc=>refT n0 r acc K)) v)=true from h)
   cases v with
   | none=>exact QW h2
   | some eb=>obtain ⟨a,h3⟩:=ZL h2;exact QW h3
theorem uT {g:Nat->Bool} : ∀ {c k:Nat} {M:Tr EB} {K:Tr EB->Bool} (_:uq g c k M K=true) (_:HOk B lim M n H) (_:lim<=k) (_:k+c<=n), ∃ M',HOk B lim M' n H/\K M' = true
 | 0,k,M,K,h,hh,_,_=>⟨M,hh,h⟩
 | c+1,k,M,K,h,hh,hl,hn=>by
   obtain ⟨eb,h1,h2⟩:=Tr.getK_spec (show M.getK (fun eb=>uN0 (g k) eb (fun eb' => M.setK eb' (psOf k) (fun M' => natF (Nat.succ k) (fun k' => uq g c k' M' K))) (natF (Nat.succ k) (fun k' => uq g c k' M K))) (psOf k)=true from h);simp only[vP,Tr.setK_eq] at h2;obtain ⟨_,b,g1,g2⟩:=hh.get k eb h1;rw[Nat.ble_eq_true_of_le hl] at g2;have skip:uq g c (k+1) M K=true->∃ M',HOk B lim M' n H/\K M' = true:=fun h=>uT h hh (by omega) (by omega)
   have put : ∀ {eb' : EB},eb.isHeld=false->(eb'.isRo=true->lim=0)->BOk true eb' b->uq g c (k+1) (M.set eb' (psOf k)) K=true->∃ M',HOk B lim M' n H/\K M' = true:=by
    intro eb' hhe hro hb h3;have hw:=hh.write hl (by omega:k<n) h1 hhe hb hro
    have e:H.set k b=H:=by
     obtain ⟨hlt,he⟩:=List.getElem?_eq_some_iff.1 g1;rw[<- he,List.set_getElem_self]
    rw[e] at hw;exact uT h3 hw (by omega) (by omega)
   unfold uN0 at h2;split at h2
   ·obtain ⟨sl,_,rfl⟩:=g2;exact put (eb' := .gone) rfl (fun h=>nomatch h) ⟨rfl,rfl⟩ h2
   ·simp only[BOk] at g2;subst g2;exact put (eb' := .gone) rfl (fun h=>nomatch h) ⟨rfl,rfl⟩ h2
   ·simp only[BOk] at g2;subst g2
    cases hr:g k with
    | true=>rw[hr] at h2;exact skip h2
    | false=>rw[hr] at h2;exact put (eb' := .gone) rfl (fun h=>nomatch h) ⟨rfl,rfl⟩ h2
   ·simp only[BOk] at g2;subst g2
    cases hr:g k with
    | true=>rw[hr] at h2;exact skip h2
    | false=>rw[hr] at h2;exact put (eb' := .goneC _) rfl (fun h=>nomatch h) ⟨_,rfl⟩ h2
   ·exact skip h2
theorem VZ : ∀ {c k:Nat} {M:Tr EB} {K:Nat->Nat->Bool},Ut M c k K=true->∃ k' q,k<=k' /\ k' + q<=k+c/\K k' q=true
 | 0,k,M,K,h=>⟨k,0,Nat.le_refl _,by omega,h⟩
 | c+1,k,M,K,h=>by
   obtain ⟨eb,_,h2⟩:=Tr.getK_spec (show M.getK (fun eb=>match eb with | .iter .. => K k (Nat.succ c) | _=>natF (Nat.succ k) (fun k' => Ut M c k' K)) (psOf k)=true from h);split at h2
   ·exact⟨k,c+1,Nat.le_refl _,Nat.le_refl _,h2⟩
   ·rw[vP] at h2
    obtain ⟨k',q,h3,h4,h5⟩:=VZ h2;exact⟨k',q,by omega,by omega,h5⟩
theorem QL {n0:Nat} {M:Tr EB} : ∀ {f:Nat} {todo seen:List Nat} {K:List Nat->Bool},qr0 n0 M f todo seen K=true->∃ rs,K rs=true
 | 0,todo,seen,K,h=>⟨_,h⟩
 | f+1,[],seen,K,h=>⟨_,h⟩
 | f+1,b::r,seen,K,h=>by
   have h' : Bool.rec (motive:=fun _=>Bool) (M.getK (fun eb=>qN0 n0 eb r (fun todo' => qr0 n0 M f todo' (b::seen) K)) (psOf b)) (qr0 n0 M f r seen K) (nin seen b)=true:=h
   cases hb:nin seen b with
   | true=>rw[hb] at h'; exact QL h'
   | false =>
     rw[hb] at h';obtain ⟨eb,_,h2⟩:=Tr.getK_spec h';obtain ⟨a,h3⟩:=ZL h2;exact QL h3
theorem ZU {n0:Nat} {v:Value} {K:Tr EB->Nat->Bool} {jn:Nat} (h:qS0 jn n0 n v M K=true) (hh:HOk B lim M n H) (hl:lim<=n0) : ∃ M',HOk B lim M' n H/\K M' n=true:=by
 have fin : ∀ {M' : Tr EB},natF n (fun m=>Bool.rec false true (K M' m))=true->K M' n=true:=fun h=>by rw[vP] at h;exact (brT' h).1
 have key : ∀ (g:Nat->Bool) (c k:Nat),n0<=k->(c=0\/k+c<=n)->uq g c k M (fun M' => natF n (fun m=>Bool.rec false true (K M' m)))=true->∃ M',HOk B lim M' n H/\K M' n=true:=by
  intro g c k hk hc h;rcases hc with hc | hc
  ·subst hc;exact⟨M,hh,fin h⟩
  ·obtain ⟨M',g1,g2⟩:=uT h hh (by omega) hc
   exact⟨M',g1,fin g2⟩
 have sub:Nat.sub n n0=0\/n0+Nat.sub n n0<=n:=by have e:Nat.sub n n0=n-n0:=rfl;omega
 unfold qS0 at h;split at h
 ·exact⟨M,hh,h⟩
 ·rw[vP] at h;exact key _ _ _ (Nat.le_refl _) sub h
 ·rw[vP] at h
  obtain ⟨k',q,h1,h2,h3⟩:=VZ h;obtain ⟨acc,h4⟩:=wR _ _ _ h3;obtain ⟨rs,h5⟩:=QL h4;exact key _ _ _ h1 (by have e:Nat.sub n n0=n-n0:=rfl;omega) h5
 ·rw[vP] at h
  obtain ⟨acc,h2⟩:=wR _ _ _ h;obtain ⟨rs,h3⟩:=QW h2;exact key _ _ _ (Nat.le_refl _) sub h3

theorem VG : ∀ {bs:List (Bool × Nat × List Value)} {M:Tr EB} {n:Nat} {H:List Blk} (_:HOk B lim M n H) {K:Tr EB->Nat->Bool} (_:xj0 lim bs M n K=true), ∃ M' n',HOk B lim M' n' (H++bs.map (fun x=>.cells x.1 x.2.1 x.2.2))/\K M' n' = true
 | [],M,n,H,hh,K,h=>⟨M,n,by simpa using hh,h⟩
 | (true,z,vs)::bs,M,n,H,hh,K,h=>by
   have h' : qC0 vs (fun vs=>zM M n (.cells z vs) (fun _ M' n' => xj0 lim bs M' n' K))=true:=h;rw[Wu] at h';have:=wI (R:=fun _ H' => H' = H ++ [.cells true z vs]->∃ M' n',HOk B lim M' n' (H' ++ bs.map (fun x=>.cells x.1 x.2.1 x.2.2))/\K M' n' = true) hh (eb := .cells z vs) (b := .cells true z vs) rfl h' (fun i M' n' H' h1 h2 _=>VG h1 h2);rw[vH] at this;obtain ⟨M',n',h1,h2⟩:=this rfl;exact⟨M',n',by simpa using h1,h2⟩
 | (false,z,vs)::bs,M,n,H,hh,K,h=>by
   have h' : qC0 vs (fun vs=>Bool.rec false (zM M n (.ro z vs) (fun _ M' n' => xj0 lim bs M' n' K)) (Nat.beq lim 0))=true:=h;rw[Wu] at h';obtain ⟨h3,h'⟩:=brT h' rfl;have:=wI (R:=fun _ H' => H' = H ++ [.cells false z vs]->∃ M' n',HOk B lim M' n' (H' ++ bs.map (fun x=>.cells x.1 x.2.1 x.2.2))/\K M' n' = true) hh (eb := .ro z vs) (b := .cells false z vs) rfl h' (fun i M' n' H' h1 h2 _=>VG h1 h2) (fun _=>Nat.eq_of_beq_eq_true h3);rw[vH] at this;obtain ⟨M',n',h1,h2⟩:=this rfl;exact⟨M',n',by simpa using h1,h2⟩
theorem wl0 (hh:HOk B lim M n H) (i z:Nat) (vs:List Value) (h:memE M i=some (z,vs)) : ∃ w,bget H i=some (.cells w z vs):=by
 unfold memE at h;split at h
 ·rename_i z' vs' hg
  cases h;obtain ⟨_,b,h1,h2⟩:=hh.get i _ hg;simp only[BOk] at h2;exact⟨_,by rw[qV,h1,h2]⟩
 ·rename_i z' vs' hg
  cases h;obtain ⟨_,b,h1,h2⟩:=hh.get i _ hg;simp only[BOk] at h2;exact⟨_,by rw[qV,h1,h2]⟩
 ·cases h

theorem xT0 {FN:Tr FI} (hF:FnOk P FN) (hE:EOk P E) (hev:EvOk P ev) (hm:P.follows .mixedOrders=true) {f:Nat} {args:List Value} (h:callB FN E ev lim f args M n K=true) (hh:HOk B lim M n H):qj P f args H (Aft B lim K):=by
 have h0:Option.rec (motive:=fun _=>Bool) (FN.getK (fun fi=>Bool.rec false (argE args .e Nat.zero (fun F=>runC ev lim (comp E fi.dr fi.nt false fi.code)
  (fun e s=>St.rec (fun F1 M1 n1=>Ex.rec (resE E F1 M1 fi.res (fun vs=>vO0 vs (fun v=>qS0 fi.jn n n1 v M1 (fun M' m=>K v M' m)))) (fun _=>false) (resE E F1 M1 fi.res (fun vs=>vO0 vs (fun v=>qS0 fi.jn n n1 v M1 (fun M' m=>K v M' m)))) e) s) ⟨F,M,n⟩)) (Nat.ble (llen args) fi.nt)) (psOf f))
  (fun g=>orcE lim (g args (memE M) n) M n K) (ndF E.ors f)=true:=h
 cases ho:ndF E.ors f with
 | some g =>
   rw[ho] at h0;have h1:orcE lim (g args (memE M) n) M n K=true:=h0;unfold orcE at h1
   cases hg:g args (memE M) n with
   | none=>rw[hg] at h1;cases h1
   | some r =>
     obtain ⟨v,bs⟩:=r;rw[hg] at h1;refine (hE.ors f g (Xx ho) args (memE M) H v bs (wl0 hh) (by rw[hh.len];exact hg)).mono fun v' H' ⟨e1,e2⟩=>?_
     subst e1;subst e2;obtain ⟨M',n',k1,k2⟩:=VG (K:=fun M' n' => vfin v' (fun v=>K v M' n')) hh h1;rw[ua0] at k2;exact⟨M',n',k1,k2⟩
 | none =>
 rw[ho] at h0;obtain ⟨fi,h1,h2⟩:=Tr.getK_spec h0;obtain ⟨hc,fn,g1,g2,g3,g4⟩:=hF.ok f fi h1;obtain ⟨h3,h4⟩:=brT' h2;obtain ⟨F,h5,h6⟩:=YH (sl := []) (fun s v h=>by cases hp:psOf s <;> rw[hp] at h <;> cases h) (fun s v h=>by cases h) h4;have hlen:args.length<=fi.nt:=by rw[QG] at h3;exact Nat.le_of_ble_eq_true h3
 refine zC hE.T hc g1 g2 g3 rfl hlen ?_
 have hs:SlOk F (Vp args 0):=fun s v h=>by
  rcases h5 s v h with h | h
  ·exact h
  ·cases h
 refine yB hE hev hm fi.code h6 hs hh fun e s' sl' H' k1 k2 k3=>?_
 cases e with
 | exit i=>cases k3
 | normal=>simp only[endQ];rw[g4];exact uN k1 k2 k3 fun vs h=>(ZU ((UX _ _).symm.trans h) k2 hh.le).elim fun M' h=>⟨M',s'.n,h.1,h.2⟩
 | ret=>simp only[endQ];rw[g4];exact uN k1 k2 k3 fun vs h=>(ZU ((UX _ _).symm.trans h) k2 hh.le).elim fun M' h=>⟨M',s'.n,h.1,h.2⟩

theorem Xd : ∀ {ps:List Tmp} {vs:List Value} {F:Tr Value} {sl:List (Nat × Value)} (_:SlOk F sl) {G:Tr Value->Bool} (_:Qt0 nt ps vs F G=true) {K' : List (Nat × Value)->Prop} (_ : ∀ F' sl',SlOk F' sl' -> G F' = true->K' sl'),Ws nt ps vs sl K'
 | [],[],F,sl,hs,G,h,K',hK=>hK _ _ hs h
 | p::ps,v::vs,F,sl,hs,G,h,K',hK=>by
   have h' : Bool.rec (motive:=fun _=>Bool) false (F.setK v (psOf p) (fun F' => Qt0 nt ps vs F' G)) (Nat.blt p nt)=true:=h;obtain ⟨h1,h2⟩:=brT' h';rw[Tr.setK_eq] at h2;simp only[Ws,h1];exact Xd (hs.put p v) h2 hK
 | [],_::_,_,_,_,_,h,_,_=>by cases h
 | _::_,[],_,_,_,_,h,_,_=>by cases h

theorem yQ0 (hE:EOk P E) (hev:EvOk P ev) (hm:P.follows .mixedOrders=true) {l:Nat} {args:List Value} (h:yldB E ev lim l args M n K=true) (hh:HOk B lim M n H):qK P l args H (Aft B lim K):=by
 obtain ⟨hl,h0⟩:=brT' h;obtain ⟨st,pend,m,F,ps,as,body,dr,sl,k1,k2,k3,k4,k5,k6⟩:=xn0 hh hl h0;refine Xf hE.T ?_;unfold VN;rw[k5];refine Xd k4 k3 fun F' sl' hs' h1=>?_
 refine yB hE hev hm as h1 hs' hh fun e s1 sl1 H1 g1 g2 g3=>?_
 cases e with
 | exit i=>cases g3
 | ret=>cases g3
 | normal =>
   simp only at g3 ⊢;obtain ⟨st2,pend2,m2,F2,ps2,as2,body2,dr2,sl2,j1,j2,j3,j4,j5,j6⟩:=xn0 g2 hl g3
   cases st2 with
   | ready =>
     obtain ⟨st3,pend3,m3,sl3,ps3,as3,body3,M3,i1,i2,i3⟩:=Qb g2 j3;rw[j5] at i1;cases i1;unfold qh;rw[j5];simp only[qP];refine yB hE hev hm body i3 g1 i2 fun e s4 sl4 H4 q1 q2 q3=>?_
     unfold roundEnd
     cases e with
     | normal =>
       obtain ⟨st5,pend5,m5,sl5,ps5,as5,body5,M5,r1,r2,r3⟩:=Qb q2 q3;rw[r1];simp only[qP];exact⟨M5,s4.n,r2,r3⟩
     | exit i =>
       obtain ⟨st5,pend5,m5,sl5,ps5,as5,body5,M5,r1,r2,r3⟩:=Qb q2 q3;rw[r1];simp only[qP];exact⟨M5,s4.n,r2,r3⟩
     | ret =>
       obtain ⟨st5,pend5,m5,sl5,ps5,as5,body5,M5,r1,r2,r3⟩:=Qb q2 q3;rw[r1];simp only[qP];exact⟨M5,s4.n,r2,r3⟩
   | _=>cases j3

theorem wD0 {FN:Tr FI} (hF:FnOk P FN) (hE:EOk P E) (hm:P.follows .mixedOrders=true) : ∀ d,EvOk P (evN FN E d)
 | 0=>⟨fun h _=>absurd (show false=true from h) (by simp),fun h _=>absurd (show false=true from h) (by simp)⟩
 | d+1=>⟨fun h hh=>xT0 hF hE (wD0 hF hE hm d) hm h hh,fun h hh=>yQ0 hE (wD0 hF hE hm d) hm h hh⟩
end

theorem run_ok {P:Program} {E:Env} {FN:Tr FI} (hF:FnOk P FN) (hE:EOk P E) (hm:P.follows .mixedOrders=true) {d f:Nat} {args:List Value} {k:Value->Bool}
 (h:(evN FN E d).call 0 f args .e 0 (fun v _ _=>k v)=true):qj P f args [] (fun v _=>k v=true) :=
 ((wD0 hF hE hm d).call h (B := .e) (H := []) ⟨rfl,Nat.le_refl _,fun i eb he=>(by cases hp:psOf i <;> rw[hp] at he <;> cases he),fun i hi=>(by omega),fun i hi=>rfl,fun i eb he=>(by cases hp:psOf i <;> rw[hp] at he <;> cases he)⟩).mono fun v H ⟨_,_,_,h⟩=>h
end Go.Af
namespace Go.Af
open Go
structure FOk (P:Program) (f:Nat) (fi:FI):Prop where
 ok:(∀ (as:Array Value) (w:World),(callFunc f as).run P w = .ok (.enter f as) w)/\∃ fn,P.funcs[f]? = some fn/\fn.body=some fi.code/\fn.ntmps=fi.nt/\fn.results.toList=fi.res
noncomputable def fiOf (fn:Func) (dr:DT) (jn:Nat:=0):FI:=⟨fn.ntmps,fn.results.toList,(match fn.body with | some c=>c | none=>.skip),dr,jn⟩
def YL (p:Nat->FI->Prop):(Nat->Nat)->Tr FI->Prop
 | _, .e=>True
 | g, .n l v r=>YL p (fun m=>g (2*m)) l/\(match v with | some x=>p (g 1-1) x | none=>True)/\YL p (fun m=>g (2*m+1)) r
theorem YL.get {p:Nat->FI->Prop} : ∀ {t:Tr FI} {g:Nat->Nat} (_:YL p g t) {q:Ps} {x:FI} (_:t.get q=some x),p (g q.nat-1) x
 | .e,g,h,q,x,hx=>by cases q <;> cases hx
 | .n l v r,g,h, .h,x,hx=>by have h2:=h.2.1;have hv:v=some x:=hx;rw[hv] at h2;exact h2
 | .n l v r,g,h, .o q,x,hx=>YL.get h.1 (q:=q) hx
 | .n l v r,g,h, .i q,x,hx=>YL.get h.2.2 (q:=q) hx
theorem xd0 (n:Nat):(psOf n).nat-1=n:=by have:=Wy (n+1) (n+1) (by omega) (by omega);show (psGo (n+1) (n+1)).nat-1=n;omega
theorem fok_of {P:Program} {t:Tr FI} (h:YL (FOk P) (fun m=>m) t):FnOk P t:=⟨fun f fi hf=>by have:=h.get hf;rw[xd0] at this;exact this.ok⟩

end Go.Af
