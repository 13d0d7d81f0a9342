/- A part of the proof. -/
import Derived.Test.YtmnjcogpchodhaaGreatMA
import Derived.Laws.StructEq
import Derived.ChangeKeysEq
import Derived.Still
set_option linter.all false
namespace Go.Af
open Go

section
variable {P:Program} {T:TT} {sl:List (Nat × Value)} {H:List Blk} {K:Value->List Blk->Prop} {o:Oper}

theorem vk {w w' : World} {s:Sem Value} {v:Value} (h:s.run P w = .ok v w'):(do pure (Next.value (<- s)):Sem Next).run P w = .ok (.value v) w' := by simp[h]

theorem zD {hi:Option Operand} {l:Nat} {K:Nat->Prop} {m:LM} {aR:Act} (hs:zx m sl aR.tmps) (h:hiK sl hi l K) :
 ∃ n,K n/\((hi=none/\n=l)\/∃ x k,hi=some x/\aR.eval x = .int k (n:Int)):=by
 unfold hiK at h;split at h
 ·exact⟨l,h, .inl ⟨rfl,rfl⟩⟩
 ·rename_i x
  split at h
  ·rename_i k n hv
   obtain ⟨m',rfl,hk⟩:=h;have:=qH hs hv;generalize hu:aR.eval x=u at this;cases this;exact⟨m',hk, .inr ⟨x,k,rfl,hu⟩⟩
  ·exact h.elim

theorem uK {k:IntKind} {n y:Nat} (h:n<=y) (code:BoundsCode) (w:World):(Instr.sliceBound (.int k (n:Int)) y code).run P w = .ok n w:=by
 simp[Instr.sliceBound,asIntOf,h]

theorem Qd {hi lo:Option Operand} {b:Bool} {len cap h l:Nat} {aR:Act} {w:World} (hh:(hi=none/\h=len)\/∃ x k,hi=some x/\aR.eval x = .int k (h:Int)) (hl:(lo=none/\l=0)\/∃ x k,lo=some x/\aR.eval x = .int k (l:Int)) (h1:l<=h) (h2:h<=cap) :
 (Instr.sliceBounds b len cap (lo.map aR.eval) (hi.map aR.eval) none).run P w = .ok (l,h,cap) w:=by
 rcases hh with ⟨rfl,rfl⟩ | ⟨x,k,rfl,e⟩ <;> rcases hl with ⟨rfl,rfl⟩ | ⟨y,j,rfl,e'⟩ <;> simp[Instr.sliceBounds, *,uK h1,uK h2]

theorem WT {hi lo:Option Operand} {mx:Operand} {kk:IntKind} {b:Bool} {len cap h l mm:Nat} {aR:Act} {w:World} (hm:aR.eval mx = .int kk (mm:Int)) (hh : ∃ x k,hi=some x/\aR.eval x = .int k (h:Int)) (hl:(lo=none/\l=0)\/∃ x k,lo=some x/\aR.eval x = .int k (l:Int)) (h1:l<=h) (h2:h<=mm) (h3:mm<=cap) :
 (Instr.sliceBounds b len cap (lo.map aR.eval) (hi.map aR.eval) (some (aR.eval mx))).run P w = .ok (l,h,mm) w:=by
 obtain ⟨x,k,rfl,e⟩:=hh;rcases hl with ⟨rfl,rfl⟩ | ⟨y,j,rfl,e'⟩ <;> simp[Instr.sliceBounds, *,uK h1,uK h2,uK h3]

theorem yv0 {x:Operand} (hop:o.op = .move x\/o.op = .assign x) (h:evK sl x (fun v=>K v H)):OpV P o sl H K :=
 fun m aR w hs hh=>by
  obtain ⟨v,hv,hk⟩:=Qi h;refine⟨v,aR.eval x,hk,fun w' _=>?_,qH hs hv⟩;rcases hop with e | e <;> simp[execOp,e]

theorem s_pick {c a b:Operand} (hop:o.op = .pick c a b) (h:qC P T (.pick c a b) sl H K):OpV P o sl H K :=
 fun m aR w hs hh=>by
  simp only[qC,isCells,ql,qi] at h;split at h
  ·rename_i t hc
   have hcv:=qH hs hc;generalize hu:aR.eval c=u at hcv;cases hcv
   cases t with
   | true =>
     obtain ⟨v,hv,hk⟩:=Qi h;exact⟨v,aR.eval a,hk,fun w' _=>by simp[execOp,hop,hu,asBool],qH hs hv⟩
   | false =>
     obtain ⟨v,hv,hk⟩:=Qi h;exact⟨v,aR.eval b,hk,fun w' _=>by simp[execOp,hop,hu,asBool],qH hs hv⟩
  ·exact h.elim

theorem vJ0 (hT:TOk P T) {e:TypeId} (hop:o.op = .alloc e) (h:qC P T (.alloc e) sl H K):OpA P o sl H K :=
 fun m aR w hs hh=>by
  simp only[qC,isCells,ql,qi] at h;split at h
  ·rename_i i hi
   have hi:=hT.get hi;simp only[vO,vH,Nat.zero_add] at h;refine⟨1,_,i.zero.cells,e,_, .pointer (some ⟨w.heap.size,0,none⟩),Nat.one_pos,h, ?_, ?_, ?_⟩
   ·simp[execOp,hop,Instr.alloc,hi.run_zero,newVar,newRow]
   ·rw[<- wF];rw[wF];exact (wQ hi m).cells |> fun h=>by rw[wF] at h;exact h
   ·exact .ptr _ _ _ _ _ _ (LM.put_self _ _ _)
  ·exact h.elim

theorem s_box {e:TypeId} {x:Operand} (hop:o.op = .box e x) (h:qC P T (.box e x) sl H K):OpA P o sl H K :=
 fun m aR w hs hh=>by
  simp only[qC,isCells,ql,qi] at h;obtain ⟨v,hv,hk⟩:=Qi h;simp only[vO,vH,Nat.zero_add] at hk;refine⟨1,_,(aR.eval x).cells,e,_, .pointer (some ⟨w.heap.size,0,none⟩),Nat.one_pos,hk, ?_,(qH hs hv).cells, .ptr _ _ _ _ _ _ (LM.put_self _ _ _)⟩;simp[execOp,hop,Instr.box,newVar,newRow]

theorem uu0 (hT:TOk P T) {t:TypeId} {ps:Array (Nat × Operand)} (hop:o.op = .build t ps) (h:qC P T (.build t ps) sl H K):OpV P o sl H K :=
 fun m aR w hs hh=>by
  simp only[qC,isCells,ql,qi] at h;split at h
  ·rename_i i hi
   have hi:=hT.get hi;split at h
   ·rename_i pv hpv
    obtain ⟨e1,e2⟩:=uU (aR:=aR) hs hpv;have hz0:LRel m (qG i.zero) i.zero.cells.toList:=(wQ hi m).cells;split at h
    ·rename_i fs hk
     have hu:=hi.und;rw[hk] at hu;obtain ⟨fields,hu,hfs⟩:=hu;split at h
     ·rename_i hat
      split at h
      ·rename_i zs hzs
       simp only[vO] at h;obtain ⟨cs',g1,g2⟩:=WB e1 e2 hz0 hzs;refine⟨_, .agg cs',h,fun w' _=>?_, .agg' (by simpa using g2)⟩
       have hmap:(fields.mapM (fun f=>do pure (f.offset,<- sizeOf f.type)):Sem (Array (Nat × Nat))).run P w' = .ok (fields.map (fun f=>(f.offset,P.cellsOf f.type))) w' := by
        refine zZ0 (g:=fun f=>(f.offset,P.cellsOf f.type)) fields (fun f hf=>?_);obtain ⟨j,hj⟩:=uA hat (x:=(f.offset,f.type)) (by rw[<- hfs];exact List.mem_map.2 ⟨f,by simpa using hf,rfl⟩);have hj' := hT.get hj;obtain ⟨ji,k1,k2,_⟩:=hj'.infoEx;simp[hj'.run_size,Program.cellsOf,k1,k2]
       have hpl:(fun k:Nat=>(fields.map (fun f=>(f.offset,P.cellsOf f.type)))[k]?)=Xu T fs:=by
        funext k
        rw[<- hfs];unfold Xu;rw[fieldAt?_eq];simp only[Array.getElem?_map,List.getElem?_map,Array.getElem?_toList]
        cases hfk:fields[k]? with
        | none=>rfl
        | some f =>
          simp only[Option.map_some];obtain ⟨j,hj⟩:=uA hat (x:=(f.offset,f.type)) (by rw[<- hfs];exact List.mem_map.2 ⟨f,by simpa using Array.mem_of_getElem? hfk,rfl⟩);have hj' := hT.get hj;obtain ⟨ji,k1,k2,_⟩:=hj'.infoEx;simp only at hj;rw[hj];simp[Program.cellsOf,k1,k2]
       rw[<- hpl] at g1;simp only[execOp,hop];refine vk ?_;simp only[Instr.build,Sem.run_bind,hi.run_zero,Result.andThen_ok,qy hu,hmap,Array.toList_map];simp only[g1,Sem.run_pure]
      ·exact h.elim
     ·exact h.elim
    ·rename_i n e hk
     have hu:=hi.und;rw[hk] at hu;simp only[KOk] at hu;split at h
     ·rename_i j hj
      have hj:=hT.get hj;split at h
      ·rename_i zs hzs
       simp only[vO] at h;obtain ⟨cs',g1,g2⟩:=WB e1 e2 hz0 hzs;refine⟨_, .agg cs',h,fun w' _=>?_, .agg' (by simpa using g2)⟩;simp only[execOp,hop];refine vk ?_;simp only[Instr.build,Sem.run_bind,hi.run_zero,Result.andThen_ok,qy hu,hj.run_size,Array.toList_map];simp only[g1,Sem.run_pure]
      ·exact h.elim
     ·exact h.elim
    ·exact h.elim
   ·exact h.elim
  ·exact h.elim

theorem VQ (hT:TOk P T) {t:TypeId} {len:Nat} {ps:Array (Nat × Operand)} (hop:o.op = .buildSlice t len ps) (h:qC P T (.buildSlice t len ps) sl H K):OpA P o sl H K :=
 fun m aR w hs hh=>by
  simp only[qC,isCells,ql,qi] at h;split at h
  ·rename_i i hi
   have hi:=hT.get hi;split at h
   ·rename_i e hk
    have hu:=hi.und;rw[hk] at hu;simp only[KOk] at hu;split at h
    ·rename_i j hj
     have hj:=hT.get hj;split at h
     ·rename_i pv hpv
      obtain ⟨e1,e2⟩:=uU (aR:=aR) hs hpv;obtain ⟨⟨hs0,hzl,hsm⟩,h⟩:=h;split at h
      ·rename_i zs hzs
       simp only[vO,qm,vH,Nat.zero_add] at h
       have hzr:LRel m (vS len (qG j.zero)) ((Array.range (len*j.size)).map (fun k=>j.zero.cells[k % j.zero.cells.size]!)).toList:=by
        rw[Vu (by rw[<- hzl,wF];simp) hs0,<- wF];refine LRel.refl_all (fun v hv=>?_);have hz:=(wQ hj m).cells;rw[<- wF] at hz
        have hmem:v∈qG j.zero:=by
         unfold vS at hv;split at hv
         ·rename_i x hx;rw[hx];simpa using (List.mem_replicate.1 hv).2
         ·obtain ⟨l,h1,h2⟩:=List.mem_flatten.1 hv
          rw[(List.mem_replicate.1 h1).2] at h2;exact h2
        obtain ⟨q,hq⟩:=List.getElem?_of_mem hmem;exact hz.2 q v v hq hq
       obtain ⟨cs',g1,g2⟩:=WB e1 e2 hzr hzs
       have hlen:cs'.size=len*j.size:=by
        have h1:zs.length=(vS len (qG j.zero)).length:=by
         clear g1 g2 hzr h e1 e2;generalize vS len (qG j.zero)=z at hzs;clear hpv
         induction pv generalizing z with
         | nil=>simp only[xh,Option.some.injEq] at hzs;rw[hzs]
         | cons p r ih =>
           obtain ⟨a,b⟩:=p;simp only[xh] at hzs;split at hzs
           ·rw[ih _ hzs,yT]
           ·cases hzs
        have:=g2.1;rw[h1,Qw,hzl] at this
        simpa using this.symm
       refine⟨j.size,zs,cs',e,_, .slice (some ⟨w.heap.size,0,none⟩) len len,hs0,h, ?_,g2, ?_⟩
       ·simp only[execOp,hop]
        have hsm' : ¬ (len*j.size > 2 ^ 24):=by omega
        have g1' : Instr.fill (fun k=>some (k*j.size,j.size)) ((Array.range (len*j.size)).map (fun k=>j.zero.cells[k % j.zero.cells.size]!)) (ps.map (fun (p:Nat × Operand)=>(p.1,aR.eval p.2))).toList=some cs' := by
         rw[Array.toList_map];exact g1
        refine vk ?_;by_cases h0:len*j.size=0
        ·have hr0:Array.range 0 = #[]:=rfl
         rw[h0,hr0] at g1';have g1'' : Instr.fill (fun k=>some (k*j.size,j.size)) #[] (ps.map (fun (p:Nat × Operand)=>(p.1,aR.eval p.2))).toList=some cs' := by rwa [Array.map_empty] at g1'
         simp only[Instr.buildSlice,Sem.run_bind,qy hu,Result.andThen_ok,hj.run_size,hsm',if_false,h0,if_true,Sem.run_pure,hr0,Array.map_empty,g1''];simp[newRow]
        ·simp only[Instr.buildSlice,Sem.run_bind,qy hu,Result.andThen_ok,hj.run_size,hsm',if_false,h0,Sem.run_pure,hj.run_zero]
         simp only[g1'];simp[newRow]
       ·exact .slice _ _ _ _ _ _ _ _ _ (LM.put_self _ _ _) (Nat.le_refl _) (.inr (by simp[hlen]))
      ·exact h.elim
     ·exact h.elim
    ·exact h.elim
   ·exact h.elim
  ·exact h.elim

theorem nc {b:Nat} {m:LM} {w:World} {wr:Bool} {z:Nat} {vs:List Value} (hh:HRel m H w) (hb:bget H b=some (.cells wr z vs)) (hm:m b=some .dead):False:=by
 have:=hh.dd _ hm;rw[qV,this] at hb;cases hb

theorem yX {b o' : Nat} {m:LM} {w:World} {wr:Bool} {z:Nat} {vs:List Value} {v:Value} (hh:HRel m H w) (hb:bget H b=some (.cells wr z vs)) (h:VRel m (.pointer (some ⟨b,o',none⟩)) v) :
 ∃ r sh tot esz,m b=some (.cel r sh tot esz)/\v = .pointer (some ⟨r,sh+o',none⟩)/\H[b]? = some (.cells wr z vs):=by
 cases h with
 | ptr _ _ r sh tot esz hm=>exact⟨r,sh,tot,esz,hm,rfl,by rw[<- qV];exact hb⟩
 | ptrDead _ _ a hm=>exact (nc hh hb hm).elim

theorem qs0 {w w' : World} (hx:ExtW w w') {r o:Nat} (hr:r<w.heap.size):w'.cell? ⟨r,o,none⟩=w.cell? ⟨r,o,none⟩:=by
 simp only[World.cell?,hx.2 r hr]

theorem Vf {w w' : World} : ∀ (n:Nat) (a:Addr) (i:Nat) (acc xs:Array Value),(loadCellsFrom a i n acc).run P w = .ok xs w->a.block<w.heap.size->ExtW w w' -> a.spot=none->(∀ j,j<n->∃ v,w.cell? (a.add (i+j))=some v) ->
 (loadCellsFrom a i n acc).run P w' = .ok xs w'
 | 0,a,i,acc,xs,h,_,_,_,_=>by simp[loadCellsFrom] at h ⊢; exact h
 | n+1,⟨r,o,s⟩,i,acc,xs,h,hr,hx,hs,hc=>by
   simp only at hs;subst hs;obtain ⟨v,hv⟩:=hc 0 (by omega);simp only[Nat.add_zero,addr_add] at hv;have hv' : w'.cell? ⟨r,o+i,none⟩=some v:=by rw[qs0 hx hr];exact hv
   simp only[loadCellsFrom,addr_add,Sem.run_bind,run_load,hv,Result.andThen_ok] at h;simp only[loadCellsFrom,addr_add,Sem.run_bind,run_load,hv',Result.andThen_ok];exact Vf n ⟨r,o,none⟩ (i+1) _ xs h hr hx rfl (fun j hj=>by obtain ⟨u,hu⟩:=hc (j+1) (by omega);exact⟨u,by rw[show i+1+j=i+(j+1) by omega];exact hu⟩)

theorem WS (hT:TOk P T) {t:TypeId} {i:TI} (hi:tget T t=some i) {b o' : Nat} {m:LM} {w:World} {wr:Bool} {z:Nat} {vs:List Value} {r sh tot esz:Nat} (hh:HRel m H w) (hm:m b=some (.cel r sh tot esz)) (hb:H[b]? = some (.cells wr z vs)) {K:Value->Prop}
 (h:match i.kind.agg with
   | true=>segK vs o' i.size (fun seg=>K (.agg ⟨seg⟩))
   | false=>Ld vs o' K) :
 ∃ v vR,K v/\(∀ w',ExtW w w' -> (loadVar t ⟨r,sh+o',none⟩).run P w' = .ok vR w')/\VRel m v vR:=by
 have hi' := hT.get hi;split at h
 ·rename_i ha
  obtain ⟨h1,h2⟩:=vF0 _ _ _ _ h
  have hx : ∃ xs:Array Value,(∀ w',ExtW w w' -> (loadCells ⟨r,sh+o',none⟩ i.size).run P w' = .ok xs w')/\LRel m ((vs.drop o').take i.size) xs.toList:=by
   rcases h2 with h2 | h2
   ·exact⟨#[],fun w' _=>by rw[h2];simp[loadCells,loadCellsFrom],by rw[h2];simp;exact .nil m⟩
   ·obtain ⟨xs,g1,g2⟩:=run_loadCells (P:=P) hh hm hb o' i.size h2
    exact⟨xs,fun w' hx=>by
     have e:=Vf (P:=P) i.size ⟨r,sh+o',none⟩ 0 #[] xs (by simpa [loadCells] using g1 w.drawn) (hh.lt (i:=b) (by rw[hm];rfl)) hx rfl (fun j hj=>by
      obtain ⟨v,g,_⟩:=hh.cell hm hb (o:=o' + j) (List.getElem?_eq_getElem (by omega))
      exact⟨v,by rw[addr_add,Nat.zero_add,Nat.add_assoc];exact g⟩)
     simpa [loadCells] using e,g2⟩
  obtain ⟨xs,g1,g2⟩:=hx;exact⟨_, .agg xs,h1,fun w' hx=>by simp[loadVar,hi'.run_isAgg,ha,hi'.run_size,g1 w' hx], .agg' (by simpa using g2)⟩
 ·rename_i ha
  obtain ⟨v,hv,hk⟩:=h;obtain ⟨v',g1,g2⟩:=hh.cell hm hb hv
  exact⟨v,v',hk,fun w' hx=>by
   have g1' : w'.cell? ⟨r,sh+o',none⟩=some v' := by rw[<- g1];exact qs0 hx (hh.lt (i:=b) (by rw[hm];rfl))
   simp[loadVar,hi'.run_isAgg,ha,g1'],g2⟩

theorem s_load (hT:TOk P T) {t:TypeId} {x:Operand} (hop:o.op = .load t x) (h:qC P T (.load t x) sl H K):OpV P o sl H K :=
 fun m aR w hs hh=>by
  simp only[qC,isCells,ql,qi] at h;split at h
  ·rename_i i hi
   split at h
   ·rename_i b o' hv
    split at h
    ·rename_i wr z vs hb
     obtain ⟨r,sh,tot,esz,hm,hu,hb'⟩:=yX hh hb (qH hs hv);obtain ⟨v,vR,h1,h2,h3⟩:=WS hT hi hh hm hb' (K:=fun v=>K v H) h;exact⟨v,vR,h1,fun w' hx=>by simp only[execOp,hop,hu];exact vk (by simp[Instr.loadAt,Instr.sureAddr,h2 w' (hx (by rw[hop];rfl))]),h3⟩
    ·exact h.elim
   ·exact h.elim
  ·exact h.elim

theorem uo0 (hT:TOk P T) {t:TypeId} {x y:Operand} (hop:o.op = .store t x y) (h:qC P T (.store t x y) sl H K):OpS P o sl H K:=by
 intro m aR w hs hh;simp only[qC,isCells,ql,qi] at h;split at h
 ·rename_i i hi
  have hi' := hT.get hi;split at h
  ·rename_i b o' v hx hy
   split at h
   ·rename_i z vs hb
    obtain ⟨⟨h1,h2,h3⟩,vs',h4,hk⟩:=h;simp only[qP] at hk;obtain ⟨r,sh,tot,esz,hm,hu,hb'⟩:=yX hh hb (qH hs hx);have hv:=qH hs hy;have hc:=hv.cells;obtain ⟨w',g1,g2,g3⟩:=xm (P:=P) _ _ hh hm hb' o' 0 (by omega) hc h2;rw[Nat.add_zero,h4] at g2 g3;have hsz:(aR.eval y).cells.size=i.size:=by have:=hc.1;rw[h1] at this;simpa using this.symm
    refine⟨.skip,w', ?_,undef,_,m,hk,VRel.plain m 6 _ rfl,g2,g3⟩;simp only[execOp,hop,hu];simp[Instr.storeAt,Instr.sureAddr,storeVar,hi'.run_size,hsz,g1]
   ·exact h.elim
  ·exact h.elim
 ·exact h.elim

theorem qI0 {x:Operand} (hop:o.op = .nilCheck x) (h:qC P T (.nilCheck x) sl H K):OpV P o sl H K :=
 fun m aR w hs hh=>by
  simp only[qC,isCells,ql,qi] at h;split at h
  ·rename_i a hv
   have:=qH hs hv;refine⟨_,aR.eval x,h,fun w' _=>?_,this⟩;simp only[execOp,hop];generalize aR.eval x=u at this;cases this <;> rfl
  ·rename_i f a c hv
   have:=qH hs hv;refine⟨_,aR.eval x,h,fun w' _=>?_,this⟩;simp only[execOp,hop];generalize aR.eval x=u at this;obtain ⟨f',xs',ys',rfl,hf,_⟩:=this.inv_func;cases hf;rfl
  ·rename_i f a c hv
   have:=qH hs hv;refine⟨_,aR.eval x,h,fun w' _=>?_,this⟩;simp only[execOp,hop];generalize aR.eval x=u at this;obtain ⟨f',xs',ys',rfl,hf,_⟩:=this.inv_func;cases hf
   ·rfl
   ·rfl
  ·rename_i t v hv
   have:=qH hs hv;refine⟨_,aR.eval x,h,fun w' _=>?_,this⟩;simp only[execOp,hop];generalize aR.eval x=u at this;cases this;rfl
  ·exact h.elim

theorem uw0 (hT:TOk P T) {op:BinOp} {t yt:TypeId} {x y:Operand} (hop:o.op = .binOp op t x y yt) (h:qC P T (.binOp op t x y yt) sl H K):OpV P o sl H K :=
 fun m aR w hs hh=>by
  simp only[qC,isCells,ql,qi] at h;split at h
  ·rename_i a b ha hb
   have ra:=qH hs ha;have rb:=qH hs hb
   have other:(op ≠ .eql/\op ≠ .neq)->abin op a b (fun v=>K v H)->∃ v vR,K v H/\(∀ w',(zV o.op=true->ExtW w w')->(execOp aR.eval o).run P w' = .ok (.value vR) w')/\VRel m v vR:=fun hne h=>by
    obtain ⟨v,h1,h2,h3⟩:=yn0 (P:=P) (t:=t) hne ra rb h;refine⟨v,v,h1,fun w' _=>?_,h3⟩;simp only[execOp,hop];refine vk ?_;have hg:(eqGuard op t x y (aR.eval x) (aR.eval y)).run P w' = .ok () w' := by cases op <;> first | exact absurd rfl hne.1 | exact absurd rfl hne.2 | simp[eqGuard]
    simp[hg,h2]
   cases op
   case eql =>
    obtain ⟨r,h1,h2,h4⟩:=zu0 hT hh ra rb h;exact⟨_, .bool r,h1,fun w' _=>by simp only[execOp,hop];exact vk (by simp[h4,(h2 w').1]), .bool _⟩
   case neq =>
    obtain ⟨r,h1,h2,h4⟩:=zu0 hT hh ra rb h;exact⟨_, .bool (!r),h1,fun w' _=>by simp only[execOp,hop];exact vk (by simp[h4,(h2 w').2]), .bool _⟩
   all_goals exact other ⟨by simp,by simp⟩ h
  ·exact h.elim

theorem s_unOp {op:UnOp} {t:TypeId} {x:Operand} (hop:o.op = .unOp op t x) (h:qC P T (.unOp op t x) sl H K):OpV P o sl H K :=
 fun m aR w hs hh=>by
  simp only[qC,isCells,ql,qi] at h;split at h
  ·rename_i b hv
   have:=qH hs hv;generalize hu:aR.eval x=u at this;cases this;exact⟨_,_,h,fun w' _=>by simp only[execOp,hop,hu];exact vk (by simp[Op.unary]), .bool _⟩
  ·rename_i k n hv
   have:=qH hs hv;generalize hu:aR.eval x=u at this;cases this;exact⟨_,_,xP h,fun w' _=>by simp only[execOp,hop,hu];exact vk (by simp[Op.unary,Op.intArith]), .int _ _⟩
  ·exact h.elim

theorem yH0 {w:World} {a:Addr} {r:Nat} (h:r≠a.block):(w.freeze a 1).heap[r]? = w.heap[r]? := by
 have : ¬ a.block=r:=fun e=>h e.symm
 simp[World.freeze,Array.getElem?_modify,this]
theorem frz_eq {w:World} {a:Addr} {c:Array Value} {e:TypeId} {f:Nat × Nat} (h:w.heap[a.block]? = some (.cells c e f)) : ∃ f',(w.freeze a 1).heap[a.block]? = some (.cells c e f'):=by
 obtain ⟨lo,hi⟩:=f;simp[World.freeze,Array.getElem?_modify,h]
theorem xv0 {w:World} {a:Addr}:(w.freeze a 1).heap.size=w.heap.size:=by simp[World.freeze]
theorem HRel.freeze {m:LM} {H:List Blk} {w:World} (h:HRel m H w) {i r sh tot esz:Nat} (hi:m i=some (.cel r sh tot esz)) {z:Nat} {vs:List Value} (hb:H[i]? = some (.cells true z vs)) (a:Addr) (ha:a.block=r) :
 HRel m (H.set i (.cells false z vs)) (w.freeze a 1)/\Fr H.length m H w m (H.set i (.cells false z vs)) (w.freeze a 1):=by
 obtain ⟨c,e,f,h1,h2,h3z,h3⟩:=h.cells hi hb;have hil:=h.dom i _ hi;have hir:vI (m i)=some r:=by rw[hi];rfl
 subst ha;refine⟨⟨fun j l hj=>by simpa using h.dom j l hj,fun j l b' hj hd hb' => ?_,fun j hj=>?_,fun j k r' b' hj hb' hw hk=>?_⟩,⟨by rw[xv0];exact Nat.le_refl _,fun _=>by simp,fun _ _ _ h=>.inl h,fun _ _ h=>h,fun j _ b' hb' hr' => ?_,fun r' hr hw=>⟨yH0 (fun e=>hw ⟨i,_,by rw[hir,e],hb,rfl⟩),fun ⟨j,b',k1,k2,k3⟩=>?_⟩,by unfold World.freeze;split <;> exact⟨rfl,rfl,rfl,by first | exact Nat.le_refl _ | exact Nat.le_succ _ | (simp;done) | (simp;omega)⟩⟩⟩
 ·rw[List.getElem?_set] at hb'
  by_cases hij:i=j
  ·subst hij
   rw[hi] at hj;cases hj;simp[hil] at hb'; subst hb';obtain ⟨f',hf'⟩:=frz_eq h1;exact⟨c,e,f',hf',h2,h3z,fun ht=>by cases ht⟩
  ·simp[hij] at hb'
   refine (h.blk j l b' hj hd hb').same (fun r' hr' => yH0 fun e=>?_);have:r' = a.block:=e;subst this;exact hij (h.own i j _ _ hir hb rfl (by rw[hj];exact hr'))
 ·rw[List.getElem?_set]
  have:i≠j:=fun e=>by subst e;rw[hi] at hj;cases hj
  simp only[this,if_false];exact h.dd j hj
 ·rw[List.getElem?_set] at hb'
  by_cases hij:i=j
  ·subst hij
   simp[hil] at hb'; subst hb'; cases hw
  ·simp[hij] at hb'
   exact h.own j k r' b' hj hb' hw hk
 ·rw[List.getElem?_set] at hb'
  by_cases hij:i=j
  ·subst hij;exact⟨_,hb,rfl⟩
  ·simp[hij] at hb'; exact⟨b',hb',hr'⟩
 ·rw[List.getElem?_set] at k2
  by_cases hij:i=j
  ·subst hij;exact hw ⟨i,_,k1,hb,rfl⟩
  ·simp[hij] at k2;exact hw ⟨j,b',k1,k2,k3⟩
theorem VB {P:Program} {w:World} {a:Addr} {c:Array Value} {e:TypeId} {f:Nat × Nat} (h:w.heap[a.block]? = some (.cells c e f)):(markStringish a).run P w = .ok () (w.freeze ⟨a.block,c.size,none⟩ 1):=by
 simp[markStringish,World.shape?,h]

theorem ZK (hT:TOk P T) {s d:TypeId} {x:Operand} (hop:o.op = .convert s d x) (h:qC P T (.convert s d x) sl H K):OpV P o sl H K\/(OpS P o sl H K/\Nat.beq s d=true):=by
 simp only[qC] at h;split at h
 ·rename_i i j v hi hj hv
  have ui:=(hT.get hi).und;have uj:=(hT.get hj).und;split at h
  ·rename_i k1 k2 k3 n e1 e2
   rw[e1] at ui;rw[e2] at uj;simp only[KOk] at ui uj
   left
   intro m aR w hs hh;have:=qH hs hv;generalize hu:aR.eval x=u at this;cases this;refine⟨_,_,xP h,fun w' _=>?_, .int _ _⟩;simp only[execOp,hop,hu];exact vk (by simp[convert,qy ui,qy uj,Conv.intToInt])
  ·rename_i b e1 e2
   rw[e1] at ui;rw[e2] at uj;simp only[KOk] at ui uj
   left
   intro m aR w hs hh;have:=qH hs hv;generalize hu:aR.eval x=u at this;cases this;refine⟨_,_,h,fun w' _=>?_, .string _⟩;simp only[execOp,hop,hu];exact vk (by simp[convert,qy ui,qy uj])
  ·rename_i e' e b o' l c e1 e2
   rw[e1] at ui;rw[e2] at uj;simp only[KOk] at ui uj;unfold Qr0 at h;split at h
   ·rename_i j' hsd hj'
    have uj' := (hT.get hj').und;split at h
    ·rename_i e3
     rw[e3] at uj';simp only[KOk] at uj'
     right
     refine⟨?_,hsd⟩;obtain ⟨hc,h⟩:=h;unfold qi at h;split at h
     ·rename_i z vs hb
      rw[qV] at hb;simp only[qP] at h;intro m aR w hs hh;have hr:=qH hs hv;generalize hu:aR.eval x=u at hr
      cases hr with
      | slice _ _ r sh tot esz _ _ c' hm hcc hl =>
        obtain ⟨cs,ee,f,g1,_⟩:=hh.cells hm hb;obtain ⟨g2,g3⟩:=hh.freeze hm hb ⟨r,cs.size,none⟩ rfl;have hs' := Nat.eq_of_beq_eq_true hsd;subst hs';have hee:e' = e:=by have h9:=ui.symm.trans uj;injection h9 with h9;injection h9
        subst hee;refine⟨.value (.slice (some ⟨r,sh+o',none⟩) l c'),w.freeze ⟨r,cs.size,none⟩ 1, ?_,_,_,m,h,VRel.slice _ _ r sh tot esz _ _ c' hm hcc hl,g2,g3⟩;simp only[execOp,hop,hu];have hms:=VB (P:=P) (w:=w) (a:=⟨r,sh+o',none⟩) g1;exact vk (by simp[convert,qy ui,qy uj',hms])
      | sliceZero _ _ a=>omega
      | sliceDead _ _ _ _ _ a hd _=>have:=hh.dd _ hd;rw[this] at hb;cases hb
     ·exact h.elim
    ·exact h.elim
   ·exact h.elim
  ·exact h.elim
 ·exact h.elim
theorem vI0 (hT:TOk P T) {s d:TypeId} {x:Operand} (hop:o.op = .convert s d x) (hne:Nat.beq s d=false) (h:qC P T (.convert s d x) sl H K):OpV P o sl H K:=by
 rcases ZK hT hop h with h | ⟨_,h⟩
 ·exact h
 ·rw[hne] at h;cases h
theorem qL0 (hT:TOk P T) {s d:TypeId} {x:Operand} (hop:o.op = .convert s d x) (h:qC P T (.convert s d x) sl H K):OpS P o sl H K:=by
 rcases ZK hT hop h with h | ⟨h,_⟩
 ·exact h.ops
 ·exact h

theorem WQ (hT:TOk P T) {t:TypeId} {x:Operand} (hop:o.op = .makeInterface t x) (h:qC P T (.makeInterface t x) sl H K):OpV P o sl H K :=
 fun m aR w hs hh=>by
  simp only[qC,isCells,ql,qi] at h;split at h
  ·rename_i i hi
   have ui:=(hT.get hi).und;split at h
   ·exact h.elim
   ·rename_i hne
    obtain ⟨v,hv,hk⟩:=Qi h;refine⟨_, .iface t (aR.eval x),hk,fun w' _=>?_, .iface _ _ _ (qH hs hv)⟩;simp only[execOp,hop];refine vk ?_;obtain ⟨d,hd,_⟩:=ui.desc
    have hd' : ∀ ms,d ≠ .interface ms:=by
     intro ms e;subst e;cases hk' : i.kind <;> rw[hk'] at ui <;> simp only[KOk] at ui
     case iface=>exact hne hk'
     case struct=>obtain ⟨f,g,_⟩:=ui;rw[hd] at g;cases g
     case func=>obtain ⟨_,_,_,g⟩:=ui;rw[hd] at g;cases g
     all_goals (rw[hd] at ui;cases ui)
    simp only[Instr.makeInterface,Sem.run_bind,qy hd,Result.andThen_ok];cases d <;> first | rfl | exact absurd rfl (hd' _)
  ·exact h.elim

theorem qK0 {fn:Fn} {first captured:Array Operand} (hop:o.op = .makeFunc fn first captured) (h:qC P T (.makeFunc fn first captured) sl H K):OpV P o sl H K :=
 fun m aR w hs hh=>by
  simp only[qC,isCells,ql,qi] at h;split at h
  ·rename_i a b ha hb
   split at h
   ·exact h.elim
   ·rename_i hne
    refine⟨_, .func fn (first.map aR.eval) (captured.map aR.eval),h,fun w' _=>?_, .func' (.same _ (fun l e=>hne l e)) (by simpa using QI hs ha) (by simpa using QI hs hb)⟩;simp only[execOp,hop];exact vk (by simp[Instr.makeFunc])
  ·exact h.elim

end
end Go.Af
namespace Go.Af
open Go

theorem HRel.setObj {m:LM} {H:List Blk} {w:World} (h:HRel m H w) {i r:Nat} (hi:m i=some (.obj r)) {b b' : Blk} (hb:H[i]? = some b) (hrw:b.isRw=true) {o:Obj} (hB:BRel m b' (.obj r) { w with heap:=w.heap.setIfInBounds r o }) :
 HRel m (H.set i b') { w with heap:=w.heap.setIfInBounds r o }/\Fr H.length m H w m (H.set i b') { w with heap:=w.heap.setIfInBounds r o }:=by
 have hir:vI (m i)=some r:=by rw[hi];rfl
 have hil:=h.dom i _ hi
 have hot : ∀ r',r' ≠ r->({ w with heap:=w.heap.setIfInBounds r o }:World).heap[r']? = w.heap[r']? := fun r' hr' => by
  show (w.heap.setIfInBounds r o)[r']? = _;rw[Array.getElem?_setIfInBounds];simp[Ne.symm hr']
 refine⟨⟨fun j l hj=>by simpa using h.dom j l hj,fun j l b0 hj hd hb0=>?_,fun j hj=>?_,fun j k r' b0 hj hb0 hw hk=>?_⟩,⟨by simp,fun _=>by simp,fun _ _ _ h=>.inl h,fun _ _ h=>h,fun j _ b0 hb0 hr0=>?_,fun r' hr hw=>⟨hot r' (fun e=>hw ⟨i,_,by rw[hir,e],hb,hrw⟩),fun ⟨j,b0,k1,k2,k3⟩=>?_⟩,⟨rfl,rfl,rfl,by first | exact Nat.le_refl _ | exact Nat.le_succ _ | (simp;done) | (simp;omega)⟩⟩⟩
 ·rw[List.getElem?_set] at hb0
  by_cases hij:i=j
  ·subst hij
   rw[hi] at hj;cases hj;simp[hil] at hb0;subst hb0;exact hB
  ·simp[hij] at hb0
   exact (h.blk j l b0 hj hd hb0).same (fun r' hr' => hot r' (fun e=>hij (h.own i j r b hir hb hrw (by rw[hj,hr',e]))))
 ·rw[List.getElem?_set]
  have:i≠j:=fun e=>by subst e;rw[hi] at hj;cases hj
  simp only[this,if_false];exact h.dd j hj
 ·rw[List.getElem?_set] at hb0
  by_cases hij:i=j
  ·subst hij
   exact h.own i k r' b hj hb hrw hk
  ·simp[hij] at hb0
   exact h.own j k r' b0 hj hb0 hw hk
 ·rw[List.getElem?_set] at hb0
  by_cases hij:i=j
  ·subst hij;exact⟨_,hb,hrw⟩
  ·simp[hij] at hb0;exact⟨b0,hb0,hr0⟩
 ·rw[List.getElem?_set] at k2
  by_cases hij:i=j
  ·subst hij;exact hw ⟨i,_,k1,hb,hrw⟩
  ·simp[hij] at k2;exact hw ⟨j,b0,k1,k2,k3⟩


section
variable {P:Program} {T:TT} {sl:List (Nat × Value)} {H:List Blk} {K:Value->List Blk->Prop} {o:Oper} {m:LM}

theorem ba_eq (a b:ByteArray):(a == b)=(a.data.toList == b.data.toList):=by
 cases a;cases b;rename_i a b;show (a == b)=(a.toList == b.toList);rw[Bool.eq_iff_iff];simp
theorem ba_of {a b:ByteArray} (h:(a.data.toList == b.data.toList)=true):a=b:=by
 have:=eq_of_beq h;cases a;cases b;simp at this;rw[this]
theorem Vg {xs:Array Value} {x' : Value} {ks:List PK} {as:List Int} (hx:VRel m (.agg xs) x') (h:xs.toList=List.zipWith PK.val ks as):x' = .agg ⟨List.zipWith PK.val ks as⟩:=by
 obtain ⟨ys,rfl,hy⟩:=hx.inv_agg;rw[h] at hy;have:=hy.ints;cases ys
 simpa using this
theorem Qg (hT:TOk P T) {t:TypeId} {x x' : Value} {K:Prop} (h:keyK P T t x K) (hx:VRel m x x'):K/\(∀ (e:Bool) (w:World),(Instr.checkKey e 10000 t x').run P w = .ok () w)/\∃ d,P.underlying t=some d:=by
 unfold keyK at h;split at h
 ·exact h.elim
 rename_i i hi;have ht:=(hT.get hi).und;split at h <;> try exact h.elim
 all_goals (rename_i hk;try rw[hk] at ht;simp only[KOk] at ht)
 ·cases hx
  exact⟨h,fun e w=>by rw[Instr.checkKey];simp[qy ht],_,ht⟩
 ·cases hx
  exact⟨h,fun e w=>by rw[Instr.checkKey];simp[qy ht],_,ht⟩
 ·cases hx
  exact⟨h,fun e w=>by rw[Instr.checkKey];simp[qy ht],_,ht⟩
 ·obtain ⟨ks,⟨_,h1⟩,h2⟩:=h
  obtain ⟨as,h3,h4,h5,n1⟩:=zk _ _ _ h2;rw[Vg hx h5];exact⟨h3,fun e w=>h1 as h4 e w,_,ht.choose_spec.1⟩
 ·obtain ⟨ks,⟨_,h1⟩,h2⟩:=h
  obtain ⟨as,h3,h4,h5,n1⟩:=zk _ _ _ h2;rw[Vg hx h5];exact⟨h3,fun e w=>h1 as h4 e w,_,ht⟩
 ·refine⟨h,fun e w=>?_,_,ht⟩
  rw[Instr.checkKey];cases hx <;> simp[qy ht]

theorem QU (n:Nat) : ∀ l:List Value,(∀ v∈l,(∃ k a,v=Value.int k a)\/∃ b,v=Value.bool b)->(l.zip l).all (fun (x,y)=>Instr.sameBits (n+1) x y)=true
 | [],_=>rfl
 | v::l,h=>by
   have:=QU n l (fun v hv=>h v (by simp[hv]));rcases h v (by simp) with ⟨k,a,rfl⟩ | ⟨b,rfl⟩ <;> (simp only[List.zip_cons_cons,List.all_cons,this,Bool.and_true];simp[Instr.sameBits])
theorem XZ (l:List Value) (h : ∀ v∈l,(∃ k a,v=Value.int k a)\/∃ b,v=Value.bool b):Instr.sameBits 10000 (.agg ⟨l⟩) (.agg ⟨l⟩)=true:=by
 have:=QU 9998 l h;simp only[Instr.sameBits,Bool.and_eq_true,beq_self_eq_true,true_and];exact this
theorem zz0 (ks:List PK) (as:List Int) : ∀ v∈List.zipWith PK.val ks as,(∃ k a,v=Value.int k a)\/∃ b,v=Value.bool b:=by
 intro v hv;obtain ⟨i,hi,rfl⟩:=List.getElem_of_mem hv;rw[List.getElem_zipWith]
 cases ks[i]'(by simp at hi;omega) with
 | int k=>exact .inl ⟨_,_,rfl⟩
 | bool=>exact .inr ⟨_,rfl⟩

theorem Zx {w:World} {r r2 o1 o2:Nat} (hne:r≠r2) {c1 c2:Array Value} {e1 e2:TypeId} {f1 f2:Nat × Nat} (h1:w.heap[r]? = some (.cells c1 e1 f1)) (h2:w.heap[r2]? = some (.cells c2 e2 f2)) (k1 : ∀ j, ¬ (f1.1<=j/\j<f1.2)) (k2 : ∀ j, ¬ (f2.1<=j/\j<f2.2)) :
 (sameAddr ⟨r,o1,none⟩ ⟨r2,o2,none⟩).run P w = .ok false w:=by
 simp[sameAddr,hne,World.frozen?,h1,h2,noView,viewAt,World.shape?,mayBeOne,stringish,k1,k2]
theorem vS0 {w0:World} (hh:HRel m H w0) {b o b' o' : Nat} {K:Bool->Prop} (h:Yf H b o b' o' K) {x' y' : Value} (hx:VRel m (.pointer (some ⟨b,o,none⟩)) x') (hy:VRel m (.pointer (some ⟨b',o',none⟩)) y') :
 ∃ a a' r,x' = .pointer (some a)/\y' = .pointer (some a')/\K r/\(∀ w,ExtW w0 w->(sameAddr a a').run P w = .ok r w)/\(r=true->a=a'):=by
 unfold Yf at h
 cases hb:Nat.beq b b' with
 | true =>
   have:=Nat.eq_of_beq_eq_true hb;subst this;rw[hb] at h;simp only at h;split at h
   ·rename_i wr z vs hg
    obtain ⟨r,sh,tot,esz,hm,rfl,_⟩:=yX hh hg hx;obtain ⟨r2,sh2,tot2,esz2,hm2,rfl,_⟩:=yX hh hg hy;rw[hm] at hm2;cases hm2;refine⟨_,_,_,rfl,rfl,h,fun w _=>?_,fun hr=>by rw[Nat.eq_of_beq_eq_true hr]⟩
    cases ho:Nat.beq o o' with
    | true =>
      have:=Nat.eq_of_beq_eq_true ho;subst this;simp[sameAddr]
    | false =>
      have:=Nat.ne_of_beq_eq_false ho;simp[sameAddr,this]
   ·exact h.elim
 | false =>
   have hne:=Nat.ne_of_beq_eq_false hb;rw[hb] at h;simp only at h;split at h
   ·rename_i z vs z' vs' hg hg'
    obtain ⟨r,sh,tot,esz,hm,rfl,hb1⟩:=yX hh hg hx;obtain ⟨r2,sh2,tot2,esz2,hm2,rfl,hb2⟩:=yX hh hg' hy;have hrr:r≠r2:=fun e=>hne (hh.own b b' r _ (by rw[hm];rfl) hb1 rfl (by rw[hm2,e];rfl))
    obtain ⟨c1,e1,f1,k1,_,_,k2⟩:=hh.blk b _ _ hm (by simp) hb1;obtain ⟨c2,e2,f2,k3,_,_,k4⟩:=hh.blk b' _ _ hm2 (by simp) hb2;have k2:=(k2 rfl).1;have k4:=(k4 rfl).1;refine⟨_,_,false,rfl,rfl,h,fun w hw=>?_,fun h=>by cases h⟩;have g1:w.heap[r]? = some (.cells c1 e1 f1):=by rw[hw.2 r (Array.getElem?_eq_some_iff.1 k1).1];exact k1
    have g2:w.heap[r2]? = some (.cells c2 e2 f2):=by rw[hw.2 r2 (Array.getElem?_eq_some_iff.1 k3).1];exact k3
    exact Zx hrr g1 g2 k2 k4
   ·exact h.elim
theorem uS0 (hT:TOk P T) {w0:World} (hh:HRel m H w0) {t:TypeId} {x x' y y' : Value} {K:Bool->Prop} (h:keq P T H t x y K) (hx:VRel m x x') (hy:VRel m y y') :
 ∃ r,K r/\(∀ w,ExtW w0 w->(Op.equal t x' y').run P w = .ok r w)/\(∀ d,P.underlying t=some d->Instr.sameNow d x' y' = some r\/Instr.sameNow d x' y' = none)/\(r=true->Instr.sameBits 10000 y' x' = true):=by
 unfold keq at h;split at h
 ·exact h.elim
 rename_i i hi;have ht:=(hT.get hi).und
 have agg : ∀ {xs ys:Array Value},(∃ ks,MKey P t ks/\intsOf xs.toList ks (fun as=>intsOf ys.toList ks (fun bs=>K (decide (as=bs)))))->VRel m (.agg xs) x' -> VRel m (.agg ys) y' ->
  ∃ r,K r/\(∀ w,ExtW w0 w->(Op.equal t x' y').run P w = .ok r w)/\(∀ d,P.underlying t=some d->Instr.sameNow d x' y' = some r\/Instr.sameNow d x' y' = none)/\(r=true->Instr.sameBits 10000 y' x' = true):=by
  rintro xs ys ⟨ks,⟨h1,_⟩,h2⟩ hx hy;obtain ⟨as,h3,h4,h5,n1⟩:=zk _ _ _ h2;obtain ⟨bs,h6,h7,h8,n2⟩:=zk _ _ _ h3;rw[Vg hx h5,Vg hy h8];refine⟨_,h6,fun w _=>by have:=(h1 as bs h4 h7 w).1;rwa [n1,n2] at this,fun d _=>.inr (by cases d <;> rfl),fun hr=>?_⟩;have:as=bs:=of_decide_eq_true hr;subst this;exact XZ _ (zz0 ks as)
 split at h <;> try exact h.elim
 all_goals (rename_i hk;try rw[hk] at ht;simp only[KOk] at ht)
 ·split at h
  ·rename_i hs;have:=vU hs;subst this
   cases hx;cases hy;refine⟨_,h,fun w _=>?_,fun d hd=>.inl ?_,fun hr=>?_⟩
   ·show (Op.equalIn (9999+1) t _ _).run P w=_
    rw[Op.equalIn];simp[qy ht];rfl
   ·rw[ht] at hd;cases hd;simp[Instr.sameNow];rfl
   ·have:=of_decide_eq_true hr
    subst this;simp[Instr.sameBits]
  ·exact h.elim
 ·cases hx;cases hy
  refine⟨_,h,fun w _=>?_,fun d hd=>.inl ?_,fun hr=>?_⟩
  ·show (Op.equalIn (9999+1) t _ _).run P w=_
   rw[Op.equalIn];simp[qy ht,ba_eq]
  ·rw[ht] at hd;cases hd;simp[Instr.sameNow,ba_eq]
  ·rw[ba_of hr];simp[Instr.sameBits,ba_eq]
 ·cases hx;cases hy
  refine⟨_,h,fun w _=>?_,fun d hd=>.inl ?_,fun hr=>?_⟩
  ·show (Op.equalIn (9999+1) t _ _).run P w=_
   exact YA w _ ht _ _
  ·rw[ht] at hd;cases hd;simp[Instr.sameNow]
  ·rw[eq_of_beq hr];simp[Instr.sameBits]
 ·exact agg h hx hy
 ·exact agg h hx hy
 ·split at h
  ·rename_i j hj
   obtain ⟨h1,h2⟩:=h;obtain ⟨a,a',r,rfl,rfl,h3,h4,h5⟩:=vS0 (P:=P) hh h2 hx hy;refine⟨r,h3,fun w hw=>?_,fun d hd=>.inr (by rw[ht] at hd;cases hd;rfl),fun hr=>by rw[h5 hr];simp[Instr.sameBits]⟩;show (Op.equalIn (9999+1) t _ _).run P w=_;rw[Op.equalIn];simp[qy ht,(hT.get hj).run_size,h1,h4 w hw]
  ·exact h.elim

def yN (m:LM) (es:List MapEntry) (es' : List MapEntry):Prop:=es.length=es'.length/\∀ (i:Nat) (e e' : MapEntry),es[i]? = some e->es'[i]? = some e' -> ERel m e e'
theorem yN.tail {m:LM} {e e' : MapEntry} {es es' : List MapEntry} (h:yN m (e::es) (e' :: es')):yN m es es' :=
 ⟨by simpa using h.1,fun i a b ha hb=>h.2 (i+1) a b (by simpa using ha) (by simpa using hb)⟩
theorem yN.get {m:LM} {es es' : List MapEntry} (h:yN m es es') {p:Nat} {e:MapEntry} (he:es[p]? = some e) : ∃ e',es'[p]? = some e' /\ ERel m e e' := by
 have hp:=(List.getElem?_eq_some_iff.1 he).1;have hp' : p<es'.length:=by have:=h.1;omega
 exact⟨_,List.getElem?_eq_getElem hp',h.2 p e _ he (List.getElem?_eq_getElem hp')⟩
theorem yN.modify {m:LM} {es es' : List MapEntry} (h:yN m es es') (p:Nat) {f g:MapEntry->MapEntry} (hf : ∀ e e',ERel m e e' -> ERel m (f e) (g e')):yN m (es.modify p f) (es'.modify p g):=by
 refine⟨by simp[h.1],fun i e e' he he' => ?_⟩;rw[List.getElem?_modify] at he he'
 cases hx:es[i]? with
 | none=>rw[hx] at he;cases he
 | some x =>
   obtain ⟨y,hy,hr⟩:=h.get hx;rw[hx] at he;rw[hy] at he';simp only[Option.map_eq_map,Option.map_some,Option.some.injEq] at he he';subst he;subst he';split
   ·exact hf _ _ hr
   ·exact hr
theorem yN.push {m:LM} {es es' : List MapEntry} (h:yN m es es') {e e' : MapEntry} (hr:ERel m e e'):yN m (es ++ [e]) (es' ++ [e']):=by
 refine⟨by simp[h.1],fun i a a' ha ha' => ?_⟩;rw[List.getElem?_append] at ha ha';have:=h.1;by_cases hi:i<es.length
 ·rw[if_pos hi] at ha;rw[if_pos (by omega)] at ha'
  exact h.2 i _ _ ha ha'
 ·rw[if_neg hi] at ha;rw[if_neg (by omega)] at ha'
  rw[this] at ha
  cases hj:i-es'.length with
  | zero=>rw[hj] at ha ha'; cases ha;cases ha'; exact hr
  | succ j=>rw[hj] at ha;cases ha
theorem yN.erase {m:LM} {es es' : List MapEntry} (h:yN m es es') (p:Nat):yN m (es.eraseIdx p) (es'.eraseIdx p):=by
 have hl:=h.1;refine⟨by simp[List.length_eraseIdx,hl],fun i a a' ha ha' => ?_⟩;rw[List.getElem?_eraseIdx] at ha ha';split at ha
 ·rename_i hi;rw[if_pos hi] at ha'; exact h.2 _ _ _ ha ha'
 ·rename_i hi;rw[if_neg hi] at ha'; exact h.2 _ _ _ ha ha'

theorem Yo (hT:TOk P T) {w0:World} (hh:HRel m H w0) {t:TypeId} {k k' : Value} (hk:VRel m k k') : ∀ {es es' : List MapEntry} {i:Nat} {K:Option Nat->Prop} (_:wE P T H t k es i K) (_:yN m es es'),
 ∃ rv:Option (Nat × Value),K (rv.map (·.1))/\(∀ w,ExtW w0 w->(Instr.findAsking t k' es' i).run P w = .ok rv w)/\(∀ d,P.underlying t=some d->Instr.findNow d k' es' i=some rv\/Instr.findNow d k' es' i=none) /\
   ∀ p v,rv=some (p,v)->i<=p/\∃ e',es'[p-i]? = some e' /\ e'.val=v/\Instr.sameBits 10000 e'.key k' = true
 | [],[],i,K,h,hr=>⟨none,h,fun w _=>rfl,fun d _=>.inl rfl,fun p v h=>by cases h⟩
 | [],_::_,i,K,h,hr=>by have:=hr.1;simp at this
 | _::_,[],i,K,h,hr=>by have:=hr.1;simp at this
 | e::es,e' :: es',i,K,h,hr=>by
   simp only[wE] at h;have he:=hr.2 0 e e' rfl rfl;obtain ⟨r,h1,h2,h3,h4⟩:=uS0 hT hh h hk he.1
   cases r with
   | true =>
     refine⟨some (i,e'.val),h1,fun w hw=>?_,fun d hd=>?_,fun p v hp=>?_⟩
     ·rw[Instr.findAsking];simp[h2 w hw]
     ·rw[Instr.findNow]
      rcases h3 d hd with h | h
      ·rw[h];exact .inl rfl
      ·rw[h];exact .inr rfl
     ·cases hp;exact⟨Nat.le_refl _,e',by simp,rfl,h4 rfl⟩
   | false =>
     obtain ⟨rv,g1,g2,g3,g4⟩:=Yo hT hh hk h1 hr.tail;refine⟨rv,g1,fun w hw=>?_,fun d hd=>?_,fun p v hp=>?_⟩
     ·rw[Instr.findAsking];simp[h2 w hw,g2 w hw]
     ·rw[Instr.findNow]
      rcases h3 d hd with h | h
      ·rw[h];exact g3 d hd
      ·rw[h];exact .inr rfl
     ·obtain ⟨q1,e2,q2,q3,q4⟩:=g4 p v hp
      refine⟨by omega,e2, ?_,q3,q4⟩;rw[show p-i=(p-(i+1))+1 by omega];exact q2
theorem WA (hT:TOk P T) {w0:World} (hh:HRel m H w0) {t:TypeId} {d:TypeDesc} (hd:P.underlying t=some d) {k k' : Value} (hk:VRel m k k') {es:List MapEntry} {es' : Array MapEntry} {K:Option Nat->Prop} (h:wE P T H t k es 0 K) (hr:yN m es es'.toList) :
 ∃ rv:Option (Nat × Value),K (rv.map (·.1))/\(∀ w,ExtW w0 w->(Instr.findKey t k' es'.toList).run P w = .ok rv w) /\
   ∀ p v,rv=some (p,v)->∃ e',es'[p]? = some e' /\ e'.val=v/\Instr.sameBits 10000 e'.key k' = true:=by
 obtain ⟨rv,h1,h2,h3,h4⟩:=Yo hT hh hk h hr;refine⟨rv,h1,fun w hw=>?_,fun p v hp=>?_⟩
 ·rw[Instr.findKey]
  simp only[Sem.run_bind,qy hd,Result.andThen_ok];rcases h3 d hd with h | h
  ·rw[h];rfl
  ·rw[h];exact h2 w hw
 ·obtain ⟨_,e',q1,q2,q3⟩:=h4 p v hp
  exact⟨e',by simpa using q1,q2,q3⟩

theorem xH {w:World} (hh:HRel m H w) {b:Nat} {v' : Value} (hv:VRel m (.map (some b)) v') {wr:Bool} {es:List MapEntry} {c:Nat} (hb:H[b]? = some (.map wr es c)) :
 ∃ r es',v' = .map (some r)/\m b=some (.obj r)/\w.heap[r]? = some (.map es' c)/\yN m es es'.toList:=by
 cases hv with
 | map _ r hm =>
   obtain ⟨es',h1,h2,h3⟩:=hh.blk b _ _ hm (by simp) hb;exact⟨r,es',rfl,hm,h1,by simpa using h2,fun i e e' he he' => h3 i e e' he (by simpa using he')⟩
theorem vX {w:World} {r:Nat} {es:Array MapEntry} {c:Nat} (h:w.heap[r]? = some (.map es c)):(getObj r).run P w = .ok (.map es c) w:=by
 simp[getObj,Sem.run,h]
theorem zY {w:World} {r:Nat} {es:Array MapEntry} {c:Nat} (h:w.heap[r]? = some (.map es c)) (ob:Obj):(setObj r ob).run P w = .ok () { w with heap:=w.heap.setIfInBounds r ob }:=by
 simp[setObj,Sem.run,h]
theorem lt_of_some {w:World} {r:Nat} {ob:Obj} (h:w.heap[r]? = some ob):r<w.heap.size:=(Array.getElem?_eq_some_iff.1 h).1
theorem map_set {w:World} (hh:HRel m H w) {b r:Nat} (hm:m b=some (.obj r)) {es es2:List MapEntry} {c c2:Nat} (hb:H[b]? = some (.map true es c)) {es2' : Array MapEntry} (hr:r<w.heap.size) (he:yN m es2 es2'.toList) :
 HRel m (H.set b (.map true es2 c2)) { w with heap:=w.heap.setIfInBounds r (.map es2' c2) }/\Fr H.length m H w m (H.set b (.map true es2 c2)) { w with heap:=w.heap.setIfInBounds r (.map es2' c2) } :=
 hh.setObj hm hb rfl (b' := .map true es2 c2) ⟨es2',by show (w.heap.setIfInBounds r _)[r]? = _;simp[hr],by simpa using he.1,fun i e e' h h' => he.2 i e e' h (by simpa using h')⟩

theorem zU0 (hT:TOk P T) {t:TypeId} {x ix:Operand} {ok:Bool} (hop:o.op = .lookup t x ix ok) (h:qC P T (.lookup t x ix ok) sl H K):OpV P o sl H K:=by
 intro m aR w hs hh;simp only[qC] at h;split at h
 ·rename_i i hi
  have hi:=hT.get hi;split at h
  ·rename_i kt et hk
   have hu:=hi.und;rw[hk] at hu;simp only[KOk] at hu;split at h
   ·rename_i j k hj hx hix
    have hj:=hT.get hj;have hx:=qH hs hx;have hix:=qH hs hix;generalize hux:aR.eval x=ux at hx;cases hx;obtain ⟨h,hck,d,hd⟩:=Qg hT h hix
    have hf : ∀ w,(Instr.findKey kt (aR.eval ix) []).run P w = .ok none w:=fun w=>by
     rw[Instr.findKey];simp only[Sem.run_bind,qy hd,Result.andThen_ok];rfl
    simp only[lkK] at h
    cases ok with
    | true =>
      refine⟨_, .tuple #[j.zero, .bool false],h,fun w' _=>?_,VRel.tuple' (.cons (wQ hj m) (.cons (.bool _) (.nil m)))⟩;simp[execOp,hop,Instr.lookup,hux,qy hu,hck,hf,hj.run_zero]
    | false =>
      refine⟨_,j.zero,h,fun w' _=>?_,wQ hj m⟩;simp[execOp,hop,Instr.lookup,hux,qy hu,hck,hf,hj.run_zero]
   ·rename_i j b k hj hx hix
    have hj:=hT.get hj;have hx:=qH hs hx;have hix:=qH hs hix;unfold zG at h;split at h
    ·rename_i wr es c hb
     rw[qV] at hb;generalize hux:aR.eval x=ux at hx;obtain ⟨r,es',rfl,hm,hw,her⟩:=xH hh hx hb;obtain ⟨h,hck,d,hd⟩:=Qg hT h hix;obtain ⟨rv,h,hf,hg⟩:=WA hT hh hd hix h her
     have hext : ∀ w',(zV o.op=true->ExtW w w')->w'.heap[r]? = some (.map es' c):=fun w' he=>by
      rw[(he (by rw[hop];rfl)).2 r (lt_of_some hw)];exact hw
     cases rv with
     | none =>
       simp only[Option.map_none,lkK] at h
       cases ok with
       | true =>
         refine⟨_, .tuple #[j.zero, .bool false],h,fun w' he=>?_,VRel.tuple' (.cons (wQ hj m) (.cons (.bool _) (.nil m)))⟩;simp[execOp,hop,Instr.lookup,hux,qy hu,vX (hext w' he),hck,hf w' (he (by rw[hop];rfl)),hj.run_zero]
       | false =>
         refine⟨_,j.zero,h,fun w' he=>?_,wQ hj m⟩;simp[execOp,hop,Instr.lookup,hux,qy hu,vX (hext w' he),hck,hf w' (he (by rw[hop];rfl)),hj.run_zero]
     | some pv =>
       obtain ⟨p,v⟩:=pv;simp only[Option.map_some,lkK] at h;obtain ⟨e,he,h⟩:=h;obtain ⟨e',q1,q2,_⟩:=hg p v rfl;obtain ⟨e2,q3,q4⟩:=her.get he;rw[Array.getElem?_toList,q1] at q3;cases q3;subst q2
       cases ok with
       | true =>
         refine⟨_, .tuple #[e'.val, .bool true],h,fun w' he=>?_,VRel.tuple' (.cons q4.2.1 (.cons (.bool _) (.nil m)))⟩;simp[execOp,hop,Instr.lookup,hux,qy hu,vX (hext w' he),hck,hf w' (he (by rw[hop];rfl))]
       | false =>
         refine⟨_,e'.val,h,fun w' he=>?_,q4.2.1⟩;simp[execOp,hop,Instr.lookup,hux,qy hu,vX (hext w' he),hck,hf w' (he (by rw[hop];rfl))]
    ·exact h.elim
   ·exact h.elim
  ·exact h.elim
 ·exact h.elim

theorem Yd {old new:Value} (h:Instr.sameBits 10000 old new=true) (w:World):(Instr.keyThatStays old new).run P w = .ok new w:=by
 simp[Instr.keyThatStays,h]
theorem vG0 (hT:TOk P T) {t:TypeId} (hop:o.op = .makeMap t none) (h:xG P T (.makeMap t none) sl H K):OpS P o sl H K:=by
 intro m aR w hs hh;simp only[xG] at h;split at h
 ·split at h
  ·simp only[vH,Nat.zero_add] at h
   have hB:BRel (m.put H.length (.obj w.heap.size)) (.map true [] 0) (.obj w.heap.size) { w with heap:=w.heap.push (.map #[] 0) } :=
    ⟨#[],by simp,rfl,fun i e e' he=>by simp at he⟩
   refine⟨.value (.map (some w.heap.size)), { w with heap:=w.heap.push (.map #[] 0) }, ?_,_,_,_,h, .map _ _ (LM.put_self _ _ _),hh.alloc rfl hB,Fr.alloc hh _ _ rfl⟩;simp[execOp,hop,Instr.makeMap,newObj,Sem.run]
  ·exact h.elim
 ·exact h.elim

theorem yu0 (hT:TOk P T) {t:TypeId} {x y z:Operand} (hop:o.op = .mapUpdate t x y z\/o.op = .insert t x y z) (h:mupd P T t x y z sl H K):OpS P o sl H K:=by
 intro m aR w hs hh
 have hex:(execOp aR.eval o).run P w=(do Instr.mapUpdate t (aR.eval x) (aR.eval y) (aR.eval z);pure Next.skip:Sem Next).run P w:=by
  rcases hop with e | e <;> simp only[execOp,e]
 simp only[mupd] at h;split at h
 ·rename_i i hi
  have hi:=hT.get hi;split at h
  ·rename_i kt et hk
   have hu:=hi.und;rw[hk] at hu;simp only[KOk] at hu;split at h
   ·rename_i b k v hx hy hz
    have hx:=qH hs hx;have hy:=qH hs hy;have hz:=qH hs hz;unfold wZ at h;split at h
    ·rename_i es c hb
     rw[qV] at hb;generalize hux:aR.eval x=ux at hx;obtain ⟨r,es',rfl,hm,hw,her⟩:=xH hh hx hb;obtain ⟨h,hck,d,hd⟩:=Qg hT h hy;obtain ⟨rv,h,hf,hg⟩:=WA hT hh hd hy h her
     cases rv with
     | none =>
       simp only[Option.map_none,qP] at h;obtain ⟨q1,q2⟩:=map_set hh hm hb (es2:=es ++ [⟨k,v,c⟩]) (c2:=c+1) (es2' := es'.push ⟨aR.eval y,aR.eval z,c⟩) (lt_of_some hw) (by rw[Array.toList_push];exact her.push ⟨hy,hz,rfl⟩);refine⟨.skip,_, ?_,undef,_,m,h,VRel.plain m 6 _ rfl,q1,q2⟩;rw[hex];simp[Instr.mapUpdate,hux,qy hu,vX hw,hck,hf w (ExtW.refl w),zY hw]
     | some pv =>
       obtain ⟨p,v0⟩:=pv;simp only[Option.map_some,qP] at h;obtain ⟨e',g1,g2,g3⟩:=hg p v0 rfl;obtain ⟨q1,q2⟩:=map_set hh hm hb (es2:=es.modify p (fun e=>{ e with key:=k,val:=v })) (c2:=c) (es2' := es'.modify p (fun e=>{ e with key:=aR.eval y,val:=aR.eval z })) (lt_of_some hw) (by rw[Array.toList_modify];exact her.modify p fun e e' he=>⟨hy,hz,he.2.2⟩);refine⟨.skip,_, ?_,undef,_,m,h,VRel.plain m 6 _ rfl,q1,q2⟩;rw[hex];simp[Instr.mapUpdate,hux,qy hu,vX hw,hck,hf w (ExtW.refl w),zY hw,g1,Yd g3]
    ·exact h.elim
   ·exact h.elim
  ·exact h.elim
 ·exact h.elim

theorem qJ0 (hT:TOk P T) {t:TypeId} {x y:Operand} (hop:o.op = .mapEntry t x y) (h:xG P T (.mapEntry t x y) sl H K):OpS P o sl H K:=by
 intro m aR w hs hh;simp only[xG] at h;split at h
 ·rename_i i hi
  have hi:=hT.get hi;split at h
  ·rename_i kt et hk
   have hu:=hi.und;rw[hk] at hu;simp only[KOk] at hu;split at h
   ·rename_i j b k hj hx hy
    have hj:=hT.get hj;have hx:=qH hs hx;have hy:=qH hs hy;unfold wZ at h;split at h
    ·rename_i es c hb
     rw[qV] at hb;generalize hux:aR.eval x=ux at hx;obtain ⟨r,es',rfl,hm,hw,her⟩:=xH hh hx hb;obtain ⟨h,hck,d,hd⟩:=Qg hT h hy;obtain ⟨rv,h,hf,hg⟩:=WA hT hh hd hy h her
     cases rv with
     | none =>
       simp only[Option.map_none,qP] at h;obtain ⟨q1,q2⟩:=map_set hh hm hb (es2:=es ++ [⟨k,j.zero,c⟩]) (c2:=c+1) (es2' := es'.push ⟨aR.eval y,j.zero,c⟩) (lt_of_some hw) (by rw[Array.toList_push];exact her.push ⟨hy,wQ hj m,rfl⟩);refine⟨.value (.tuple #[j.zero, .int .i64 c]),_, ?_,_,_,m,h,VRel.tuple' (.cons (wQ hj m) (.cons (.int _ _) (.nil m))),q1,q2⟩;simp[execOp,hop,Instr.mapEntry,hux,qy hu,vX hw,hck,hf w (ExtW.refl w),zY hw,hj.run_zero,goInt]
     | some pv =>
       obtain ⟨p,v0⟩:=pv;simp only[Option.map_some] at h;obtain ⟨e,he,h⟩:=h;simp only[qP] at h;obtain ⟨e',g1,g2,g3⟩:=hg p v0 rfl;obtain ⟨e2,q3,q4⟩:=her.get he;rw[Array.getElem?_toList,g1] at q3;cases q3;subst g2;obtain ⟨q1,q2⟩:=map_set hh hm hb (es2:=es.modify p (fun e=>{ e with key:=k })) (c2:=c) (es2' := es'.modify p (fun e=>{ e with key:=aR.eval y })) (lt_of_some hw) (by rw[Array.toList_modify];exact her.modify p fun e e' he=>⟨hy,he.2.1,he.2.2⟩);refine⟨.value (.tuple #[e'.val, .int .i64 e'.born]),_, ?_,_,_,m,h,VRel.tuple' (.cons q4.2.1 (.cons (by rw[q4.2.2];exact .int _ _) (.nil m))),q1,q2⟩;simp[execOp,hop,Instr.mapEntry,hux,qy hu,vX hw,hck,hf w (ExtW.refl w),zY hw,g1,Yd g3,goInt]
    ·exact h.elim
   ·exact h.elim
  ·exact h.elim
 ·exact h.elim

theorem xz0 {es es' : List MapEntry} (h:yN m es es') (n:Int):es'.findIdx? (fun e=>decide ((e.born:Int)=n))=es.findIdx? (fun e=>decide ((e.born:Int)=n)):=by
 induction es generalizing es' with
 | nil=>cases es' with
   | nil=>rfl
   | cons _ _=>have:=h.1;simp at this
 | cons e es ih=>cases es' with
   | nil=>have:=h.1;simp at this
   | cons e' es' =>
     have he:=(h.2 0 e e' rfl rfl).2.2;rw[List.findIdx?_cons,List.findIdx?_cons,ih h.tail,he]

theorem Yb {t:TypeId} {x y z:Operand} (hop:o.op = .entryStore t x y z) (h:xG P T (.entryStore t x y z) sl H K):OpS P o sl H K:=by
 intro m aR w hs hh;simp only[xG] at h;split at h
 ·rename_i b kk n v hx hy hz
  have hx:=qH hs hx;have hy:=qH hs hy;have hz:=qH hs hz;unfold wZ at h;split at h
  ·rename_i es c hb
   rw[qV] at hb;generalize hux:aR.eval x=ux at hx;generalize huy:aR.eval y=uy at hy;cases hy;obtain ⟨r,es',rfl,hm,hw,her⟩:=xH hh hx hb;obtain ⟨p,hp,h⟩:=h;simp only[qP] at h;obtain ⟨q1,q2⟩:=map_set hh hm hb (es2:=es.modify p (fun e=>{ e with val:=v })) (c2:=c) (es2' := es'.modify p (fun e=>{ e with val:=aR.eval z })) (lt_of_some hw) (by rw[Array.toList_modify];exact her.modify p fun e e' he=>⟨he.1,hz,he.2.2⟩)
   have hfi:es'.findIdx? (fun e=>(e.born:Int) == n)=some p:=by
    rw[<- hp,<- xz0 her n];cases es';simp[Bool.beq_eq_decide_eq]
   refine⟨.skip,_, ?_,undef,_,m,h,VRel.plain m 6 _ rfl,q1,q2⟩;simp[execOp,hop,Instr.entryStore,hux,huy,vX hw,zY hw,asInt,asIntOf,hfi]
  ·exact h.elim
 ·exact h.elim

/-! ### Iterators -/
theorem Qy {w:World} {r:Nat} {a:Option Nat} {b:Nat} {c:Array Nat} {d:Nat} (h:w.heap[r]? = some (.mapIter a b c d)):(getObj r).run P w = .ok (.mapIter a b c d) w:=by
 simp[getObj,Sem.run,h]
theorem Ub {w:World} {r:Nat} {a:Option Nat} {b:Nat} {c:Array Nat} {d:Nat} (h:w.heap[r]? = some (.mapIter a b c d)) (ob:Obj):(setObj r ob).run P w = .ok () { w with heap:=w.heap.setIfInBounds r ob }:=by
 simp[setObj,Sem.run,h]
theorem Zy (n:Nat) (w:World) (hn:0<n) : ∃ i d,w.drawn<=d/\i<n/\(choose (.mapNext n)).run P w = .ok i { w with drawn:=d }:=by
 unfold choose;by_cases h:n<=1
 ·exact⟨0,w.drawn,Nat.le_refl _,hn,by simp[Sem.run,Question.forced,h]⟩
 ·exact⟨w.tape w.drawn (.mapNext n) % n,w.drawn+1,Nat.le_succ _,Nat.mod_lt _ hn,by simp[Sem.run,Question.forced,Question.cut,h]⟩
theorem Yt {w:World} (hh:HRel m H w) {l:Nat} {v' : Value} (hv:VRel m (.pointer (some ⟨l,0,some 0⟩)) v') {ob:Obj} (hb:bget H l=some (.iter ob)) :
 ∃ r,v' = .pointer (some ⟨r,0,none⟩)/\m l=some (.obj r)/\H[l]? = some (.iter ob)/\BRel m (.iter ob) (.obj r) w:=by
 rw[qV] at hb
 cases hv with
 | itr _ r hm=>exact⟨r,rfl,hm,hb,hh.blk l _ _ hm (by simp) hb⟩
theorem uq0 (hT:TOk P T) {t:TypeId} {x:Operand} (hop:o.op = .range t x) (h:xG P T (.range t x) sl H K):OpS P o sl H K:=by
 intro m aR w hs hh;simp only[xG] at h;split at h
 ·rename_i i hi
  have hi:=hT.get hi;split at h
  ·rename_i kt et hk
   have hu:=hi.und;rw[hk] at hu;simp only[KOk] at hu;split at h
   ·rename_i hx
    have hx:=qH hs hx;generalize hux:aR.eval x=ux at hx;cases hx;simp only[vH,Nat.zero_add] at h;have hB:BRel (m.put H.length (.obj w.heap.size)) (.iter (.mapIter none 0 #[] 0)) (.obj w.heap.size) { w with heap:=w.heap.push (.mapIter none 0 #[] 0) }:=⟨_,by simp,rfl⟩;refine⟨.value (.pointer (some ⟨w.heap.size,0,none⟩)), { w with heap:=w.heap.push (.mapIter none 0 #[] 0) }, ?_,_,_,_,h, .itr _ _ (LM.put_self _ _ _),hh.alloc rfl hB,Fr.alloc hh _ _ rfl⟩;simp[execOp,hop,Instr.range,hux,qy hu,newObj,Sem.run]
   ·rename_i b hx
    have hx:=qH hs hx;unfold VS at h;split at h
    ·rename_i wr es c hb
     rw[qV] at hb;generalize hux:aR.eval x=ux at hx;obtain ⟨r,es',rfl,hm,hw,her⟩:=xH hh hx hb;simp only[vH,Nat.zero_add] at h;have hne:b≠H.length:=by have:=(List.getElem?_eq_some_iff.1 hb).1;omega
     have hB:BRel (m.put H.length (.obj w.heap.size)) (.iter (.mapIter (some b) c #[] c)) (.obj w.heap.size) { w with heap:=w.heap.push (.mapIter (some r) c #[] c) } :=
      ⟨_,by simp,r,by rw[LM.put_ne m _ hne];exact hm,rfl⟩
     refine⟨.value (.pointer (some ⟨w.heap.size,0,none⟩)), { w with heap:=w.heap.push (.mapIter (some r) c #[] c) }, ?_,_,_,_,h, .itr _ _ (LM.put_self _ _ _),hh.alloc rfl hB,Fr.alloc hh _ _ rfl⟩;simp[execOp,hop,Instr.range,hux,qy hu,vX hw,newObj,Sem.run]
    ·exact h.elim
   ·exact h.elim
  ·exact h.elim
 ·exact h.elim
def Vb (r r' since:Nat) (seen:Array Nat) (clock:Nat) (cand:Array (Option MapEntry)):Sem Value:=do
 match cand[<- choose (.mapNext cand.size)]? with
 | some (some e) =>
   setObj r (.mapIter (some r') since (seen.push e.born) clock)
   pure (.tuple #[.bool true,e.key,e.val])
 | some none=>pure (.tuple #[.bool false])
 | none => stuck "Next: no such candidate"
theorem Yl {w:World} {r r' since c:Nat} {seen:Array Nat} {a:Option Nat} {b1 d1:Nat} {c1:Array Nat} (ho:w.heap[r]? = some (.mapIter a b1 c1 d1)) {cand:Array (Option MapEntry)} (hc:0<cand.size) :
 ∃ d x,w.drawn<=d/\x∈cand.toList/\((∃ e,x=some e/\(Vb r r' since seen c cand).run P w = .ok (.tuple #[.bool true,e.key,e.val]) { { w with drawn:=d } with heap:=w.heap.setIfInBounds r (.mapIter (some r') since (seen.push e.born) c) })\/(x=none/\(Vb r r' since seen c cand).run P w = .ok (.tuple #[.bool false]) { w with drawn:=d })):=by
 obtain ⟨i,d,hd,hi,hrun⟩:=Zy (P:=P) cand.size w hc;refine⟨d,cand[i],hd,by simp, ?_⟩;have hget:cand[i]? = some cand[i]:=Array.getElem?_eq_getElem hi
 cases hx:cand[i] with
 | some e =>
   refine .inl ⟨e,rfl, ?_⟩;have hs:=Ub (P:=P) (w := { w with drawn:=d }) (r:=r) ho (.mapIter (some r') since (seen.push e.born) c);simp[Vb,hrun,hget,hx,hs]
 | none =>
   exact .inr ⟨rfl,by simp[Vb,hrun,hget,hx]⟩
theorem zY0 {w:World} {r r' since last c:Nat} {seen:Array Nat} {es' : Array MapEntry} {ty:TypeId} (ho:w.heap[r]? = some (.mapIter (some r') since seen last)) (hw:w.heap[r']? = some (.map es' c)) (hcond:(!seen.isEmpty && !es'.isEmpty&&es'.all (fun e=>decide (e.born ≥ last)))=false) :
 (∃ d e',w.drawn<=d/\e' ∈ es'.toList/\seen.contains e'.born=false/\(Instr.next (.pointer (some ⟨r,0,none⟩)) false ty).run P w = .ok (.tuple #[.bool true,e'.key,e'.val]) { { w with drawn:=d } with heap:=w.heap.setIfInBounds r (.mapIter (some r') since (seen.push e'.born) c) }) \/
 (∃ d,w.drawn<=d/\(∀ e' ∈ es'.toList,e'.born<since->seen.contains e'.born=true)/\(Instr.next (.pointer (some ⟨r,0,none⟩)) false ty).run P w = .ok (.tuple #[.bool false]) { w with drawn:=d }):=by
 obtain ⟨left,hleft⟩ : ∃ left:Array MapEntry,left=es'.filter fun e => !seen.contains e.born:=⟨_,rfl⟩
 obtain ⟨cand,hcand⟩ : ∃ cand:Array (Option MapEntry),cand=(if (left.filter (·.born<since)).isEmpty then #[none] else #[])++((left.filter (·.born<since))++(left.filter (·.born ≥ since))).map some:=⟨_,rfl⟩
 have hrun:(Instr.next (.pointer (some ⟨r,0,none⟩)) false ty).run P w=(Vb r r' since seen c cand).run P w:=by
  subst hcand;subst hleft;unfold Instr.next;simp only[Sem.run_bind,Qy ho,Result.andThen_ok,vX hw];rw[if_neg (by rw[hcond];decide)];rfl
 have hpos:0<cand.size:=by
  rw[hcand]
  cases he:(left.filter (·.born<since)).isEmpty with
  | true=>simp;omega
  | false =>
    have:(left.filter (·.born<since)).size≠0:=by
     intro h0;rw[<- Array.isEmpty_iff_size_eq_zero,he] at h0;cases h0
    simp only[Bool.false_eq_true,if_false];simp only[Array.size_append,Array.size_map,Array.size_empty];omega
 have hmem : ∀ e,some e∈cand.toList->e∈es'.toList/\seen.contains e.born=false:=by
  intro e he;rw[hcand] at he
  have he:e∈left:=by
   split at he <;> simp at he
   ·rcases he with ⟨h,_⟩ | ⟨h,_⟩ <;> exact h
   ·rcases he with ⟨h,_⟩ | ⟨h,_⟩ <;> exact h
  rw[hleft] at he;simp at he;exact⟨by simpa using he.1,by simpa using he.2⟩
 have hnone:none∈cand.toList->∀ e' ∈ es'.toList,e'.born<since->seen.contains e'.born=true:=by
  intro hn e' he' hlt;rw[hcand] at hn
  cases he:(left.filter (·.born<since)).isEmpty with
  | false=>rw[he] at hn;simp at hn
  | true =>
    cases hs:seen.contains e'.born with
    | true=>rfl
    | false =>
      have hin:e' ∈ left.filter (·.born<since):=by
       rw[hleft];simp only[Array.mem_filter];refine⟨⟨by simpa using he', ?_⟩,by simpa using hlt⟩;rw[hs];rfl
      have h0:left.filter (·.born<since) = #[]:=by simpa using he
      rw[h0] at hin;simp at hin
 obtain ⟨d,x,hd,hx,h⟩:=Yl (P:=P) (r' := r') (since:=since) (c:=c) (seen:=seen) ho hpos;rcases h with ⟨e,rfl,h⟩ | ⟨rfl,h⟩
 ·exact .inl ⟨d,e,hd,(hmem e hx).1,(hmem e hx).2,by rw[hrun];exact h⟩
 ·exact .inr ⟨d,hd,hnone hx,by rw[hrun];exact h⟩
theorem s_next {x:Operand} {is:Bool} (hop:o.op = .next x is) (h:xG P T (.next x is) sl H K):OpS P o sl H K:=by
 cases is with
 | true=>exact h.elim
 | false =>
 intro m aR w hs hh;simp only[xG] at h;split at h
 case h_2=>exact h.elim
 rename_i l hx;have hx:=qH hs hx;unfold ZM at h;split at h
 case h_2=>exact h.elim
 rename_i ob hb;generalize hux:aR.eval x=ux at hx;obtain ⟨r,rfl,hm,hb,ho⟩:=Yt hh hx hb;unfold uG0 at h;split at h
 ·rename_i a1 a2 a3
  obtain ⟨o',ho1,ho2⟩:=ho;subst ho2;refine⟨.value (.tuple #[.bool false]),w, ?_,_,_,m,h,VRel.tuple' (.cons (.bool _) (.nil m)),hh,Fr.refl _ _ _ _⟩;simp[execOp,hop,Instr.next,hux,Qy ho1]
 ·rename_i b since seen last hb0
  obtain ⟨o',ho1,r',hmb,ho2⟩:=ho;subst ho2;unfold VS at h;split at h
  case h_2=>exact h.elim
  rename_i wr es c hbm;rw[qV] at hbm;obtain ⟨r2,es',e2,hm2,hw,her⟩:=xH hh (v' := .map (some r')) (.map b r' hmb) hbm;cases e2;obtain ⟨h1,h2,h3⟩:=h
  have hborn : ∀ e' ∈ es'.toList, ∃ e∈es,ERel m e e' := fun e' he' => by
   obtain ⟨i,hi,rfl⟩:=List.getElem_of_mem he';have hi2:i<es.length:=by have:=her.1;omega
   exact⟨es[i],List.getElem_mem hi2,her.2 i _ _ (List.getElem?_eq_getElem hi2) (List.getElem?_eq_getElem hi)⟩
  have hborn2 : ∀ e∈es, ∃ e' ∈ es'.toList,ERel m e e' := fun e he=>by
   obtain ⟨i,hi,rfl⟩:=List.getElem_of_mem he;have hi2:i<es'.toList.length:=by have:=her.1;omega
   exact⟨es'.toList[i],List.getElem_mem hi2,her.2 i _ _ (List.getElem?_eq_getElem hi) (List.getElem?_eq_getElem hi2)⟩
  have hcond:(!seen.isEmpty && !es'.isEmpty&&es'.all (fun e=>decide (e.born ≥ last)))=false:=by
   rw[Bool.or_eq_true,Bool.or_eq_true] at h1;rcases h1 with (h1 | h1) | h1
   ·simp[h1]
   ·have:es'.isEmpty=true:=by
     have e1:es = []:=by simpa using h1
     have hl:=her.1;rw[e1] at hl;rw[Array.isEmpty_iff_size_eq_zero]
     simpa using hl.symm
    simp[this]
   ·have:es'.all (fun e=>decide (e.born ≥ last))=false:=by
     cases hall:es'.all (fun e=>decide (e.born ≥ last)) with
     | false=>rfl
     | true =>
       have:es.all (fun e=>decide (last<=e.born))=true:=by
        rw[List.all_eq_true];intro e he;obtain ⟨e',he',hr⟩:=hborn2 e he;rw[Array.all_eq_true'] at hall;have:=hall e' (by simpa using he');rw[hr.2.2];exact this
       rw[this] at h1;cases h1
    rw[this];simp
  rcases zY0 (P:=P) (ty:=o.type) ho1 hw hcond with ⟨d,e',hdl,he',hse,hrun⟩ | ⟨d,hdl,hall,hrun⟩
  ·obtain ⟨e,he,hr⟩:=hborn e' he'
   have h4:=h2 e he (by rw[hr.2.2];exact hse);rw[qP] at h4
   have hB:BRel m (.iter (.mapIter (some b) since (seen.push e.born) c)) (.obj r) { { w with drawn:=d } with heap:=w.heap.setIfInBounds r (.mapIter (some r') since (seen.push e'.born) c) } :=
    ⟨.mapIter (some r') since (seen.push e'.born) c,by simp[lt_of_some ho1],r',hmb,by rw[hr.2.2]⟩
   obtain ⟨g1,g2⟩:=(hh.drawn d).setObj hm hb rfl hB;exact⟨.value (.tuple #[.bool true,e'.key,e'.val]),_,by simp[execOp,hop,hux,hrun],_,_,m,h4,VRel.tuple' (.cons (.bool _) (.cons hr.1 (.cons hr.2.1 (.nil m)))),g1,(Fr.drawn d).trans g2⟩
  ·refine⟨.value (.tuple #[.bool false]),_,by simp[execOp,hop,hux,hrun],_,_,m,h3 (fun e he hlt=>?_),VRel.tuple' (.cons (.bool _) (.nil m)),hh.drawn d,Fr.drawn d⟩
   obtain ⟨e',he',hr⟩:=hborn2 e he;rw[hr.2.2];exact hall e' he' (by rw[<- hr.2.2];exact hlt)
 ·exact h.elim

theorem find_born {es es' : List MapEntry} (h:yN m es es') {s:Nat} {e:MapEntry} (he:es.find? (fun e=>Nat.beq e.born s)=some e) : ∃ e',es'.find? (fun e=>e.born == s)=some e' /\ ERel m e e' := by
 induction es generalizing es' with
 | nil=>cases he
 | cons x es ih=>cases es' with
   | nil=>have:=h.1;simp at this
   | cons x' es' =>
     have hx:=h.2 0 x x' rfl rfl;rw[List.find?_cons] at he;rw[List.find?_cons]
     have hb:(x'.born == s)=Nat.beq x.born s:=by
      rw[<- hx.2.2]
      cases hc:Nat.beq x.born s with
      | true=>simp[Nat.eq_of_beq_eq_true hc]
      | false=>simp[Nat.ne_of_beq_eq_false hc]
     rw[hb]
     cases hc:Nat.beq x.born s with
     | true=>rw[hc] at he;cases he;exact⟨x',rfl,hx⟩
     | false=>rw[hc] at he;exact ih h.tail he
theorem ut0 {x:Operand} (hop:o.op = .entry x) (h:xG P T (.entry x) sl H K):OpS P o sl H K:=by
 intro m aR w hs hh;simp only[xG] at h;split at h
 case h_2=>exact h.elim
 rename_i l hx;have hx:=qH hs hx;unfold ZM at h;split at h
 case h_2=>exact h.elim
 rename_i ob hb;generalize hux:aR.eval x=ux at hx;obtain ⟨r,rfl,hm,hb,ho⟩:=Yt hh hx hb;unfold wJ0 at h;split at h
 case h_2=>exact h.elim
 rename_i b since seen stepped hb0;obtain ⟨o',ho1,r',hmb,ho2⟩:=ho;subst ho2;unfold VS at h;split at h
 case h_2=>exact h.elim
 rename_i wr es c hbm;rw[qV] at hbm;obtain ⟨r2,es',e2,hm2,hw,her⟩:=xH hh (v' := .map (some r')) (.map b r' hmb) hbm;cases e2;obtain ⟨rfl,s,hs1,e,he,h⟩:=h;obtain ⟨e',he',hr⟩:=find_born her he;have hf:es'.find? (fun e=>e.born == s)=some e' := by cases es'; simpa using he'
 refine⟨.value (.tuple #[e'.key,e'.val]),w, ?_,_,_,m,h,VRel.tuple' (.cons hr.1 (.cons hr.2.1 (.nil m))),hh,Fr.refl _ _ _ _⟩;simp[execOp,hop,Instr.entry,hux,Qy ho1,hs1,vX hw,hf]
theorem uJ (hT:TOk P T) (h:xG P T o.op sl H K):OpS P o sl H K:=by
 generalize hop:o.op=op at h;cases op <;> try exact h.elim
 case makeMap t r =>
  cases r with
  | none=>exact vG0 hT hop h
  | some r=>exact h.elim
 case mapUpdate=>exact yu0 hT (.inl hop) h
 case insert=>exact yu0 hT (.inr hop) h
 case mapEntry=>exact qJ0 hT hop h
 case entryStore=>exact Yb hop h
 case range=>exact uq0 hT hop h
 case next=>exact s_next hop h
 case entry=>exact ut0 hop h
end
end Go.Af
namespace Go.Af
open Go

def PK.Of (P:Program) (ft:TypeId):PK->Prop
 | .int k=>P.underlying ft=some (.int k)
 | .bool=>P.underlying ft=some .bool
section
variable {P:Program}
theorem PK.eq_run {ft:TypeId} {k:PK} (h:k.Of P ft) (d:Nat) (a b:Int) (w:World):(Op.equalIn (d+1) ft (k.val a) (k.val b)).run P w = .ok (decide (k.nrm a=k.nrm b)) w:=by
 cases k with
 | int k =>
   have h:P.underlying ft=some (.int k):=h;simp only[PK.val,PK.nrm];rw[Op.equalIn];simp[qy h];by_cases e:a=b <;> simp[e]
 | bool =>
   have h:P.underlying ft=some .bool:=h;simp only[PK.val,PK.nrm];rw[Op.equalIn];simp[qy h];by_cases ea:a=0 <;> by_cases eb:b=0 <;> simp[ea,eb]
theorem PK.part_run {ft:TypeId} {k:PK} (h:k.Of P ft) (xs:Array Value) (i:Nat) (v:Value) (hv:xs[i]? = some v) (w:World):(part ft xs i).run P w = .ok v w:=by
 cases k with
 | int k=>have h:P.underlying ft=some (.int k):=h;simp[part,isAgg,qy h,hv]
 | bool=>have h:P.underlying ft=some .bool:=h;simp[part,isAgg,qy h,hv]
theorem PK.check_run {ft:TypeId} {k:PK} (h:k.Of P ft) (e:Bool) (d:Nat) (a:Int) (w:World):(Instr.checkKey e (d+1) ft (k.val a)).run P w = .ok () w:=by
 cases k with
 | int k=>have h:P.underlying ft=some (.int k):=h;simp only[PK.val];rw[Instr.checkKey];simp[qy h]
 | bool=>have h:P.underlying ft=some .bool:=h;simp only[PK.val];rw[Instr.checkKey];simp[qy h]

def Yx (P:Program):Nat->List Field->List PK->Prop
 | _,[],[]=>True
 | i, f :: fs, k :: ks => (f.name ≠ "_" ∧ f.offset = i ∧ k.Of P f.type) ∧ Yx P (i + 1) fs ks
 | _,_,_=>False
theorem We {xs ys:Array Value} {d:Nat} : ∀ {fs:List Field} {ks:List PK} {i:Nat} {as bs:List Int} (_:Yx P i fs ks) (_:as.length=ks.length) (_:bs.length=ks.length)
 (_ : ∀ (j:Nat) (k:PK) (a:Int),ks[j]? = some k->as[j]? = some a->xs[i+j]? = some (k.val a)) (_ : ∀ (j:Nat) (k:PK) (a:Int),ks[j]? = some k->bs[j]? = some a->ys[i+j]? = some (k.val a)) (w:World),
 (Op.eqFields (d+1) xs ys fs).run P w = .ok (decide (List.zipWith PK.nrm ks as=List.zipWith PK.nrm ks bs)) w
 | [],[],i,as,bs,_,ha,hb,_,_,w=>by simp[Op.eqFields]
 | f::fs,k::ks,i,a::as,b::bs,⟨⟨h1,h2,h3⟩,h4⟩,ha,hb,hx,hy,w=>by
   have hx0:xs[f.offset]? = some (k.val a):=by have:=hx 0 k a rfl rfl;rw[h2];simpa using this
   have hy0:ys[f.offset]? = some (k.val b):=by have:=hy 0 k b rfl rfl;rw[h2];simpa using this
   have ih:=fun w=>We (d:=d) h4 (by simpa using ha) (by simpa using hb) (fun j k a hk hj=>by have:=hx (j+1) k a (by simpa using hk) (by simpa using hj);rwa [show i+(j+1)=i+1+j by omega] at this)
    (fun j k a hk hj=>by have:=hy (j+1) k a (by simpa using hk) (by simpa using hj);rwa [show i+(j+1)=i+1+j by omega] at this) w
   simp only[Op.eqFields,if_pos h1,Sem.run_bind,PK.part_run h3 xs _ _ hx0,PK.part_run h3 ys _ _ hy0,Result.andThen_ok,PK.eq_run h3];simp only[List.zipWith_cons_cons,List.cons.injEq];by_cases e:k.nrm a=k.nrm b
   ·simp[e,ih]
   ·simp[e]
 | [],_::_,_,_,_,h,_,_,_,_,_=>h.elim
 | _::_,[],_,_,_,h,_,_,_,_,_=>h.elim
 | _::_,_::_,_,[],_,_,ha,_,_,_,_=>by simp at ha
 | _::_,_::_,_,_,[],_,_,hb,_,_,_=>by simp at hb
theorem YM {ks:List PK} {as:List Int} {j:Nat} {k:PK} {a:Int} (hk:ks[j]? = some k) (ha:as[j]? = some a):(List.zipWith PK.val ks as)[j]? = some (k.val a):=by
 rw[List.getElem?_zipWith,hk,ha]
theorem yx {t:TypeId} {ks:List PK} (hu:P.underlying t=some (.struct (P.fieldsOf t))) (hp:P.stoodInHeld t=false) (hg:P.eqGuardType P.depth t=false) (hf:Yx P 0 (P.fieldsOf t).toList ks):ZE P t ks:=by
 intro as bs ha hb w;refine⟨?_,fun op x y=>run_eqGuard_agg w op t x y _ _ hg⟩;unfold Op.equal Op.maxDepth;rw[run_equalIn_struct (P:=P) w 9999 t _ _ hu hp];exact We (d:=9998) hf ha hb (fun j k a hk hj=>by rw[Nat.zero_add];simpa using YM hk hj) (fun j k a hk hj=>by rw[Nat.zero_add];simpa using YM hk hj) w
theorem QE {t:TypeId} {ks:List PK} (hu:P.underlying t=some (.struct (P.fieldsOf t))) (hp:P.stoodInHeld t=false) (hg:P.eqGuardType P.depth t=false) (hf:Yx P 0 (P.fieldsOf t).toList ks):MKey P t ks:=by
 refine⟨yx hu hp hg hf,fun as ha e w=>?_⟩;have hc : ∀ (j:Nat) (k:PK) (a:Int),ks[j]? = some k->as[j]? = some a->(⟨List.zipWith PK.val ks as⟩:Array Value)[0+j]? = some (k.val a):=fun j k a hk hj=>by rw[Nat.zero_add];simpa using YM hk hj
 rw[show (10000:Nat)=9998+1+1 from rfl,Instr.checkKey];simp only[Sem.run_bind,qy hu,Result.andThen_ok];rw[<- Array.forIn_toList];generalize (⟨List.zipWith PK.val ks as⟩:Array Value)=cs at hc ⊢;generalize (P.fieldsOf t).toList=fs at hf ⊢;generalize 0=i at hf hc;clear hu hp hg
 induction fs generalizing ks as i w with
 | nil=>simp
 | cons f fs ih =>
   cases ks with
   | nil=>exact hf.elim
   | cons k ks =>
     cases as with
     | nil=>simp at ha
     | cons a as =>
       obtain ⟨⟨h1,h2,h3⟩,h4⟩:=hf;have h0:cs[f.offset]? = some (k.val a):=by have:=hc 0 k a rfl rfl;rw[h2];simpa using this
       have hi:=ih as (by simpa using ha) w (i+1) h4 (fun j k a hk hj=>by have:=hc (j+1) k a (by simpa using hk) (by simpa using hj);rwa [show i+(j+1)=i+1+j by omega] at this);simp[h1,PK.part_run h3 cs _ _ h0,PK.check_run h3]
       simpa using hi
/-! ### The same as computations -/
def PK.ofB (P:Program) (ft:TypeId) (k:PK):Bool :=
 match P.underlying ft,k with
 | some (.int j), .int k=>zF j k
 | some .bool, .bool=>true
 | _,_=>false
theorem PK.of_ofB {ft:TypeId} {k:PK} (h:k.ofB P ft=true):k.Of P ft:=by
 unfold PK.ofB at h;split at h
 ·rename_i hj;have:=vU h;subst this;exact hj
 ·rename_i hj;exact hj
 ·cases h
def uW0 (P:Program):Nat->List Field->List PK->Bool
 | _,[],[]=>true
 | i, f :: fs, k :: ks => (f.name != "_" && (Nat.beq f.offset i && k.ofB P f.type)) && uW0 P (i + 1) fs ks
 | _,_,_=>false
theorem yg : ∀ {i:Nat} {fs:List Field} {ks:List PK},uW0 P i fs ks=true->Yx P i fs ks
 | _,[],[],_=>trivial
 | i,f::fs,k::ks,h=>by
   simp only[uW0,Bool.and_eq_true] at h;exact⟨⟨by simpa using h.1.1,Nat.eq_of_beq_eq_true h.1.2.1,PK.of_ofB h.1.2.2⟩,yg h.2⟩
 | _,[],_::_,h=>by cases h
 | _,_::_,[],h=>by cases h
end
end Go.Af
namespace Go.Af
open Go

section
variable {P:Program} {T:TT} {sl:List (Nat × Value)} {H:List Blk} {K:Value->List Blk->Prop} {o:Oper}

theorem ye0 {α : Type} {a:Array α} {x : α} (h:a.toList = [x]):a = #[x]:=by cases a;simp_all
theorem yd0 {α : Type} {a:Array α} {x y : α} (h:a.toList = [x,y]):a = #[x,y]:=by cases a;simp_all
theorem vY {b:Builtin} {ats:Array TypeId} {args:Array Operand} {aR:Act} {w w' : World} {v:Value} (hop:o.op = .call { callee := .builtin b,args,argTypes:=ats })
 (h : ∀ cs,(builtin b ats o.type cs (args.map aR.eval)).run P w = .ok (.value v) w'):(execOp aR.eval o).run P w = .ok (.value v) w' := by
 simp only[execOp,hop,resolve,Sem.run_bind,Sem.run_pure,Result.andThen_ok,invoke,h]

theorem WE {e:TypeId} {j:TI} (hj:TIOk P e j) (hzl:(qG j.zero).length=j.size) (hs0:0<j.size) (m:LM) (n:Nat):LRel m (vS n (qG j.zero)) (Builtin.zeroCells j.zero.cells n).toList:=by
 have hc:j.zero.cells.size=j.size:=by rw[<- hzl,wF];simp
 have e1:(Builtin.zeroCells j.zero.cells n).toList=vS n (qG j.zero):=by
  rw[wF,<- Vu hc hs0];simp only[Builtin.zeroCells,hc]
 rw[e1];refine LRel.refl_all (fun v hv=>?_);have hz:=(wQ hj m).cells;rw[<- wF] at hz
 have hmem:v∈qG j.zero:=by
  unfold vS at hv;split at hv
  ·rename_i x hx;rw[hx];simpa using (List.mem_replicate.1 hv).2
  ·obtain ⟨l,h1,h2⟩:=List.mem_flatten.1 hv
   rw[(List.mem_replicate.1 h1).2] at h2;exact h2
 obtain ⟨q,hq⟩:=List.getElem?_of_mem hmem;exact hz.2 q v v hq hq
theorem YN {n:Nat} {z:List Value} (h:z.all vK=true):(vS n z).all vK=true:=by
 rw[List.all_eq_true] at h ⊢;intro v hv;unfold vS at hv;split at hv
 ·rw[(List.mem_replicate.1 hv).2];exact h _ (by simp)
 ·obtain ⟨l,h1,h2⟩:=List.mem_flatten.1 hv
  rw[(List.mem_replicate.1 h1).2] at h2;exact h _ h2

theorem uv0 (hT:TOk P T) {f:Builtin} {args:Array Operand} {ats:Array TypeId} (hop:o.op = .call { callee := .builtin f,args,argTypes:=ats }) (h:Zo P T f args.toList ats.toList sl H K):OpS P o sl H K:=by
 intro m aR w hs hh;unfold Zo at h;split at h
 ·split at h
  ·rename_i x t ha ht
   have ha:=ye0 ha;have ht:=ye0 ht;subst ha;subst ht;split at h
   ·rename_i i hi
    have hi:=hT.get hi;split at h
    ·rename_i e hk
     have hu:=hi.und;rw[hk] at hu;simp only[KOk] at hu;split at h
     ·rename_i j hj
      have hj:=hT.get hj
      have zero : ∀ (a:Option Addr) (c:Nat),aR.eval x = .slice a 0 c->∀ cs,(builtin .clear #[t] o.type cs (#[x].map aR.eval)).run P w = .ok (.value (.tuple #[])) w:=fun a c ha cs=>by
       simp only[builtin];cases a <;> simp[Builtin.clear_,ha,qy hu]
      split at h
      ·rename_i hv
       have hv:=qH hs hv;generalize hux:aR.eval x=ux at hv;cases hv;exact⟨_,_,vY hop (zero _ _ hux),_,_,m,h,VRel.plain m 6 _ rfl,hh, .refl _ _ _ _⟩
      ·rename_i b o' n c hv
       have hv:=qH hs hv;rcases h with ⟨h0,hk⟩ | ⟨h0,h⟩
       ·subst h0
        have : ∃ a c,aR.eval x = .slice a 0 c:=by
         generalize aR.eval x=ux at hv;cases hv <;> exact⟨_,_,rfl⟩
        obtain ⟨a,c,hux⟩:=this;exact⟨_,_,vY hop (zero _ _ hux),_,_,m,hk,VRel.plain m 6 _ rfl,hh, .refl _ _ _ _⟩
       ·split at h
        ·rename_i z vs hb
         obtain ⟨⟨⟨hs0,hzl⟩,hone,hbd⟩,vs',hvs,hk⟩:=h;simp only[qP] at hk;rw[qV] at hb;generalize hux:aR.eval x=ux at hv
         cases hv with
         | slice _ _ r sh tot esz _ _ c' hm hc hl =>
           have hzr:=WE hj hzl hs0 m n;obtain ⟨w',g1,g2,g3⟩:=xm (P:=P) _ _ hh hm hb o' 0 (by rw[Qw,hzl];omega) hzr (YN hone);rw[Nat.add_zero,hvs] at g2 g3;refine⟨_,_,vY hop (v := .tuple #[]) (w' := w') (fun cs=>?_),_,_,m,hk,VRel.plain m 6 _ rfl,g2,g3⟩;simp only[builtin];obtain ⟨n',rfl⟩ : ∃ n',n=n' + 1:=⟨n-1,by omega⟩;simp[Builtin.clear_,hux,qy hu,hj.run_zero,g1]
         | sliceZero _ _ a=>omega
         | sliceDead _ _ _ _ _ a hd _=>have:=hh.dd _ hd;rw[this] at hb;cases hb
        ·exact h.elim
      ·exact h.elim
     ·exact h.elim
    ·exact h.elim
   ·exact h.elim
  ·exact h.elim
 ·split at h
  ·rename_i x t ha ht
   have ha:=ye0 ha;have ht:=ye0 ht;subst ha;subst ht;split at h
   ·rename_i i hi
    have hi:=hT.get hi;split at h
    ·rename_i e hk hv
     have hu:=hi.und;rw[hk] at hu;simp only[KOk] at hu;have hv:=qH hs hv;generalize hux:aR.eval x=ux at hv;cases hv;refine⟨_,_,vY hop (v := .int .i64 0) (w' := w) (fun cs=>?_),_,_,m,h, .int _ _,hh, .refl _ _ _ _⟩;simp only[builtin];simp[Builtin.cap_,hux,qy hu,goInt]
    ·exact h.elim
   ·exact h.elim
  ·exact h.elim
 ·split at h
  ·rename_i x y t t2 ha ht
   have ha:=yd0 ha;have ht:=yd0 ht;subst ha;subst ht;split at h
   ·rename_i i hi
    have hi:=hT.get hi;split at h
    ·rename_i e hk
     have hu:=hi.und;rw[hk] at hu;simp only[KOk] at hu;split at h
     ·rename_i j hj
      have hj:=hT.get hj
      have zero : ∀ (a a2:Option Addr) (l c l2 c2:Nat),aR.eval x = .slice a l c->aR.eval y = .slice a2 l2 c2->min l2 l=0->∀ cs,(builtin .copy #[t,t2] o.type cs (#[x,y].map aR.eval)).run P w = .ok (.value (.int .i64 0)) w:=fun a a2 l c l2 c2 ha ha2 h0 cs=>by
       have h0' : Nat.min l2 l=0:=h0;simp only[builtin];cases a <;> cases a2 <;> simp[Builtin.copy_,ha,ha2,qy hu,Builtin.lenOf,hj.run_size,Builtin.firstCells,h0,h0',loadCells,loadCellsFrom,storeCells,goInt]
      split at h
      ·rename_i a2 l2 c2 hv hv2
       have hv:=qH hs hv;have hv2:=qH hs hv2
       have k1 : ∃ a c,aR.eval x = .slice a 0 c:=by
        generalize aR.eval x=ux at hv;cases hv <;> exact⟨_,_,rfl⟩
       have k2 : ∃ a l c,aR.eval y = .slice a l c:=by
        generalize aR.eval y=uy at hv2;cases hv2 <;> exact⟨_,_,_,rfl⟩
       obtain ⟨a,c,hux⟩:=k1;obtain ⟨a',l',c',huy⟩:=k2;exact⟨_,_,vY hop (zero _ _ _ _ _ _ hux huy (by omega)),_,_,m,h, .int _ _,hh, .refl _ _ _ _⟩
      ·rename_i b o' l c hv hv2
       have hv:=qH hs hv;have hv2:=qH hs hv2
       have k1 : ∃ a l c,aR.eval x = .slice a l c:=by
        generalize aR.eval x=ux at hv;cases hv <;> exact⟨_,_,_,rfl⟩
       have k2 : ∃ a c,aR.eval y = .slice a 0 c:=by
        generalize aR.eval y=uy at hv2;cases hv2 <;> exact⟨_,_,rfl⟩
       obtain ⟨a,l,c,hux⟩:=k1;obtain ⟨a',c',huy⟩:=k2;exact⟨_,_,vY hop (zero _ _ _ _ _ _ hux huy (by omega)),_,_,m,h, .int _ _,hh, .refl _ _ _ _⟩
      ·rename_i b o1 l c b' o2 q c2 hv hv2
       have hv:=qH hs hv;have hv2:=qH hs hv2;obtain ⟨n,hn,h⟩:=h;rcases h with ⟨h0,hk⟩ | ⟨h0,h⟩
       ·have k1 : ∃ a c,aR.eval x = .slice a l c:=by
         generalize aR.eval x=ux at hv;cases hv <;> exact⟨_,_,rfl⟩
        have k2 : ∃ a c,aR.eval y = .slice a q c:=by
         generalize aR.eval y=uy at hv2;cases hv2 <;> exact⟨_,_,rfl⟩
        obtain ⟨a,c,hux⟩:=k1;obtain ⟨a',c',huy⟩:=k2;exact⟨_,_,vY hop (zero _ _ _ _ _ _ hux huy (by omega)),_,_,m,hk, .int _ _,hh, .refl _ _ _ _⟩
       ·split at h
        ·rename_i z vs wr2 z2 us hb hb2
         obtain ⟨⟨hbd2,hbd,hone⟩,vs',hvs,hk⟩:=h;simp only[qP] at hk;rw[qV] at hb hb2;generalize hux:aR.eval x=ux at hv;generalize huy:aR.eval y=uy at hv2
         cases hv with
         | slice _ _ r sh tot esz _ _ c' hm hc hl =>
           cases hv2 with
           | slice _ _ r2 sh2 tot2 esz2 _ _ c2' hm2 hc2 hl2 =>
             obtain ⟨xs,g1,g2⟩:=run_loadCells (P:=P) hh hm2 hb2 o2 (n*j.size) hbd2;obtain ⟨w',g3,g4,g5⟩:=xm (P:=P) _ _ hh hm hb o1 0 (by simp;omega) g2 hone;rw[Nat.add_zero,hvs] at g4 g5;refine⟨_,_,vY hop (v := .int .i64 n) (w' := w') (fun cs=>?_),_,_,m,hk, .int _ _,g4,g5⟩;simp only[builtin];have e1:Nat.min q l=n:=hn.symm;have g1' := g1 w.drawn;have g1' : (loadCells ⟨r2,sh2+o2,none⟩ (n*j.size)).run P w = .ok xs w:=g1';simp[Builtin.copy_,hux,huy,qy hu,Builtin.lenOf,hj.run_size,Builtin.firstCells,e1,g1',g3,goInt]
           | sliceZero _ _ a=>omega
           | sliceDead _ _ _ _ _ a hd _=>have:=hh.dd _ hd;rw[this] at hb2;cases hb2
         | sliceZero _ _ a=>omega
         | sliceDead _ _ _ _ _ a hd _=>have:=hh.dd _ hd;rw[this] at hb;cases hb
        ·exact h.elim
      ·exact h.elim
     ·exact h.elim
    ·exact h.elim
   ·exact h.elim
  ·exact h.elim
 ·split at h
  ·rename_i x y t t2 ha ht
   have ha:=yd0 ha;have ht:=yd0 ht;subst ha;subst ht;split at h
   ·rename_i i hi
    have hi:=hT.get hi;split at h
    ·rename_i kt et hk
     have hu:=hi.und;rw[hk] at hu;simp only[KOk] at hu;split at h
     ·rename_i k hx hy
      have hx:=qH hs hx;have hy:=qH hs hy;generalize hux:aR.eval x=ux at hx;cases hx;obtain ⟨h,hck,d,hd⟩:=Qg hT h hy;refine⟨_,_,vY hop (v := .tuple #[]) (w' := w) (fun cs=>?_),_,_,m,h,VRel.plain m 6 _ rfl,hh, .refl _ _ _ _⟩;simp only[builtin];simp[Builtin.delete_,hux,qy hu,hck]
     ·rename_i b k hx hy
      have hx:=qH hs hx;have hy:=qH hs hy;unfold wZ at h;split at h
      ·rename_i es c hb
       rw[qV] at hb;generalize hux:aR.eval x=ux at hx;obtain ⟨r,es',rfl,hm,hw,her⟩:=xH hh hx hb;obtain ⟨h,hck,d,hd⟩:=Qg hT h hy;obtain ⟨rv,h,hf,hg⟩:=WA hT hh hd hy h her
       cases rv with
       | none =>
         simp only[Option.map_none,qP] at h;obtain ⟨q1,q2⟩:=map_set hh hm hb (es2:=es) (c2:=c) (es2' := es') (lt_of_some hw) her;refine⟨_,_,vY hop (v := .tuple #[]) (fun cs=>?_),_,_,m,h,VRel.plain m 6 _ rfl,q1,q2⟩;simp only[builtin];simp[Builtin.delete_,hux,qy hu,vX hw,hck,hf w (ExtW.refl w),zY hw]
       | some pv =>
         obtain ⟨p,v0⟩:=pv;simp only[Option.map_some,qP] at h;obtain ⟨q1,q2⟩:=map_set hh hm hb (es2:=es.eraseIdx p) (c2:=c) (es2' := es'.eraseIdxIfInBounds p) (lt_of_some hw) (by rw[Array.toList_eraseIdxIfInBounds];exact her.erase p);refine⟨_,_,vY hop (v := .tuple #[]) (fun cs=>?_),_,_,m,h,VRel.plain m 6 _ rfl,q1,q2⟩;simp only[builtin];simp[Builtin.delete_,hux,qy hu,vX hw,hck,hf w (ExtW.refl w),zY hw]
      ·exact h.elim
     ·exact h.elim
    ·exact h.elim
   ·exact h.elim
  ·exact h.elim
 ·exact h.elim
end
end Go.Af
namespace Go.Af
open Go

section
variable {P:Program} {T:TT} {sl:List (Nat × Value)} {H:List Blk} {K:Value->List Blk->Prop} {o:Oper}

theorem WP (hT:TOk P T) {t:TypeId} {l c:Operand} (hop:o.op = .makeSlice t l c) (h:qC P T (.makeSlice t l c) sl H K):OpA P o sl H K :=
 fun m aR w hs hh=>by
  simp only[qC,isCells,ql,qi] at h;split at h
  ·rename_i i hi
   have hi:=hT.get hi;split at h
   ·rename_i e hk
    have hu:=hi.und;rw[hk] at hu;simp only[KOk] at hu;split at h
    ·rename_i j hj
     have hj:=hT.get hj;split at h
     ·rename_i k1 li k2 ci hl hc
      obtain ⟨⟨hs0,hzl⟩,n,c',⟨rfl,rfl⟩,⟨hnc,hbd⟩,vs,hvs,hk⟩:=h;simp only[vH,Nat.zero_add] at hk;have el:=qH hs hl;have ec:=qH hs hc;generalize hul:aR.eval l=ul at el;generalize huc:aR.eval c=uc at ec;cases el;cases ec;obtain ⟨ji,hji,hsz,hby,hze⟩:=hj.infoEx;have hb1:c' * j.bytes<=70368744177664:=Nat.le_trans (Nat.mul_le_mul_left _ (Nat.le_succ _)) hbd;have hb2:c' <= 70368744177664:=by rw[Nat.mul_succ] at hbd;omega
      have w1:IntKind.i64.wrap (n:Int)=n:=wrap_i64 ⟨by omega,by omega⟩;have w2:IntKind.i64.wrap (c' : Int)=c' := wrap_i64 ⟨by omega,by omega⟩
      have hcells:LRel m vs ((Array.range (c' * j.size)).map (fun k=>j.zero.cells[k % j.zero.cells.size]!)).toList:=by
       rw[Vu (by rw[<- hzl,wF];simp) hs0,<- wF,hvs];refine LRel.refl_all (fun v hv=>?_);have hz:=(wQ hj m).cells;rw[<- wF] at hz
       have hmem:v∈qG j.zero:=by
        rw[<- hvs] at hv;unfold vS at hv;split at hv
        ·rename_i x hx;rw[hx];simpa using (List.mem_replicate.1 hv).2
        ·obtain ⟨l,h1,h2⟩:=List.mem_flatten.1 hv
         rw[(List.mem_replicate.1 h1).2] at h2;exact h2
       obtain ⟨q,hq⟩:=List.getElem?_of_mem hmem;exact hz.2 q v v hq hq
      refine⟨j.size,vs,_,e,_, .slice (some ⟨w.heap.size,0,none⟩) n c',hs0,hk, ?_,hcells, .slice _ _ _ _ _ _ _ _ _ (LM.put_self _ _ _) (Nat.le_refl _) (.inr (by simp))⟩;simp only[execOp,hop,hul,huc];refine vk ?_
      have hbi : ¬ ((ji.bytes:Int)*(c' : Int) > 2 ^ 48):=by
       rw[hby];have h1:=Int.ofNat_le.2 hb1;have h2:((c' * j.bytes:Nat):Int)=(j.bytes:Int)*(c' : Int):=by rw[Int.natCast_mul,Int.mul_comm]
       rw[h2] at h1;omega
      have hcnd:(decide ((c' : Int)<0)||decide ((ji.bytes:Int)*(c' : Int) > 2 ^ 48)||decide ((n:Int)<0)||decide ((n:Int) > (c' : Int)))=false:=by
       simp only[Bool.or_eq_false_iff,decide_eq_false_iff_not];exact⟨⟨⟨by omega,hbi⟩,by omega⟩,by omega⟩
      simp only[Instr.makeSlice,Sem.run_bind,qy hu,Result.andThen_ok,asInt,asIntOf,Sem.run_pure,yU hji,w1,w2,hcnd,Bool.false_eq_true,if_false,run_askRoom,Int.toNat_natCast,hj.run_size];by_cases h0:c' * j.size=0
      ·have hr0:Array.range 0 = #[]:=rfl
       simp only[h0,if_true,Sem.run_pure,Result.andThen_ok,hr0,Array.map_empty,newRow,Sem.run_bind,run_newObj]
      ·simp only[h0,if_false,Sem.run_bind,hj.run_zero,Sem.run_pure,Result.andThen_ok,newRow,run_newObj]
     ·exact h.elim
    ·exact h.elim
   ·exact h.elim
  ·exact h.elim

theorem up0 (hT:TOk P T) {t:TypeId} {x:Operand} {lo hi mx:Option Operand} (hop:o.op = .slice t x lo hi mx) (h:qC P T (.slice t x lo hi mx) sl H K):OpV P o sl H K :=
 fun m aR w hs hh=>by
  simp only[qC,isCells,ql,qi] at h;split at h
  ·rename_i i hti
   have hti:=hT.get hti;split at h
   ·rename_i e hk
    have hu:=hti.und;rw[hk] at hu;simp only[KOk] at hu;split at h
    ·rename_i j hj
     have hj:=hT.get hj
     have go : ∀ {a:Option Addr} {len cap l h' mm:Nat},aR.eval x = .slice a len cap->(∀ w,(Instr.sliceBounds true len cap (lo.map aR.eval) (hi.map aR.eval) (mx.map aR.eval)).run P w = .ok (l,h',mm) w) ->
      ∀ w',(zV o.op=true->ExtW w w')->(execOp aR.eval o).run P w' = .ok (.value (.slice (if mm=l then a else a.map (·.add (l*j.size))) (h' - l) (mm-l))) w' := fun hx hb w' _=>by
      simp only[execOp,hop,hx];refine vk ?_;simp only[Instr.sliceAt,Instr.slice,Sem.run_bind,qy hu,Result.andThen_ok,hb,hj.run_size,Sem.run_pure]
     split at h
     ·rename_i hv
      have hx:=qH hs hv;generalize hxu:aR.eval x=u at hx;cases hx;split at h
      ·obtain ⟨h',h1,h2⟩:=zD (aR:=aR) hs h
       obtain ⟨l,⟨rfl,rfl,h3⟩,h4⟩:=zD (aR:=aR) hs h1;refine⟨_,_,h3,go hxu (fun w=>Qd (w:=w) (b:=true) h2 h4 (Nat.le_refl _) (Nat.le_refl _)), ?_⟩
       simpa using VRel.nilslice
      ·rename_i mo
       obtain ⟨mm,h1,h2⟩:=zD (aR:=aR) hs h;obtain ⟨h',h3,h4⟩:=zD (aR:=aR) hs h1;obtain ⟨l,⟨rfl,rfl,rfl,hsome,h5⟩,h6⟩:=zD (aR:=aR) hs h3;rcases h2 with ⟨h2,_⟩ | ⟨y,k,h2,h7⟩
       ·cases h2
       ·cases h2
        rcases h4 with ⟨h4,_⟩ | ⟨y',k',h4,h8⟩
        ·rw[h4] at hsome;cases hsome
        ·refine⟨_,_,h5,go hxu (fun w=>WT (w:=w) (b:=true) h7 ⟨y',k',h4,h8⟩ h6 (Nat.le_refl _) (Nat.le_refl _) (Nat.le_refl _)), ?_⟩
         simpa using VRel.nilslice
     ·rename_i b o' n c hv
      have hx:=qH hs hv;generalize hxu:aR.eval x=u at hx;split at h
      ·split at h
       ·rename_i wr z vs hb
        obtain ⟨rfl,h⟩:=h;obtain ⟨h',h1,h2⟩:=zD (aR:=aR) hs h;obtain ⟨l,⟨⟨hlh,hhc⟩,h3⟩,h4⟩:=zD (aR:=aR) hs h1
        cases hx with
        | slice _ _ r sh tot esz _ _ c' hm hc hl =>
          refine⟨_,_,h3,go hxu (fun w=>Qd (w:=w) (b:=true) h2 h4 hlh (by omega)), ?_⟩;by_cases he:c' = l
          ·subst he
           have e1:h' - c' = 0:=by omega
           have e2:c-c' = 0:=by omega
           simp only[if_true,e1,e2,Nat.sub_self];exact .sliceZero _ _ _
          ·simp only[he,if_false,Option.map_some,addr_add]
           rw[Nat.add_assoc];refine .slice _ _ _ _ _ _ _ _ _ hm (by omega) ?_;obtain ⟨_,_,_,_,_,hz,_⟩:=hh.cells hm (by rw[<- qV];exact hb);rcases hl with hl | hl
           ·exact .inl hl
           ·rcases hz with hz | hz
            ·exact .inl hz
            ·right
             have:(c' - l)*esz+l*j.size=c' * esz:=by rw[hz,<- Nat.add_mul];congr 1;omega
             omega
        | sliceZero _ _ a =>
          have hl0:l=0:=by omega
          have hh0:h' = 0:=by omega
          subst hl0;subst hh0;refine⟨_,_,h3,go hxu (fun w=>Qd (w:=w) (b:=true) h2 h4 hlh (by omega)), ?_⟩
          simpa using VRel.sliceZero _ _ _
        | sliceDead _ _ _ _ _ a hd _=>exact (nc hh hb hd).elim
       ·exact h.elim
      ·rename_i mo
       obtain ⟨mm,h1,h2⟩:=zD (aR:=aR) hs h;obtain ⟨h',h3,h4⟩:=zD (aR:=aR) hs h1;obtain ⟨l,⟨rfl,rfl,hmc,hsome,h5⟩,h6⟩:=zD (aR:=aR) hs h3;rcases h2 with ⟨h2,_⟩ | ⟨y,k,h2,h7⟩
       ·cases h2
       ·cases h2
        rcases h4 with ⟨h4,_⟩ | ⟨y',k',h4,h8⟩
        ·rw[h4] at hsome;cases hsome
        ·have key : ∃ a cR,u = .slice a n cR/\l<=cR:=by
          cases hx with
          | slice _ _ r sh tot esz _ _ c' hm hc hl=>exact⟨_,_,rfl,by omega⟩
          | sliceZero _ _ a=>exact⟨_,_,rfl,by omega⟩
          | sliceDead _ _ _ _ c' a hd hc=>exact⟨_,_,rfl,by omega⟩
         obtain ⟨a,cR,rfl,hlc⟩:=key;refine⟨_,_,h5,go hxu (fun w=>WT (w:=w) (b:=true) h7 ⟨y',k',h4,h8⟩ h6 (Nat.le_refl _) (Nat.le_refl _) hlc), ?_⟩;simp only[if_true,Nat.sub_self];exact .sliceEmpty _ _ _ _
     ·exact h.elim
    ·exact h.elim
   ·rename_i hk
    have hu:=hti.und;rw[hk] at hu;simp only[KOk] at hu;split at h
    ·rename_i s hv
     have hx:=qH hs hv;generalize hxu:aR.eval x=u at hx;cases hx;obtain ⟨h',h1,h2⟩:=zD (aR:=aR) hs h;obtain ⟨l,⟨⟨hlh,hhc⟩,h3⟩,h4⟩:=zD (aR:=aR) hs h1;refine⟨_,_,h3,fun w' _=>?_, .string _⟩;simp only[execOp,hop,hxu];refine vk ?_;have hb:=Qd (P:=P) (w:=w') (b:=false) h2 h4 hlh hhc;simp only[Instr.sliceAt,Instr.slice,Sem.run_bind,qy hu,Result.andThen_ok,Option.map_none,Option.isSome_none,Bool.false_eq_true,if_false,Sem.run_pure,hb]
    ·exact h.elim
   ·exact h.elim
  ·exact h.elim

theorem YZ (hT:TOk P T) {s:TypeId} {x:Operand} {f:Nat} (hop:o.op = .fieldAddr s x f) (h:qC P T (.fieldAddr s x f) sl H K):OpV P o sl H K :=
 fun m aR w hs hh=>by
  simp only[qC,isCells,ql,qi] at h;split at h
  ·rename_i i hi
   have hi:=hT.get hi;split at h
   ·rename_i fs hk
    have hu:=hi.und;rw[hk] at hu;obtain ⟨fields,hu,hfs⟩:=hu;split at h
    ·rename_i off t hf
     split at h
     ·rename_i j b o' hj hv
      have hj:=hT.get hj;obtain ⟨hne,h⟩:=h;split at h
      ·rename_i wr z vs hb
       obtain ⟨r,sh,tot,esz,hm,hux,hb'⟩:=yX hh hb (qH hs hv);rw[fieldAt?_eq,<- hfs,List.getElem?_map] at hf
       cases hff:fields[f]? with
       | none=>simp[hff] at hf
       | some fd =>
         simp[hff] at hf;obtain ⟨rfl,rfl⟩:=hf;refine⟨_, .pointer (some ⟨r,sh+(o' + fd.offset),none⟩),h,fun w' _=>?_, .ptr _ _ _ _ _ _ hm⟩;simp only[execOp,hop,hux];refine vk ?_;simp[Instr.fieldAt,qy hu,hff,Instr.sureAddr,fieldPlace,hj.run_size,hne,addr_add,Nat.add_assoc]
      ·exact h.elim
     ·exact h.elim
    ·exact h.elim
   ·exact h.elim
  ·exact h.elim

theorem UT (hT:TOk P T) {t:TypeId} {j:TI} (hj:tget T t=some j) {cs cs' : Array Value} {off:Nat} {m:LM} (hc:LRel m cs.toList cs'.toList) {K:Value->Prop}
 (h:match j.kind.agg with
   | true=>off+j.size<=cs.toList.length/\uS ((cs.toList.drop off).take j.size) (fun l=>K (.agg ⟨l⟩))
   | false=>Ld cs.toList off K) :
 ∃ v vR,K v/\(∀ w,(part t cs' off).run P w = .ok vR w)/\VRel m v vR:=by
 have hj' := hT.get hj;split at h
 ·rename_i ha
  obtain ⟨h1,h2⟩:=h;simp only[vO] at h2;refine⟨_, .agg (cs'.extract off (off+j.size)),h2,fun w=>by simp[part,hj'.run_isAgg,ha,hj'.run_size], .agg' ?_⟩;have:=hc.segOf off j.size
  simpa [List.extract_eq_take_drop] using this
 ·rename_i ha
  obtain ⟨v,hv,hk⟩:=h;obtain ⟨y,g1,g2⟩:=hc.get hv;have g1' : cs'[off]? = some y:=by simpa using g1
  exact⟨v,y,hk,fun w=>by simp[part,hj'.run_isAgg,ha,g1'],g2⟩

theorem us0 (hT:TOk P T) {t:TypeId} {x:Operand} {f:Nat} (hop:o.op = .field t x f) (h:qC P T (.field t x f) sl H K):OpV P o sl H K :=
 fun m aR w hs hh=>by
  simp only[qC,isCells,ql,qi] at h;split at h
  ·rename_i i hi
   have hi:=hT.get hi;split at h
   ·rename_i fs hk
    have hu:=hi.und;rw[hk] at hu;obtain ⟨fields,hu,hfs⟩:=hu;split at h
    ·rename_i off ft hf
     split at h
     ·rename_i j cs hj hv
      have hx:=qH hs hv;obtain ⟨cs',hxe,hc⟩:=hx.inv_agg;rw[fieldAt?_eq,<- hfs,List.getElem?_map] at hf
      cases hff:fields[f]? with
      | none=>simp[hff] at hf
      | some fd =>
        simp[hff] at hf;obtain ⟨rfl,rfl⟩:=hf;obtain ⟨v,vR,h1,h2,h3⟩:=UT hT hj hc (K:=fun v=>K v H) h;refine⟨v,vR,h1,fun w' _=>?_,h3⟩;simp only[execOp,hop,hxe];exact vk (by simp[Instr.field,qy hu,hff,asAgg,h2])
     ·exact h.elim
    ·exact h.elim
   ·exact h.elim
  ·exact h.elim

theorem YY (hT:TOk P T) {t:TypeId} {x i:Operand} (hop:o.op = .indexAddr t x i) (h:qC P T (.indexAddr t x i) sl H K):OpV P o sl H K :=
 fun m aR w hs hh=>by
  simp only[qC,isCells,ql,qi] at h;split at h
  ·rename_i ti hti
   have hti:=hT.get hti;split at h
   ·rename_i k n hn
    have en:=qH hs hn;generalize hun:aR.eval i=un at en;cases en;split at h
    ·rename_i e hk
     have hu:=hti.und;rw[hk] at hu;simp only[KOk] at hu;split at h
     ·rename_i j b o' l c hj hv
      have hj:=hT.get hj;split at h
      ·rename_i wr z vs hb
       obtain ⟨q,rfl,hq,h⟩:=h;have hx:=qH hs hv;generalize hux:aR.eval x=ux at hx
       cases hx with
       | slice _ _ r sh tot esz _ _ c' hm hc hl =>
         refine⟨_, .pointer (some ⟨r,sh+(o' + q*j.size),none⟩),h,fun w' _=>?_, .ptr _ _ _ _ _ _ hm⟩;simp only[execOp,hop,hun,hux];refine vk ?_;have hq' : (0:Int)<=(q:Int)/\(q:Int)<(l:Int):=by omega
         simp only[Instr.indexAt,asIntOf,Sem.run_bind,Sem.run_pure,Result.andThen_ok,qy hu];rw[if_pos hq'];simp[hj.run_size,addr_add,Nat.add_assoc]
       | sliceZero _ _ a=>omega
       | sliceDead _ _ _ _ _ a hd _=>exact (nc hh hb hd).elim
      ·exact h.elim
     ·exact h.elim
    ·rename_i len e hk
     have hu:=hti.und;rw[hk] at hu;simp only[KOk] at hu;split at h
     ·rename_i j b o' hj hv
      have hj:=hT.get hj;split at h
      ·rename_i wr z vs hb
       obtain ⟨q,rfl,hq,h⟩:=h;obtain ⟨r,sh,tot,esz,hm,hux,hb'⟩:=yX hh hb (qH hs hv);refine⟨_, .pointer (some ⟨r,sh+(o' + q*j.size),none⟩),h,fun w' _=>?_, .ptr _ _ _ _ _ _ hm⟩;simp only[execOp,hop,hun,hux];refine vk ?_;have hq' : (0:Int)<=(q:Int)/\(q:Int)<(len:Int):=by omega
       simp only[Instr.indexAt,asIntOf,Sem.run_bind,Sem.run_pure,Result.andThen_ok,qy hu,Instr.sureAddr];rw[if_pos hq'];simp[hj.run_size,addr_add,Nat.add_assoc]
      ·exact h.elim
     ·exact h.elim
    ·exact h.elim
   ·exact h.elim
  ·exact h.elim

theorem ur0 (hT:TOk P T) {t:TypeId} {x i:Operand} (hop:o.op = .index t x i) (h:qC P T (.index t x i) sl H K):OpV P o sl H K :=
 fun m aR w hs hh=>by
  simp only[qC,isCells,ql,qi] at h;split at h
  ·rename_i ti hti
   have hti:=hT.get hti;split at h
   ·rename_i k n s hn hv
    have en:=qH hs hn;generalize hun:aR.eval i=un at en;cases en;have hx:=qH hs hv;generalize hux:aR.eval x=ux at hx;cases hx;split at h
    ·rename_i hk
     have hu:=hti.und;rw[hk] at hu;simp only[KOk] at hu;obtain ⟨q,b,rfl,hb,h⟩:=h;refine⟨_,_,h,fun w' _=>?_, .int _ _⟩;simp only[execOp,hop,hun,hux];refine vk ?_;simp[Instr.index,asIntOf,qy hu,hb]
    ·exact h.elim
   ·rename_i k n cs hn hv
    have en:=qH hs hn;generalize hun:aR.eval i=un at en;cases en;have hx:=qH hs hv;obtain ⟨cs',hxe,hc⟩:=hx.inv_agg;split at h
    ·rename_i len e hk
     have hu:=hti.und;rw[hk] at hu;simp only[KOk] at hu;split at h
     ·rename_i j hj
      obtain ⟨q,⟨rfl,hq⟩,h⟩:=h;obtain ⟨v,vR,h1,h2,h3⟩:=UT hT hj hc (K:=fun v=>K v H) h;refine⟨v,vR,h1,fun w' _=>?_,h3⟩;simp only[execOp,hop,hun,hxe];refine vk ?_;have hq' : (0:Int)<=(q:Int)/\(q:Int)<(len:Int):=by omega
      simp only[Instr.index,asIntOf,Sem.run_bind,Sem.run_pure,Result.andThen_ok,qy hu];rw[if_pos hq'];simp[(hT.get hj).run_size,h2]
     ·exact h.elim
    ·exact h.elim
   ·exact h.elim
  ·exact h.elim

theorem Ya (hT:TOk P T) {x:Operand} {xt a:TypeId} {ok:Bool} (hop:o.op = .typeAssert x xt a ok) (h:qC P T (.typeAssert x xt a ok) sl H K):OpV P o sl H K :=
 fun m aR w hs hh=>by
  simp only[qC,isCells,ql,qi] at h;split at h
  ·rename_i i hi
   have hi' := hT.get hi;split at h
   ·exact h.elim
   ·rename_i hne
    split at h
    ·rename_i t v hv
     have hx:=qH hs hv;generalize hux:aR.eval x=ux at hx
     cases hx with
     | iface _ _ v' hvv =>
     obtain ⟨d,hd,_⟩:=hi'.und.desc
     have hd' : ∀ ms,d ≠ .interface ms:=by
      intro ms e;subst e;have ui:=hi'.und;cases hk' : i.kind <;> rw[hk'] at ui <;> simp only[KOk] at ui
      case iface=>exact hne hk'
      case struct=>obtain ⟨f,g,_⟩:=ui;rw[hd] at g;cases g
      case func=>obtain ⟨_,_,_,g⟩:=ui;rw[hd] at g;cases g
      all_goals (rw[hd] at ui;cases ui)
     split at h
     ·rename_i hb hok
      have hta:t=a:=Nat.eq_of_beq_eq_true hok;subst hta;refine⟨_, .tuple #[v', .bool true],h,fun w' _=>?_, .tuple' (.cons hvv (.cons (.bool _) (.nil m)))⟩;simp only[execOp,hop,hux];refine vk ?_;simp only[Instr.typeAssert,Sem.run_bind,qy hd,Result.andThen_ok];cases d <;> first | exact absurd rfl (hd' _) | simp
     ·rename_i hb hok
      have hta:t=a:=Nat.eq_of_beq_eq_true hok;subst hta;refine⟨_,v',h,fun w' _=>?_,hvv⟩;simp only[execOp,hop,hux];refine vk ?_;simp only[Instr.typeAssert,Sem.run_bind,qy hd,Result.andThen_ok];cases d <;> first | exact absurd rfl (hd' _) | simp
     ·rename_i hb hok
      have hta : ¬ t=a:=fun e=>by rw[e] at hok;simp at hok
      refine⟨_, .tuple #[i.zero, .bool false],h,fun w' _=>?_, .tuple' (.cons (wQ hi' m) (.cons (.bool _) (.nil m)))⟩;simp only[execOp,hop,hux];refine vk ?_;simp only[Instr.typeAssert,Sem.run_bind,qy hd,Result.andThen_ok];cases d <;> first | exact absurd rfl (hd' _) | simp[hta,hi'.run_zero]
     ·exact h.elim
    ·exact h.elim
  ·exact h.elim

theorem vH0 {t:Operand} {ix:Nat} (hop:o.op = .extract t ix) (h:qC P T (.extract t ix) sl H K):OpV P o sl H K :=
 fun m aR w hs hh=>by
  simp only[qC,isCells,ql,qi] at h;split at h
  ·rename_i vs hv
   obtain ⟨v,h1,h2⟩:=h;have hx:=qH hs hv;obtain ⟨vs',hxe,hc⟩:=hx.inv_tuple;obtain ⟨y,g1,g2⟩:=hc.get h1;refine⟨v,y,h2,fun w' _=>?_,g2⟩;simp only[execOp,hop,hxe];have g1' : vs'[ix]? = some y:=by simpa using g1
   exact vk (by simp[Instr.extract,g1'])
  ·exact h.elim

end
end Go.Af
namespace Go.Af
open Go

section
variable {P:Program} {T:TT} {sl:List (Nat × Value)} {H:List Blk} {K:Value->List Blk->Prop} {o:Oper}

theorem arr1 {α : Type} {a:Array α} {x : α} (h:a.toList = [x]):a = #[x]:=by cases a;simp_all
theorem arr2 {α : Type} {a:Array α} {x y : α} (h:a.toList = [x,y]):a = #[x,y]:=by cases a;simp_all

theorem zf {b:Builtin} {ats:Array TypeId} {args:Array Operand} {aR:Act} {w w' : World} {v:Value} (hop:o.op = .call { callee := .builtin b,args,argTypes:=ats })
 (h : ∀ cs,(builtin b ats o.type cs (args.map aR.eval)).run P w = .ok (.value v) w'):(execOp aR.eval o).run P w = .ok (.value v) w' := by
 simp only[execOp,hop,resolve,Sem.run_bind,Sem.run_pure,Result.andThen_ok,invoke,h]

theorem s_len (hT:TOk P T) {args:Array Operand} {ats:Array TypeId} (hop:o.op = .call { callee := .builtin .len,args,argTypes:=ats }) (h:qC P T (.call { callee := .builtin .len,args,argTypes:=ats }) sl H K):OpV P o sl H K:=by
 intro m aR w hs hh;simp only[qC] at h;split at h
 ·rename_i x t ha ht
  have ha:=arr1 ha;have ht:=arr1 ht;subst ha;subst ht;split at h
  ·rename_i i v hi hv
   have hu:=(hT.get hi).und;have hx:=qH hs hv
   have fin : ∀ n:Int,(∀ w,(Builtin.len_ #[t] o.type #[aR.eval x]).run P w = .ok (.int .i64 n) w)->K (.int .i64 n) H ->
    ∃ v vR,K v H/\(∀ w',(zV o.op=true->ExtW w w')->(execOp aR.eval o).run P w' = .ok (.value vR) w')/\VRel m v vR:=fun n hr hk =>
    ⟨_,_,hk,fun w' _=>zf hop (fun cs=>by simp only[builtin];simp[hr]), .int _ _⟩
   generalize hux:aR.eval x=ux at hx fin;split at h
   ·rename_i e a l c hk
    rw[hk] at hu;simp only[KOk] at hu;refine fin _ (fun w=>?_) h;have : ∃ a' c',ux = .slice a' l c' := by cases hx <;> exact⟨_,_,rfl⟩
    obtain ⟨a',c',rfl⟩:=this;simp[Builtin.len_,qy hu,goInt]
   ·rename_i s hk
    rw[hk] at hu;simp only[KOk] at hu;cases hx;refine fin _ (fun w=>?_) h;simp[Builtin.len_,qy hu,goInt]
   ·rename_i n e hk
    rw[hk] at hu;simp only[KOk] at hu;refine fin _ (fun w=>?_) h;simp[Builtin.len_,qy hu,goInt]
   ·rename_i kt et hk
    rw[hk] at hu;simp only[KOk] at hu;cases hx;refine fin _ (fun w=>?_) h.2;simp[Builtin.len_,qy hu,goInt]
   ·rename_i kt et b hk
    rw[hk] at hu;simp only[KOk] at hu;obtain ⟨hlm,h⟩:=h;unfold zG at h;split at h
    ·rename_i wr es c hb
     rw[qV] at hb;obtain ⟨r,es',rfl,hm,hw,her⟩:=xH hh hx hb;have hl:es.length=es'.size:=by rw[<- Array.length_toList];exact her.1
     refine⟨_, .int .i64 es.length,h,fun w' he=>zf hop (fun cs=>?_), .int _ _⟩
     have hw' : w'.heap[r]? = some (.map es' c):=by
      rw[(he (by rw[hop];exact hlm)).2 r (lt_of_some hw)];exact hw
     rw[hl];simp[builtin,Builtin.len_,qy hu,vX hw',goInt,hux]
    ·exact h.elim
   ·exact h.elim
  ·exact h.elim
 ·exact h.elim

theorem s_max {args:Array Operand} {ats:Array TypeId} (hop:o.op = .call { callee := .builtin .max,args,argTypes:=ats }) (h:qC P T (.call { callee := .builtin .max,args,argTypes:=ats }) sl H K):OpV P o sl H K:=by
 intro m aR w hs hh;simp only[qC] at h;split at h
 ·rename_i x y ha
  have ha:=arr2 ha;subst ha;split at h
  ·rename_i k a j b hx hy
   split at h
   ·rename_i hk
    have:=vU hk;subst this;have ex:=qH hs hx;have ey:=qH hs hy;generalize hux:aR.eval x=ux at ex;generalize huy:aR.eval y=uy at ey;cases ex;cases ey;refine⟨_,_,h,fun w' _=>zf hop (fun cs=>?_), .int _ _⟩;have e:(if b > a then b else a)=max a b:=by rw[Int.max_def];split <;> split <;> omega
    simp only[builtin];simp[Builtin.max_,Builtin.max2,hux,huy];exact e
   ·exact h.elim
  ·exact h.elim
 ·rename_i x y z ha
  have ha:args = #[x,y,z]:=by cases args;simp_all
  subst ha;split at h
  ·rename_i k a j b i c hx hy hz
   split at h
   ·rename_i hk
    rw[Bool.and_eq_true] at hk;have h1:=vU hk.1;subst h1;have h2:=vU hk.2;subst h2;have ex:=qH hs hx;have ey:=qH hs hy;have ez:=qH hs hz;generalize hux:aR.eval x=ux at ex;generalize huy:aR.eval y=uy at ey;generalize huz:aR.eval z=uz at ez;cases ex;cases ey;cases ez;refine⟨_,_,h,fun w' _=>zf hop (fun cs=>?_), .int _ _⟩;have e1:(if b > a then b else a)=max a b:=by rw[Int.max_def];split <;> split <;> omega
    have e2:(if c > max a b then c else max a b)=max (max a b) c:=by rw[Int.max_def (max a b)];split <;> split <;> omega
    simp only[builtin];simp only[gt_iff_lt] at e1 e2;simp[Builtin.max_,Builtin.max2,hux,huy,huz,e1,e2]
   ·exact h.elim
  ·exact h.elim
 ·exact h.elim

theorem s_min {args:Array Operand} {ats:Array TypeId} (hop:o.op = .call { callee := .builtin .min,args,argTypes:=ats }) (h:qC P T (.call { callee := .builtin .min,args,argTypes:=ats }) sl H K):OpV P o sl H K:=by
 intro m aR w hs hh;simp only[qC] at h;split at h
 ·rename_i x y ha
  have ha:=arr2 ha;subst ha;split at h
  ·rename_i k a j b hx hy
   split at h
   ·rename_i hk
    have:=vU hk;subst this;have ex:=qH hs hx;have ey:=qH hs hy;generalize hux:aR.eval x=ux at ex;generalize huy:aR.eval y=uy at ey;cases ex;cases ey;refine⟨_,_,h,fun w' _=>zf hop (fun cs=>?_), .int _ _⟩;have e:(if b<a then b else a)=min a b:=by rw[Int.min_def];split <;> split <;> omega
    simp only[builtin];simp[Builtin.min_,Builtin.min2,hux,huy];exact e
   ·exact h.elim
  ·exact h.elim
 ·rename_i x y z ha
  have ha:args = #[x,y,z]:=by cases args;simp_all
  subst ha;split at h
  ·rename_i k a j b i c hx hy hz
   split at h
   ·rename_i hk
    rw[Bool.and_eq_true] at hk;have h1:=vU hk.1;subst h1;have h2:=vU hk.2;subst h2;have ex:=qH hs hx;have ey:=qH hs hy;have ez:=qH hs hz;generalize hux:aR.eval x=ux at ex;generalize huy:aR.eval y=uy at ey;generalize huz:aR.eval z=uz at ez;cases ex;cases ey;cases ez;refine⟨_,_,h,fun w' _=>zf hop (fun cs=>?_), .int _ _⟩;have e1:(if b<a then b else a)=min a b:=by rw[Int.min_def];split <;> split <;> omega
    have e2:(if c<min a b then c else min a b)=min (min a b) c:=by rw[Int.min_def (min a b)];split <;> split <;> omega
    simp only[builtin];simp[Builtin.min_,Builtin.min2,hux,huy,huz,e1,e2]
   ·exact h.elim
  ·exact h.elim
 ·exact h.elim


theorem zA0 {m:LM} {w:World} {ts tx ty e:TypeId} {j:TI} {k:IntKind} {s x sR xR:Value} {K:Value->List Blk->Prop} (hts:P.underlying ts=some (.slice e)) (htx:P.underlying tx=some (.int k)) (hj:TIOk P e j)
 (h0:0<j.size) (hzl:(qG j.zero).length=j.size) (hH:HRel m H w) (hs:VRel m s sR) (hx:VRel m x xR) (h:zApp H j.size j.bytes (qG j.zero) s x K) :
 ∃ vR w',(Builtin.append_ #[ts,tx] ty #[sR,xR]).run P w = .ok vR w' /\ zW m H w K vR w' := by
 obtain ⟨ji,hji,hsz,hby,hze⟩:=hj.infoEx;have hi64:IntKind.i64.max=9223372036854775807:=by decide
 have hzc:j.zero.cells.size=j.size:=by rw[<- hzl,wF];simp
 unfold zApp at h;split at h
 ·rename_i kx v
  cases hs;cases hx;obtain ⟨n,rfl,h⟩:=h;rcases h with ⟨rfl,hk⟩ | ⟨hn,hb,hk⟩
  ·refine⟨.slice none 0 0,w, ?_,_,_,m,hk, .nilslice,hH, .refl _ _ _ _⟩
   have hw:IntKind.i64.wrap 0=0:=by decide
   simp[Builtin.append_,qy hts,qy htx,sizeOf,typeInfo,hji,asInt,asIntOf,hw]
  ·have hb1:n*j.bytes<=70368744177664:=Nat.le_trans (Nat.mul_le_mul_left _ (Nat.le_succ _)) hb
   have hb2:n<=70368744177664:=by rw[Nat.mul_succ] at hb;omega
   have hw:IntKind.i64.wrap (n:Int)=(n:Int):=wrap_i64 (by unfold I64;omega)
   have hcap:Builtin.nextslicecap n 0*ji.bytes<=2 ^ 48:=by
    rw[hby];refine Nat.le_trans (Nat.mul_le_mul_right _ (Go.nextslicecap_le (by omega))) ?_;rw[Nat.mul_assoc];omega
   have hneg : ¬ ((n:Int)<0):=by omega
   have h48 : ¬ ((n:Int)*(ji.bytes:Int) > 2 ^ 48):=by rw[hby];have:(((n*j.bytes:Nat)):Int)=(n:Int)*(j.bytes:Int):=by simp
                                                      omega
   have h48' : ¬ (Builtin.nextslicecap n 0*ji.bytes > 2 ^ 48):=by omega
   have h63 : ¬ ((n:Int) > IntKind.i64.max):=by rw[hi64];omega
   have hnz : ¬ (n*ji.size=0):=by rw[hsz];have:=Nat.mul_pos hn h0;omega
   have hle : ¬ (0+n<=0):=by omega
   have zr:=WE hj hzl h0 m n
   have hr : ∃ kk,(Builtin.append_ #[ts,tx] ty #[.slice none 0 0, .int kx (n:Int)]).run P w = .ok (.slice (some ⟨w.heap.size,0,none⟩) n (n+kk)) { w with heap:=w.heap.push (.cells (Builtin.zeroCells j.zero.cells n++Builtin.zeroCells j.zero.cells kk) e),drawn:=w.drawn+1 }:=by
    refine⟨w.tape w.drawn (.appendCap n 0 e) % (2 ^ 63-n), ?_⟩;simp[Builtin.append_,qy hts,qy htx,sizeOf,typeInfo,hji,asInt,asIntOf,hw,hneg,h48,h48',h63,hnz,hn,Nat.pos_iff_ne_zero.1 hn,Qs,run_askRoom,Builtin.firstCells,loadCells,loadCellsFrom,zeroValue,hze,newRow,run_newObj];have a1 : ¬ (281474976710656<(n:Int)*(ji.bytes:Int)):=by omega
    have a2 : ¬ (9223372036854775807<(n:Int)):=by omega
    have a3 : ¬ (281474976710656<Builtin.nextslicecap n 0*ji.bytes):=by omega
    simp[a1,a2,a3,Question.forced,Question.cut];rfl
   obtain ⟨kk,hr⟩:=hr;refine⟨_,_,hr, ?_⟩;have hz:=yz j.zero.cells n;have hz2:=yz j.zero.cells kk
   exact wd0 (e:=e) (d:=w.drawn+1) (nR:=n+kk) hH h0 (by omega) (by simp[hz,hz2,hzc,Nat.add_mul]) (n:=n)
    (fun i v hv=>by
      obtain ⟨v',g1,g2⟩:=zr.getArr hv
      exact⟨v',by rw[Array.getElem?_append_left (Array.getElem?_eq_some_iff.1 g1).1];exact g1,g2⟩) hk
 ·exact h.elim
theorem zW0 (hT:TOk P T) {args:Array Operand} {ats:Array TypeId} (hop:o.op = .call { callee := .builtin .append,args,argTypes:=ats }) (h:qC P T (.call { callee := .builtin .append,args,argTypes:=ats }) sl H K):OpS P o sl H K:=by
 simp only[qC] at h;split at h
 ·rename_i s x ts tx ha ht
  have ha:=arr2 ha;have ht:=arr2 ht;subst ha;subst ht;split at h
  ·rename_i i ix sv xv hi hix hsv hxv
   split at h
   ·rename_i e hk
    have hu:=(hT.get hi).und;rw[hk] at hu;simp only[KOk] at hu;split at h
    ·rename_i j hj
     have core : ∀ dx,P.underlying tx=some dx->(dx = .string\/∃ e',dx = .slice e')->(qG j.zero).length=j.size/\qB H j.size j.bytes sv xv K->OpS P o sl H K:=by
      intro dx hdx hor ⟨hz,ha⟩ m aR w hs hh;obtain ⟨vR,w',h1,v,H',m',h2,h3,h4,h5⟩:=vd0 (P:=P) (ty:=o.type) hu hdx hor (hT.get hj) hz hh (qH hs hsv) (qH hs hxv) ha;exact⟨_,w',zf hop (fun cs=>by simp only[builtin];simp[h1]),v,H',m',h2,h3,h4,h5⟩
     split at h
     ·rename_i e' hk'
      have hu' := (hT.get hix).und;rw[hk'] at hu'; simp only[KOk] at hu';exact core _ hu' (.inr ⟨_,rfl⟩) h
     ·rename_i hk'
      have hu' := (hT.get hix).und;rw[hk'] at hu'; simp only[KOk] at hu';exact core _ hu' (.inl rfl) h
     ·rename_i k hk'
      have hu' := (hT.get hix).und;rw[hk'] at hu'; simp only[KOk] at hu';obtain ⟨⟨h0,hz⟩,ha⟩:=h;intro m aR w hs hh;obtain ⟨vR,w',h1,v,H',m',h2,h3,h4,h5⟩:=zA0 (P:=P) (ty:=o.type) hu hu' (hT.get hj) h0 hz hh (qH hs hsv) (qH hs hxv) ha;exact⟨_,w',zf hop (fun cs=>by simp only[builtin];simp[h1]),v,H',m',h2,h3,h4,h5⟩
     ·exact h.elim
    ·exact h.elim
   ·exact h.elim
  ·exact h.elim
 ·exact h.elim

def uC:Op->Bool
 | .move _ | .assign _ | .pick .. | .build .. | .load .. | .nilCheck _ | .binOp .. | .unOp .. | .makeInterface .. | .makeFunc .. | .slice .. | .fieldAddr .. | .field .. | .indexAddr .. | .index .. | .typeAssert .. | .extract .. | .lookup .. => true
 | .call { callee := .builtin .len, .. } | .call { callee := .builtin .max, .. } | .call { callee := .builtin .min, .. }=>true
 | .convert s d _ => !Nat.beq s d
 | _=>false

theorem yL (hT:TOk P T) (hv:uC o.op=true) (h:qC P T o.op sl H K):OpV P o sl H K/\Op.isDefer o.op=false:=by
 generalize hop:o.op=op at h hv;cases op <;> try (cases hv;done)
 case move x=>exact⟨yv0 (.inl hop) h,rfl⟩
 case assign x=>exact⟨yv0 (.inr hop) h,rfl⟩
 case pick=>exact⟨s_pick hop h,rfl⟩
 case build=>exact⟨uu0 hT hop h,rfl⟩
 case load=>exact⟨s_load hT hop h,rfl⟩
 case nilCheck=>exact⟨qI0 hop h,rfl⟩
 case binOp=>exact⟨uw0 hT hop h,rfl⟩
 case unOp=>exact⟨s_unOp hop h,rfl⟩
 case convert s d x=>exact⟨vI0 hT hop (by simpa [uC] using hv) h,rfl⟩
 case makeInterface=>exact⟨WQ hT hop h,rfl⟩
 case makeFunc=>exact⟨qK0 hop h,rfl⟩
 case slice=>exact⟨up0 hT hop h,rfl⟩
 case fieldAddr=>exact⟨YZ hT hop h,rfl⟩
 case field=>exact⟨us0 hT hop h,rfl⟩
 case indexAddr=>exact⟨YY hT hop h,rfl⟩
 case index=>exact⟨ur0 hT hop h,rfl⟩
 case typeAssert=>exact⟨Ya hT hop h,rfl⟩
 case extract=>exact⟨vH0 hop h,rfl⟩
 case lookup=>exact⟨zU0 hT hop h,rfl⟩
 case call c =>
  obtain ⟨callee,args,ats⟩:=c
  cases callee with
  | value f=>cases hv
  | invoke r n=>cases hv
  | builtin b =>
    cases b <;> try (cases hv;done)
    case len=>exact⟨s_len hT hop h,rfl⟩
    case max=>exact⟨s_max hop h,rfl⟩
    case min=>exact⟨s_min hop h,rfl⟩

theorem QM (hT:TOk P T) (h:qC P T o.op sl H K):OpS P o sl H K/\Op.isDefer o.op=false:=by
 by_cases hv:uC o.op=true
 ·have:=yL hT hv h;exact⟨this.1.ops,this.2⟩
 ·generalize hop:o.op=op at h hv
  cases op <;> try (exact absurd rfl hv)
  case alloc=>exact⟨(vJ0 hT hop h).ext.ops,rfl⟩
  case box=>exact⟨(s_box hop h).ext.ops,rfl⟩
  case buildSlice=>exact⟨(VQ hT hop h).ext.ops,rfl⟩
  case store=>exact⟨uo0 hT hop h,rfl⟩
  case convert=>exact⟨qL0 hT hop h,rfl⟩
  case makeSlice=>exact⟨(WP hT hop h).ext.ops,rfl⟩
  case call c =>
   obtain ⟨callee,args,ats⟩:=c
   cases callee with
   | value f=>exact h.elim
   | invoke r n=>exact h.elim
   | builtin b =>
     cases b <;> try (exact absurd rfl hv)
     case append=>exact⟨zW0 hT hop h,rfl⟩
     all_goals exact⟨uv0 hT hop h,rfl⟩
  case makeMap=>exact⟨uJ hT (by rw[hop];exact h),rfl⟩
  case mapUpdate=>exact⟨uJ hT (by rw[hop];exact h),rfl⟩
  case insert=>exact⟨uJ hT (by rw[hop];exact h),rfl⟩
  case mapEntry=>exact⟨uJ hT (by rw[hop];exact h),rfl⟩
  case entryStore=>exact⟨uJ hT (by rw[hop];exact h),rfl⟩
  case range=>exact⟨uJ hT (by rw[hop];exact h),rfl⟩
  case next=>exact⟨uJ hT (by rw[hop];exact h),rfl⟩
  case entry=>exact⟨uJ hT (by rw[hop];exact h),rfl⟩
  all_goals exact h.elim

def QO:Op->Bool
 | .alloc _ | .box .. | .buildSlice .. | .makeSlice .. => true
 | _=>false
theorem QN (hT:TOk P T) (hv:QO o.op=true) (h:qC P T o.op sl H K):OpA P o sl H K/\Op.isDefer o.op=false:=by
 generalize hop:o.op=op at h hv;cases op <;> try (cases hv;done)
 case alloc=>exact⟨vJ0 hT hop h,rfl⟩
 case box=>exact⟨s_box hop h,rfl⟩
 case buildSlice=>exact⟨VQ hT hop h,rfl⟩
 case makeSlice=>exact⟨WP hT hop h,rfl⟩

end
end Go.Af
namespace Go.Af
open Go
variable {H:List Blk}
variable {rd:Bool}

def qj (P:Program) (f:FuncId) (args:List Value) (H:List Blk) (R:Value->List Blk->Prop):Prop :=
 (∀ (as:Array Value) (w:World),(callFunc f as).run P w = .ok (.enter f as) w) /\
 ∀ (m:LM) (argsR:Array Value) (w:World),LRel m args argsR.toList->HRel m H w->Enters P (Frame.enter P f argsR .normal) w (zW m H w R)

def qK (P:Program) (l:Nat) (args:List Value) (H:List Blk) (R:Value->List Blk->Prop):Prop :=
 ∀ (m:LM) (argsR:Array Value) (w:World) (r:Nat),m l=some (.obj r)->LRel m args argsR.toList->HRel m H w->∃ nx w1,(Instr.yield r argsR).run P w = .ok nx w1/\zU P nx w1 (zW m H w R)

def qE (P:Program) (t:TypeId) (v:Value) (name:String) (args:List Value) (H:List Blk) (R:Value->List Blk->Prop):Prop :=
 ∃ f,(∀ (v:Value) (w:World),(method (P.types.size+Made.depth) t v name).run P w = .ok (f,v) w)/\qj P f (v::args) H R

def AVal (P:Program) (fv:Value) (args:List Value) (H:List Blk) (R:Value->List Blk->Prop):Prop :=
 match fv with
 | .func (.func f) first captured=>qj P f (first.toList++(args++captured.toList)) H R
 | .func (.yield l) first _=>match first.toList with
   | []=>qK P l args H R
   | _::_=>False
 | .func (.method name) first _=>match first.toList with
   | [.iface t v]=>qE P t v name args H R
   | _=>False
 | _=>False

theorem zW.mono {m:LM} {w:World} {R R' : Value->List Blk->Prop} {v:Value} {w' : World} (h:zW m H w R v w') (hr : ∀ v H,R v H->R' v H):zW m H w R' v w' :=
 let ⟨v,H',m',h1,h2⟩:=h; ⟨v,H',m',hr _ _ h1,h2⟩

theorem qj.mono {P:Program} {f:FuncId} {args:List Value} {R R' : Value->List Blk->Prop} (h:qj P f args H R) (hr : ∀ v H,R v H->R' v H):qj P f args H R' :=
 ⟨h.1,fun m argsR w h1 h2=>(h.2 m argsR w h1 h2).mono fun _ _ h=>h.mono hr⟩

def ZA (P:Program) (T:TT) (o:Op) (sl:List (Nat × Value)) (H:List Blk) (K:Value->List Blk->Prop):Prop :=
 match o with
 | .call c=>match c.callee with
   | .value fo=>match ev sl fo,evs sl c.args.toList with
     | some fv,some args=>AVal P fv args H K
     | _,_=>False
   | .invoke r name=>match ev sl r,evs sl c.args.toList with
     | some (.iface t v),some args=>qE P t v name args H K
     | _,_=>False
   | .builtin _=>qC P T o sl H K
 | o=>qC P T o sl H K

section
variable {P:Program} {T:TT} {sl:List (Nat × Value)} {H:List Blk} {K:Value->List Blk->Prop} {o:Oper}

theorem qE.run {t:TypeId} {v vR:Value} {name:String} {args:List Value} {argsR:Array Value} {R:Value->List Blk->Prop} {m:LM} {w:World} (h:qE P t v name args H R) (hv:VRel m v vR) (ha:LRel m args argsR.toList) (hh:HRel m H w) :
 ∃ nx,(callMethod (.iface t vR) name argsR).run P w = .ok nx w/\zU P nx w (zW m H w R):=by
 obtain ⟨f,h1,h2,h3⟩:=h;refine⟨.enter f (#[vR]++argsR),by simp[callMethod,h1,h2], ?_⟩;exact h3 m (#[vR]++argsR) w (by simpa using LRel.cons hv ha) hh

theorem ut (hT:TOk P T) (h:ZA P T o.op sl H K):OpS P o sl H K/\Op.isDefer o.op=false:=by
 unfold ZA at h;split at h
 ·rename_i c hop
  obtain ⟨callee,args,ats⟩:=c;split at h
  ·rename_i fo hcal
   simp only at hcal;subst hcal;split at h
   ·rename_i fv as hf ha
    refine⟨fun m aR w hs hh=>?_,by rw[hop];rfl⟩;have rf:=qH hs hf;have ra:=QI hs ha;unfold AVal at h;split at h
    ·rename_i f first captured
     obtain ⟨f',xs',ys',he,hfr,hx,hy⟩:=rf.inv_func;cases hfr;obtain ⟨h1,h2⟩:=h;refine⟨.enter f (xs' ++ args.map aR.eval++ys'),w, ?_, ?_⟩
     ·simp only[execOp,hop,resolve,he,Deferred.ofValue,Sem.run_bind,Sem.run_pure,Result.andThen_ok,invoke,h1]
     ·refine h2 m _ w ?_ hh
      have:=hx.append ((by simpa using ra:LRel m as (args.map aR.eval).toList).append hy)
      simpa using this
    ·rename_i l first captured
     split at h
     ·rename_i hfst
      obtain ⟨f',xs',ys',he,hfr,hx,hy⟩:=rf.inv_func;rw[hfst] at hx;have hx' : xs' = #[]:=by have:=hx.inv_nil;simpa using this
      subst hx'
      cases hfr with
      | same _ hne=>exact absurd rfl (hne l)
      | yield _ r hm =>
      obtain ⟨nx,w1,h1,h2⟩:=h m (args.map aR.eval) w r hm (by simpa using ra) hh;refine⟨nx,w1, ?_,h2⟩;simp only[execOp,hop,resolve,he,Deferred.ofValue,Sem.run_bind,Sem.run_pure,Result.andThen_ok,invoke,Array.empty_append,h1]
     ·exact h.elim
    ·rename_i name first captured
     split at h
     ·rename_i t v hfst
      obtain ⟨f',xs',ys',he,hfr,hx,hy⟩:=rf.inv_func;rw[hfst] at hx;obtain ⟨y,ys'',e1,hvy,hnil⟩:=hx.inv_cons;have hnil:=hnil.inv_nil;subst hnil
      cases hvy with
      | iface _ _ v' hvv =>
      have e1:=arr1 e1;subst e1;cases hfr;obtain ⟨nx,h1,h2⟩:=h.run hvv (by simpa using ra:LRel m as (args.map aR.eval).toList) hh;refine⟨nx,w, ?_,h2⟩;simp only[execOp,hop,resolve,he,Deferred.ofValue,Sem.run_bind,Sem.run_pure,Result.andThen_ok,invoke];have e0:(#[Value.iface t v']++args.map aR.eval)[0]? = some (Value.iface t v'):=by rw[Array.getElem?_append_left (by simp)];rfl
      have e2:(#[Value.iface t v']++args.map aR.eval).extract 1 (#[Value.iface t v']++args.map aR.eval).size=args.map aR.eval:=by
       apply Array.ext'
       simp[List.extract_eq_take_drop];exact List.take_of_length_le (by simp)
      simp only[e0,e2,h1]
     ·exact h.elim
    ·exact h.elim
   ·exact h.elim
  ·rename_i r name hcal
   simp only at hcal;subst hcal;split at h
   ·rename_i t v as hr ha
    refine⟨fun m aR w hs hh=>?_,by rw[hop];rfl⟩;have rr:=qH hs hr;have ra:=QI hs ha;generalize hur:aR.eval r=ur at rr
    cases rr with
    | iface _ _ v' hvv =>
    obtain ⟨nx,h1,h2⟩:=h.run hvv (by simpa using ra:LRel m as (args.map aR.eval).toList) hh;refine⟨nx,w, ?_,h2⟩;simp only[execOp,hop,resolve,hur,Sem.run_bind,Sem.run_pure,Result.andThen_ok,invoke];have e0:(#[Value.iface t v']++args.map aR.eval)[0]? = some (Value.iface t v'):=by rw[Array.getElem?_append_left (by simp)];rfl
    have e2:(#[Value.iface t v']++args.map aR.eval).extract 1 (#[Value.iface t v']++args.map aR.eval).size=args.map aR.eval:=by
     apply Array.ext'
     simp[List.extract_eq_take_drop];exact List.take_of_length_le (by simp)
    simp only[e0,e2,h1]
   ·exact h.elim
  ·exact QM hT h
 ·exact QM hT h

/-! ### Calls that at most make more memory -/

def qI (P:Program) (f:FuncId) (args:List Value) (H:List Blk) (R:Value->List Blk->Prop):Prop :=
 (∀ (as:Array Value) (w:World),(callFunc f as).run P w = .ok (.enter f as) w) /\
 ∀ (m:LM) (argsR:Array Value) (w:World),LRel m args argsR.toList->HRel m H w->Enters P (Frame.enter P f argsR .normal) w (fun vR w' => zW m H w R vR w' /\ ExtW w w')

theorem qI.mono {P:Program} {f:FuncId} {args:List Value} {R R' : Value->List Blk->Prop} (h:qI P f args H R) (hr : ∀ v H,R v H->R' v H):qI P f args H R' :=
 ⟨h.1,fun m argsR w h1 h2=>(h.2 m argsR w h1 h2).mono fun _ _ h=>⟨h.1.mono hr,h.2⟩⟩
theorem qI.call {P:Program} {f:FuncId} {args:List Value} {R:Value->List Blk->Prop} (h:qI P f args H R):qj P f args H R :=
 ⟨h.1,fun m argsR w h1 h2=>(h.2 m argsR w h1 h2).mono fun _ _ h=>h.1⟩

def yp0 (P:Program) (t:TypeId) (v:Value) (name:String) (args:List Value) (H:List Blk) (R:Value->List Blk->Prop):Prop :=
 ∃ f,(∀ (v:Value) (w:World),(method (P.types.size+Made.depth) t v name).run P w = .ok (f,v) w)/\qI P f (v::args) H R

def Zw (P:Program) (T:TT) (o:Op) (sl:List (Nat × Value)) (H:List Blk) (K:Value->List Blk->Prop):Prop :=
 match o with
 | .call c=>match c.callee with
   | .value fo=>match ev sl fo,evs sl c.args.toList with
     | some (.func (.func f) first captured),some args=>qI P f (first.toList++(args++captured.toList)) H K
     | _,_=>False
   | .invoke r name=>match ev sl r,evs sl c.args.toList with
     | some (.iface t v),some args=>yp0 P t v name args H K
     | _,_=>False
   | .builtin _=>match uC (.call c) with
     | true=>qC P T (.call c) sl H K
     | false=>False
 | o=>match uC o||QO o with
   | true=>qC P T o sl H K
   | false=>False

theorem WG {P:Program} {T:TT} {sl:List (Nat × Value)} {H:List Blk} {K:Value->List Blk->Prop} {o:Oper} (hT:TOk P T) (h:Zw P T o.op sl H K):OpX P o sl H K/\Op.isDefer o.op=false:=by
 unfold Zw at h;split at h
 ·rename_i c hop
  obtain ⟨callee,args,ats⟩:=c;split at h
  ·rename_i fo hcal
   simp only at hcal;subst hcal;split at h
   ·rename_i f first captured as hf ha
    refine⟨fun m aR w hs hh=>?_,by rw[hop];rfl⟩;have rf:=qH hs hf;have ra:=QI hs ha;obtain ⟨f',xs',ys',he,hfr,hx,hy⟩:=rf.inv_func;cases hfr;obtain ⟨h1,h2⟩:=h;refine⟨.enter f (xs' ++ args.map aR.eval++ys'),w, ?_, ?_⟩
    ·simp only[execOp,hop,resolve,he,Deferred.ofValue,Sem.run_bind,Sem.run_pure,Result.andThen_ok,invoke,h1]
    ·refine h2 m _ w ?_ hh
     have:=hx.append ((by simpa using ra:LRel m as (args.map aR.eval).toList).append hy)
     simpa using this
   ·exact h.elim
  ·rename_i r name hcal
   simp only at hcal;subst hcal;split at h
   ·rename_i t v as hr ha
    refine⟨fun m aR w hs hh=>?_,by rw[hop];rfl⟩;have rr:=qH hs hr;have ra:=QI hs ha;generalize hur:aR.eval r=ur at rr
    cases rr with
    | iface _ _ v' hvv =>
    obtain ⟨f,h1,h2,h3⟩:=h;refine⟨.enter f (#[v']++args.map aR.eval),w, ?_,h3 m _ w (by simpa using LRel.cons hvv (by simpa using ra)) hh⟩;simp only[execOp,hop,resolve,hur,Sem.run_bind,Sem.run_pure,Result.andThen_ok,invoke];have e0:(#[Value.iface t v']++args.map aR.eval)[0]? = some (Value.iface t v'):=by rw[Array.getElem?_append_left (by simp)];rfl
    have e2:(#[Value.iface t v']++args.map aR.eval).extract 1 (#[Value.iface t v']++args.map aR.eval).size=args.map aR.eval:=by
     apply Array.ext'
     simp[List.extract_eq_take_drop];exact List.take_of_length_le (by simp)
    simp only[e0,e2];simp[callMethod,h1,h2]
   ·exact h.elim
  ·split at h
   ·rename_i hv
    rw[<- hop] at hv h;have:=yL hT hv h;exact⟨this.1.ext,this.2⟩
   ·exact h.elim
 ·split at h
  ·rename_i hv
   simp only[Bool.or_eq_true] at hv;rcases hv with hv | hv
   ·have:=yL hT hv h;exact⟨this.1.ext,this.2⟩
   ·have:=QN hT hv h;exact⟨this.1.ext,this.2⟩
  ·exact h.elim

/-! ### Regions -/

def putK (n:Nat) (dst:Option Tmp) (v:Value) (sl:List (Nat × Value)) (K:List (Nat × Value)->Prop):Prop :=
 match dst with
 | none=>K sl
 | some d=>match Nat.blt d n with
   | true=>K ((d,v)::sl)
   | false=>False

theorem zx.put {m:LM} {sl:List (Nat × Value)} {t:Array Value} (h:zx m sl t) {d:Nat} {v vR:Value} (hd:d<t.size) (hv:VRel m v vR):zx m ((d,v)::sl) (t.setIfInBounds d vR):=by
 intro s u hu;simp only[look] at hu;rw[Array.getElem?_setIfInBounds];split at hu
 ·rename_i hb
  cases hu;have:=Nat.eq_of_beq_eq_true hb;subst this;simp[hd];exact hv
 ·rename_i hb
  have hne:d≠s:=fun e=>by subst e;simp at hb
  obtain ⟨v',h1,h2⟩:=h s u hu;exact⟨v',by simp[hne,h1],h2⟩

theorem xO {n:Nat} {dst:Option Tmp} {v vR:Value} {sl:List (Nat × Value)} {K:List (Nat × Value)->Prop} {m:LM} {aR:Act} (h:putK n dst v sl K) (hs:zx m sl aR.tmps) (hn:aR.tmps.size=n) (hv:VRel m v vR) :
 ∃ sl',K sl' /\ zx m sl' (aR.put dst vR).tmps/\(aR.put dst vR).tmps.size=n/\(aR.put dst vR).defers=aR.defers:=by
 unfold putK at h;split at h
 ·exact⟨sl,h,hs,hn,rfl⟩
 ·rename_i d
  split at h
  ·rename_i hb
   have hd:d<n:=Nat.le_of_ble_eq_true hb;exact⟨_,h,hs.put (t:=aR.tmps) (hn ▸ hd) hv,by simp[Act.put,hn],rfl⟩
  ·exact h.elim

def qX0:List Oper->Nat->Option Tmp
 | [],_=>none
 | o::_,0=>o.dst
 | _::r,n+1=>qX0 r n
theorem qn0 : ∀ (l:List Oper) (n:Nat),qX0 l n=(l[n]?).bind (·.dst)
 | [],_=>by simp[qX0]
 | o::_,0=>rfl
 | o::r,n+1=>by simpa [qX0] using qn0 r n

def uB (all:List Oper) (g:Option (Nat × Bool)) (sl:List (Nat × Value)) (yes no:List (Nat × Value)->Prop):Prop :=
 match g with
 | none=>yes sl
 | some (j,want)=>match qX0 all j with
   | none=>False
   | some d=>match look sl d with
     | some (.bool b)=>(b=want->yes ((d, .bool want)::sl))/\(b=(!want)->no ((d, .bool (!want))::sl))
     | some (.tuple _)=>no sl
     | _=>False

def vops (P:Program) (T:TT) (n:Nat) (all:List Oper):List Oper->(List (Nat × Value)->List Blk->Prop)->List (Nat × Value)->List Blk->Prop
 | [],K,sl,H=>K sl H
 | o::rest,K,sl,H=>uB all o.guard sl (fun sl=>ZA P T o.op sl H (fun v H' => putK n o.dst v sl (fun sl' => vops P T n all rest K sl' H')))
    (fun sl=>putK n o.dst undef sl (fun sl' => vops P T n all rest K sl' H))

theorem zx.rebool {m:LM} {sl:List (Nat × Value)} {t:Array Value} (h:zx m sl t) {d:Nat} {b:Bool} (hd:look sl d=some (.bool b)):zx m ((d, .bool b)::sl) t:=by
 intro s u hu;simp only[look] at hu;split at hu
 ·rename_i hb
  cases hu;have:=Nat.eq_of_beq_eq_true hb;subst this;exact h d _ hd
 ·exact h s u hu

theorem yf {all:List Oper} {g:Option (Nat × Bool)} {sl:List (Nat × Value)} {yes no:List (Nat × Value)->Prop} {m:LM} {aR:Act} (h:uB all g sl yes no) (hs:zx m sl aR.tmps) (o:Oper) (ho:o.guard=g) :
 ∃ sl',zx m sl' aR.tmps/\((Region.wanted o (yielded all.toArray aR.tmps)=true/\yes sl')\/(Region.wanted o (yielded all.toArray aR.tmps)=false/\no sl')):=by
 unfold uB at h;split at h
 ·exact⟨sl,hs, .inl ⟨by simp[Region.wanted,ho],h⟩⟩
 ·rename_i j want
  split at h
  ·exact h.elim
  ·rename_i d hd
   rw[qn0] at hd;split at h
   ·rename_i b hl
    obtain ⟨v',h1,h2⟩:=hs d _ hl;cases h2;have hy:yielded all.toArray aR.tmps j=some b:=by simp[yielded,hd,h1]
    by_cases hb:b=want
    ·subst hb
     exact⟨_,hs.rebool hl, .inl ⟨by simp[Region.wanted,ho,hy],h.1 rfl⟩⟩
    ·have hb' : b = !want:=by cases b <;> cases want <;> simp_all
     subst hb';exact⟨_,hs.rebool hl, .inr ⟨by simp[Region.wanted,ho,hy],h.2 rfl⟩⟩
   ·rename_i xs hl
    obtain ⟨v',h1,h2⟩:=hs d _ hl;obtain ⟨ys,rfl,_⟩:=h2.inv_tuple;have hy:yielded all.toArray aR.tmps j=none:=by simp[yielded,hd,h1]
    exact⟨sl,hs, .inr ⟨by simp[Region.wanted,ho,hy],h⟩⟩
   ·exact h.elim

theorem Vw (hT:TOk P T) {all:List Oper} : ∀ (l:List Oper) (i:Nat) (_ : ∀ j,l[j]? = all[i+j]?) {K:List (Nat × Value)->List Blk->Prop} {a:AF} {H:List Blk} (_:vops P T a.n all l K a.sl H)
 {m:LM} {aR:Act} {w:World} (_:SRel m a H aR w) (b:FB) (k:List Item) (cs:List Frame),
 ∃ a' H' m' aR' w',K a'.sl H' /\ a'.n=a.n/\aR'.defers=aR.defers/\SRel m' a' H' aR' w' /\ Fr H.length m H w m' H' w' /\
   Steps P (lone (b.at aR (.inRegion all.toArray (List.range' i l.length)::k)) cs w) (lone (b.at aR' k) cs w')
 | [],i,_,K,a,H,h,m,aR,w,hs,b,k,cs=>⟨a,H,m,aR,w,h,rfl,rfl,hs, .refl _ _ _ _, .one yQ⟩
 | o::rest,i,hl,K,a,H,h,m,aR,w,hs,b,k,cs=>by
   simp only[vops] at h;have ho:all.toArray[i]? = some o:=by have:=hl 0;simp at this;simpa using this.symm
   have hl' : ∀ j,rest[j]? = all[i+1+j]? := fun j=>by have:=hl (j+1);simp at this;rw[this];congr 1;omega
   obtain ⟨sl',hsl,hg⟩:=yf (aR:=aR) h hs.sl o rfl;have e1:List.range' i (o::rest).length=i::List.range' (i+1) rest.length:=by simp[List.range'_succ]
   rcases hg with ⟨hw,hg⟩ | ⟨hw,hg⟩
   ·obtain ⟨ops,hnd⟩:=ut hT hg
    obtain ⟨nx,w1,hr,hn⟩:=ops m aR w hsl hs.heap;obtain ⟨vR,w2,⟨v,H',m',hk,hv,hh,hf⟩,hst⟩:=vX0 (P:=P) (b:=b) (k:=k) (cs:=cs) (rest:=List.range' (i+1) rest.length) ho hw hnd hr hn;have hle:m.le m' := hf.le hs.heap.dom;obtain ⟨sl2,hk2,hs2,hn2,hd2⟩:=xO (aR:=aR) hk (hsl.mono hle) hs.n hv;obtain ⟨a3,H3,m3,aR3,w3,q1,q2,q3,q4,q5,q6⟩:=Vw hT rest (i+1) hl' (a := { n:=a.n,sl:=sl2 }) hk2 (m:=m') (aR:=aR.put o.dst vR) (w:=w2) ⟨hn2,hs2,by rw[hd2];exact hs.df.keep hf.keep,hh⟩ b k cs;exact⟨a3,H3,m3,aR3,w3,q1,q2,q3.trans hd2,q4,hf.trans (q5.weaken (hf.len (Nat.le_refl _)) (Nat.le_refl _)),by rw[e1];exact hst.trans q6⟩
   ·obtain ⟨sl2,hk2,hs2,hn2,hd2⟩:=xO (aR:=aR) (vR:=undef) hg hsl hs.n (VRel.plain m 6 _ rfl)
    obtain ⟨a3,H3,m3,aR3,w3,q1,q2,q3,q4,q5,q6⟩:=Vw hT rest (i+1) hl' (a := { n:=a.n,sl:=sl2 }) hk2 (m:=m) (aR:=aR.put o.dst undef) (w:=w) ⟨hn2,hs2,by rw[hd2];exact hs.df,hs.heap⟩ b k cs;refine⟨a3,H3,m3,aR3,w3,q1,q2,q3.trans hd2,q4,q5, ?_⟩;rw[e1];have:=ZG (P:=P) (b:=b) (a:=aR) (k:=k) (cs:=cs) (w:=w) (ops:=all.toArray) (i:=i) (rest:=List.range' (i+1) rest.length) (by rw[ho];simpa using hw);rw[ho] at this;exact .head this q6

theorem vc0 (hT:TOk P T) {n0:Nat} {Q:Ex->AF->List Blk->Prop} {a:AF} {id:Nat} {ops:Array Oper} (h:vops P T a.n ops.toList ops.toList (fun sl H=>Q .normal { n:=a.n,sl:=sl } H) a.sl H) :
 awp P rd n0 (.region id ops false) Q a H:=by
 intro hn m aR w hs b k cs hb;obtain ⟨a',H',m',aR',w',q1,q2,q3,q4,q5,q6⟩:=Vw hT ops.toList 0 (fun j=>by simp) h hs b k cs;have ea:a' = { n:=a.n,sl:=a'.sl }:=by cases a'; simp_all
 refine⟨.normal,a',H',m',aR',w',by rw[ea];exact q1,q4,⟨q5.weaken hn (Nat.le_refl _), .of_eq q3⟩, .head vu0 ?_⟩;rw[List.range_eq_range']
 simpa using q6

end
end Go.Af
namespace Go.Af
open Go
variable {rd:Bool}

def zN (s:Nat):Option Loc->Option Loc
 | some (.cel r sh tot esz)=>some (.cel r (sh+s) tot esz)
 | o=>o

theorem xM (o:Option Loc):zN 0 o=o:=by
 unfold zN;split <;> rfl
theorem xu (s:Nat) (o:Option Loc):vI (zN s o)=vI o:=by
 unfold zN;split <;> rfl
theorem WN {s:Nat} {o:Option Loc} (h:zN s o=some .dead):o=some .dead:=by
 unfold zN at h;split at h
 ·cases h
 ·exact h

def LM.re (m:LM) (ι : List (Nat × Nat)):LM:=fun i =>
 match ι[i]? with
 | some (j,s)=>zN s (m j)
 | none=>none

def VRen (ι : List (Nat × Nat)) (v2 v:Value):Prop := ∀ (m:LM) (vR:Value),VRel m v vR->VRel (m.re ι) v2 vR
def LRen (ι : List (Nat × Nat)) (xs2 xs:List Value):Prop := ∀ (m:LM) (ys:List Value),LRel m xs ys->LRel (m.re ι) xs2 ys

section
variable {ι : List (Nat × Nat)}
theorem VRen.int (k:IntKind) (n:Int):VRen ι (.int k n) (.int k n):=fun m vR h=>by cases h;exact .int _ _
theorem VRen.ptr {b2 o2 b o s:Nat} (h : ι[b2]? = some (b,s)) (ho:o=s+o2):VRen ι (.pointer (some ⟨b2,o2,none⟩)) (.pointer (some ⟨b,o,none⟩)):=fun m vR hr=>by
 cases hr with
 | ptr _ _ r sh tot esz hm =>
   subst ho;have:m.re ι b2=some (.cel r (sh+s) tot esz):=by simp[LM.re,h,hm,zN]
   have:=VRel.ptr (m:=m.re ι) b2 o2 _ _ _ _ this
   rwa [Nat.add_assoc] at this
 | ptrDead _ _ a hm=>exact .ptrDead _ _ _ (by simp[LM.re,h,hm,zN])

theorem VRen.slice {b2 o2 b o s l c2 c:Nat} (h : ι[b2]? = some (b,s)) (ho:o=s+o2) (hc:c2<=c):VRen ι (.slice (some ⟨b2,o2,none⟩) l c2) (.slice (some ⟨b,o,none⟩) l c):=fun m vR hr=>by
 subst ho
 cases hr with
 | slice _ _ r sh tot esz _ _ c' hm hcc hl =>
   have:m.re ι b2=some (.cel r (sh+s) tot esz):=by simp[LM.re,h,hm,zN]
   have:=VRel.slice (m:=m.re ι) b2 o2 _ _ _ _ l c2 c' this (Nat.le_trans hc hcc) (by rcases hl with hl | hl;exact .inl hl;exact .inr (by omega))
   rwa [Nat.add_assoc] at this
 | sliceZero _ _ a =>
   have:c2=0:=by omega
   subst this;exact .sliceZero _ _ _
 | sliceDead _ _ _ _ c' a hm hcc=>exact .sliceDead _ _ _ _ _ _ (by simp[LM.re,h,hm,zN]) (Nat.le_trans hc hcc)

theorem LRen.nil:LRen ι [] []:=fun m ys h=>by have:=h.inv_nil;subst this;exact .nil _
theorem LRen.cons {x2 x:Value} {xs2 xs:List Value} (h:VRen ι x2 x) (hs:LRen ι xs2 xs):LRen ι (x2::xs2) (x::xs):=fun m ys hr=>by
 obtain ⟨y,ys',rfl,h1,h2⟩:=hr.inv_cons;exact .cons (h m _ h1) (hs m _ h2)
theorem VRen.agg {xs2 xs:Array Value} (h:LRen ι xs2.toList xs.toList):VRen ι (.agg xs2) (.agg xs):=fun m vR hr=>by
 obtain ⟨ys,rfl,hl⟩:=hr.inv_agg;exact .agg' (h m _ hl)
theorem VRen.func {f:Fn} {xs2 xs ys2 ys:Array Value} (hf : ∀ l,f ≠ .yield l) (h1:LRen ι xs2.toList xs.toList) (h2:LRen ι ys2.toList ys.toList):VRen ι (.func f xs2 ys2) (.func f xs ys):=fun m vR hr=>by
 obtain ⟨f',xs',ys',rfl,hfr,hx,hy⟩:=hr.inv_func
 cases hfr with
 | same _ _=>exact .func' (.same _ hf) (h1 m _ hx) (h2 m _ hy)
 | yield b r _=>exact absurd rfl (hf b)
end

def BRen (ι : List (Nat × Nat)) (s:Nat) (b2 b:Blk):Prop :=
 (b2.isRw=true->b.isRw=true)/\(b = .dead->b2 = .dead)/\∀ (m:LM) (l l' : Loc) (w:World),BRel m b l w->zN s (some l)=some l' -> BRel (m.re ι) b2 l' w

theorem BRen.cells {ι : List (Nat × Nat)} {s z:Nat} {wr2 wr:Bool} {vs2 vs:List Value} (hw:wr2=true->wr=true) (h : ∀ (i:Nat) (x2:Value),vs2[i]? = some x2->∃ x,vs[s+i]? = some x/\VRen ι x2 x):BRen ι s (.cells wr2 z vs2) (.cells wr z vs) :=
 ⟨hw,(fun h=>by cases h),fun m l l' w hb hl=>by
   cases l with
   | cel r sh tot esz =>
     simp only[zN,Option.some.injEq] at hl;subst hl;obtain ⟨c,e,f,h1,h2,h3,h4⟩:=hb;refine⟨c,e,f,h1,fun i x2 hx=>?_,h3,fun ht=>h4 (hw ht)⟩;obtain ⟨x,hx1,hx2⟩:=h i x2 hx;obtain ⟨v',g1,g2⟩:=h2 _ _ hx1;exact⟨v',by rw[Nat.add_assoc];exact g1,hx2 m _ g2⟩
   | obj r=>exact hb.elim
   | dead=>exact hb.elim⟩

theorem LRel.sl_re {ι : List (Nat × Nat)} {m:LM} {sl2 sl:List (Nat × Value)} {t:Array Value} (h:zx m sl t) (hr : ∀ s v2,look sl2 s=some v2->∃ v,look sl s=some v/\VRen ι v2 v):zx (m.re ι) sl2 t:=fun s v2 hv=>by
 obtain ⟨v,h1,h2⟩:=hr s v2 hv;obtain ⟨v',h3,h4⟩:=h s v h1;exact⟨v',h3,h2 m _ h4⟩

def zI (ι : List (Nat × Nat)) (H:List Blk):List (Nat × Nat)->List Blk->Prop
 | [],[]=>True
 | (j,s)::r,b2::r2=>(∃ b,bget H j=some b/\BRen ι s b2 b)/\zI ι H r r2
 | _,_=>False
theorem zI.get {ι : List (Nat × Nat)} {H:List Blk} : ∀ {r:List (Nat × Nat)} {r2:List Blk} (_:zI ι H r r2) {i j s:Nat} (_:r[i]? = some (j,s)), ∃ b b2,H[j]? = some b/\r2[i]? = some b2/\BRen ι s b2 b
 | [],[],_,i,j,s,hi=>by simp at hi
 | (j',s')::r,b2::r2,h,i,j,s,hi=>by
   cases i with
   | zero=>simp at hi;obtain ⟨rfl,rfl⟩:=hi;obtain ⟨b,h1,h2⟩:=h.1;exact⟨b,b2,by rw[<- qV];exact h1,rfl,h2⟩
   | succ i=>simp at hi;obtain ⟨b,b2',h1,h2,h3⟩:=h.2.get hi;exact⟨b,b2',h1,by simpa using h2,h3⟩
 | [],_::_,h,_,_,_,_=>h.elim
 | _::_,[],h,_,_,_,_=>h.elim
theorem zI.len {ι : List (Nat × Nat)} {H:List Blk} : ∀ {r:List (Nat × Nat)} {r2:List Blk} (_:zI ι H r r2),r.length=r2.length
 | [],[],_=>rfl
 | (_,_)::r,_::r2,h=>by simp[h.2.len]
 | [],_::_,h=>h.elim
 | _::_,[],h=>h.elim

def zw0 (ι : List (Nat × Nat)) (sl:List (Nat × Value)):List (Nat × Value)->Prop
 | []=>True
 | (k,v2)::r=>(∃ v,look sl k=some v/\VRen ι v2 v)/\zw0 ι sl r
theorem zw0.get {ι : List (Nat × Nat)} {sl:List (Nat × Value)} : ∀ {r:List (Nat × Value)} (_:zw0 ι sl r) (s:Nat) (v2:Value) (_:look r s=some v2), ∃ v,look sl s=some v/\VRen ι v2 v
 | [],_,_,_,h=>by cases h
 | (k,v)::r,h,s,v2,hl=>by
   simp only[look] at hl;split at hl
   ·rename_i hk;cases hl;have:=Nat.eq_of_beq_eq_true hk;subst this;exact h.1
   ·exact h.2.get s v2 hl

def VU:(Nat × Bool)->List (Nat × Nat)->List Blk->Bool
 | _,[],_=>true
 | _,_,[]=>true
 | (j,w),(j',_)::r,b::bs=>(!(Nat.beq j j') || !(w||b.isRw))&&VU (j,w) r bs
def injB:List (Nat × Nat)->List Blk->Bool
 | (j,_)::r,b::bs=>VU (j,b.isRw) r bs&&injB r bs
 | _,_=>true

theorem QC : ∀ {r:List (Nat × Nat)} {bs:List Blk} {j:Nat} {w:Bool} (_:VU (j,w) r bs=true) {i s:Nat} {b:Blk} (_:r[i]? = some (j,s)) (_:bs[i]? = some b),w=false/\b.isRw=false
 | [],_,_,_,_,i,s,b,hi,_=>by simp at hi
 | _::_,[],_,_,_,i,s,b,_,hb=>by simp at hb
 | (j',s')::r,b' :: bs,j,w,h,i,s,b,hi,hb=>by
   simp only[VU,Bool.and_eq_true,Bool.or_eq_true] at h
   cases i with
   | zero =>
     simp at hi hb;obtain ⟨rfl,_⟩:=hi;subst hb;rcases h.1 with h1 | h1
     ·simp at h1
     ·simpa using h1
   | succ i=>simp at hi hb;exact QC h.2 hi hb

theorem Vh : ∀ {r:List (Nat × Nat)} {bs:List Blk} (_:injB r bs=true) {i i' j s s' : Nat} {b b' : Blk} (_:r[i]? = some (j,s)) (_:r[i']? = some (j,s')) (_:bs[i]? = some b) (_:bs[i']? = some b') (_:b.isRw=true),i=i'
 | [],_,_,i,i',j,s,s',b,b',hi,_,_,_,_=>by simp at hi
 | _::_,[],_,i,i',j,s,s',b,b',_,_,hb,_,_=>by simp at hb
 | (j0,s0)::r,b0::bs,h,i,i',j,s,s',b,b',hi,hi',hb,hb',hw=>by
   simp only[injB,Bool.and_eq_true] at h
   cases i with
   | zero =>
     cases i' with
     | zero=>rfl
     | succ i' =>
       simp at hi hb hi' hb';obtain ⟨rfl,_⟩:=hi;subst hb;have:=(QC h.1 hi' hb').1;rw[this] at hw;cases hw
   | succ i =>
     cases i' with
     | zero =>
       simp at hi hb hi' hb';obtain ⟨rfl,_⟩:=hi';have:=(QC h.1 hi hb).2;rw[this] at hw;cases hw
     | succ i' =>
       simp at hi hb hi' hb';rw[Vh h.2 hi hi' hb hb' hw]

theorem HRel.re {m:LM} {H H2:List Blk} {w:World} (h:HRel m H w) {ι : List (Nat × Nat)} (hb:zI ι H ι H2) (hi:injB ι H2=true):HRel (m.re ι) H2 w:=by
 have key : ∀ i l,m.re ι i=some l->∃ j s,ι[i]? = some (j,s)/\zN s (m j)=some l:=fun i l hl=>by
  unfold LM.re at hl;split at hl
  ·rename_i j s hj;exact⟨j,s,hj,hl⟩
  ·cases hl
 refine⟨fun i l hl=>?_,fun i l b2 hl hd hb2=>?_,fun i hl=>?_,fun i i' r b2 hl hb2 hw hl' => ?_⟩
 ·obtain ⟨j,s,h1,_⟩:=key i l hl
  rw[<- hb.len];exact (List.getElem?_eq_some_iff.1 h1).1
 ·obtain ⟨j,s,h1,h2⟩:=key i l hl
  obtain ⟨b,b2',k1,k2,k3⟩:=hb.get h1;rw[hb2] at k2;cases k2
  cases hm:m j with
  | none=>rw[hm] at h2;cases h2
  | some l0 =>
    rw[hm] at h2;have hd0:l0 ≠ .dead:=fun e=>by subst e;cases h2;exact hd rfl
    exact k3.2.2 m l0 l w (h.blk j l0 b hm hd0 k1) h2
 ·obtain ⟨j,s,h1,h2⟩:=key i _ hl
  have:=h.dd j (WN h2);obtain ⟨b,b2,k1,k2,k3⟩:=hb.get h1;rw[this] at k1;cases k1;rw[k2,k3.2.1 rfl]
 ·obtain ⟨l,g1,_,g3⟩:=vF hl
  obtain ⟨l',g1',_,g3'⟩:=vF hl';obtain ⟨j,s,h1,h2⟩:=key i l g1;obtain ⟨j',s',h1',h2'⟩:=key i' l' g1';obtain ⟨b,b2a,k1,k2,k3⟩:=hb.get h1;obtain ⟨b',b2b,k1',k2',k3'⟩:=hb.get h1';rw[hb2] at k2;cases k2;have e1:vI (m j)=some r:=by rw[<- xu s,h2];exact g3
  have e2:vI (m j')=some r:=by rw[<- xu s',h2'];exact g3'
  have:=h.own j j' r b e1 k1 (k3.1 hw) e2;subst this;exact Vh hi h1 h1' hb2 k2' hw

theorem Wr.re {m:LM} {H H2:List Blk} {ι : List (Nat × Nat)} (hb:zI ι H ι H2) {r:Nat} (h:Wr (m.re ι) H2 r):Wr m H r:=by
 obtain ⟨i,b2,h1,h2,h3⟩:=h;obtain ⟨l,g1,_,g3⟩:=vF h1;unfold LM.re at g1;split at g1
 ·rename_i j s hj
  obtain ⟨b,b2',k1,k2,k3⟩:=hb.get hj;rw[h2] at k2;cases k2;exact⟨j,b,by rw[<- xu s,g1];exact g3,k1,k3.1 h3⟩
 ·cases g1

def anch (n:Nat) (ι : List (Nat × Nat)):Prop := ∀ i,i<n->ι[i]? = some (i,0)

theorem Fr.re {n0:Nat} {m m' : LM} {H H2 H' : List Blk} {w w' : World} {ι : List (Nat × Nat)} (hb:zI ι H ι H2) (ha:anch n0 ι) (hn:n0<=H2.length) (h:Fr n0 (m.re ι) H2 w m' H' w'):Fr n0 m H w m' H' w' := by
 have e : ∀ i,i<n0->m.re ι i=m i:=fun i hi=>by simp[LM.re,ha i hi,xM]
 have up : ∀ i,i<n0->∀ b,H2[i]? = some b->b.isRw=true->∃ b,H[i]? = some b/\b.isRw=true:=fun i hi b hb2 hw=>by
  obtain ⟨b',b2,k1,k2,k3⟩:=hb.get (ha i hi);rw[hb2] at k2;cases k2;exact⟨b',k1,k3.1 hw⟩
 refine⟨h.size,fun _=>h.len hn,fun i hi l hl=>?_,fun i hi hl=>h.base' i hi (by rw[e i hi];exact hl),fun i hi b' hb' hr' => ?_,fun r hr hw=>?_,h.out⟩
 ·rcases h.base i hi l (by rw[e i hi];exact hl) with h1 | ⟨h1,h2,b,h3,h4⟩
  ·exact .inl h1
  ·exact .inr ⟨h1,h2,up i hi b h3 h4⟩
 ·obtain ⟨b,k1,k2⟩:=h.rw i hi b' hb' hr'
  exact up i hi b k1 k2
 ·exact h.keep r hr (fun hw' => hw (hw'.re hb))

theorem Qw0 {P:Program} {n0:Nat} {c:Code} {Q:Ex->AF->List Blk->Prop} {a:AF} {H:List Blk} (ι : List (Nat × Nat)) (sl2:List (Nat × Value)) (H2:List Blk) (hn:n0<=H2.length) (ha:anch n0 ι) (hb:zI ι H ι H2) (hi:injB ι H2=true)
 (hs:zw0 ι a.sl sl2) (h:awp P rd n0 c Q { n:=a.n,sl:=sl2 } H2):awp P rd n0 c Q a H:=by
 intro _ m aR w hr b k cs hrd;obtain ⟨e,a',H',m',aR',w',q,r1,r2,r3⟩:=h hn (m.re ι) aR w ⟨hr.n,LRel.sl_re hr.sl hs.get,hr.df.keep (fun r _ h=>⟨rfl,fun hw=>h (hw.re hb)⟩),hr.heap.re hb hi⟩ b k cs hrd;exact⟨e,a',H',m',aR',w',q,r1,⟨r2.toFr.re hb ha hn,r2.dn⟩,r3⟩

end Go.Af
namespace Go.Af
open Go
variable {H:List Blk}
variable {R:Value->List Blk->Prop}

def resK (T:TT) (sl:List (Nat × Value)) (H:List Blk):List ResultVar->(List Value->Prop)->Prop
 | [],K=>K []
 | .tmp t::r,K=>match look sl t with
   | some v=>resK T sl H r (fun vs=>K (v::vs))
   | none=>False
 | .cell a t::r,K=>match tget T t with
   | some i=>match look sl a with
     | some (.pointer (some ⟨b,o,none⟩))=>match bget H b with
       | some (.cells _ _ vs)=>match i.kind.agg with
         | true=>segK vs o i.size (fun seg=>resK T sl H r (fun us=>K (.agg ⟨seg⟩::us)))
         | false=>Ld vs o (fun v=>resK T sl H r (fun us=>K (v::us)))
       | _=>False
     | _=>False
   | none=>False

def resV:List Value->Value
 | [v]=>v
 | vs=>.tuple ⟨vs⟩

def Qs0 (T:TT) (rs:List ResultVar) (R:Value->List Blk->Prop) (e:Ex) (a:AF) (H:List Blk):Prop :=
 match e with
 | .exit _=>False
 | _=>resK T a.sl H rs (fun vs=>R (resV vs) H)

section
variable {P:Program}

theorem uf0 {fr:Frame} {cs:List Frame} {w:World} {r:Nat} {ds:List Deferred} (hm:fr.mode = .returning) (hd:fr.defers = { target := .collected r,args := #[] }::ds) (hw:w.heap[r]? = some (.deferred (some []))) :
 step P (lone fr cs w) = .next (lone { fr with defers:=ds } cs { w with heap:=w.heap.setIfInBounds r (.deferred none) }):=by
 have hr:(Instr.takeDeferred r).run P w = .ok [] { w with heap:=w.heap.setIfInBounds r (.deferred none) }:=by
  simp[Instr.takeDeferred,getObj,setObj,Sem.run,hw]
 refine step_lone_go ?_;simp only[stepG,hm];simp[unwind,hd,Sem.runT_eq,hr,hm]

theorem st_ret {b:FB} {a:Act} {k:List Item} {cs:List Frame} {w:World} (hb:b.roundOf=none):step P (lone (b.at a (.code .ret::k)) cs w) = .next (lone { b.at a (.code .ret::k) with mode := .returning } cs w) :=
 step_lone_go (by simp[stepG,stepG.exec,FB.at,hb])
theorem st_end {b:FB} {a:Act} {cs:List Frame} {w:World} (hb:b.roundOf=none):step P (lone (b.at a []) cs w) = .next (lone { b.at a [] with mode := .returning } cs w) :=
 step_lone_go (by simp[stepG,stepG.exec,FB.at,hb])

theorem ZF {m:LM} : ∀ (ds:List Deferred) {w:World} (_:DfOk m H w ds) (fr:Frame) (_:fr.mode = .returning) (_:fr.defers=ds) (cs:List Frame),
 ∃ w',OutEq w w' /\ w'.heap.size=w.heap.size/\(∀ r,(∀ d∈ds,d.target ≠ .collected r)->w'.heap[r]? = w.heap[r]?)/\Steps P (lone fr cs w) (lone { fr with defers := [] } cs w')
 | [],w,_,fr,hm,hf,cs=>⟨w, .refl _,rfl,fun _ _=>rfl,by rw[<- hf];exact .refl _ _⟩
 | d::ds,w,⟨⟨r,h1,h2,h3,h4⟩,h⟩,fr,hm,hf,cs=>by
   have hds:DfOk m H { w with heap:=w.heap.setIfInBounds r (.deferred none) } ds:=by
    clear hf
    induction ds with
    | nil=>exact trivial
    | cons e es ih =>
      obtain ⟨⟨q,g1,g2,g3,g4⟩,g⟩:=h;refine⟨⟨q,g1, ?_,g3,g4⟩,ih (fun d' hd' => h4 d' (by simp[hd'])) g⟩;have:r≠q:=fun e' => by subst e'; exact h4 e (by simp) (by rw[g1])
      show (w.heap.setIfInBounds r (.deferred none))[q]? = _;rw[Array.getElem?_setIfInBounds];simp[this,g2]
   obtain ⟨w',q0,q1,q2,q3⟩:=ZF ds hds { fr with defers:=ds } hm rfl cs;refine⟨w',(show OutEq w { w with heap:=w.heap.setIfInBounds r (.deferred none) } from ⟨rfl,rfl,rfl,by first | exact Nat.le_refl _ | exact Nat.le_succ _ | (simp;done) | (simp;omega)⟩).trans q0,by simpa using q1,fun q hq=>?_, .head (uf0 hm (by rw[hf,h1]) h2) (by simpa using q3)⟩;rw[q2 q (fun d' hd' => hq d' (by simp[hd']))];have:r≠q:=fun e=>by subst e;exact hq d (by simp) (by rw[h1])
   show (w.heap.setIfInBounds r (.deferred none))[q]? = _;rw[Array.getElem?_setIfInBounds];simp[this]

theorem DfOk.own {m:LM} {w:World} : ∀ {ds:List Deferred} (_:DfOk m H w ds) {d:Deferred} (_:d∈ds), ∃ r,d.target = .collected r/\¬ Wr m H r/\w.heap[r]? = some (.deferred (some []))
 | [],_,d,hd=>by cases hd
 | e::ds,⟨⟨r,h1,h2,h3,_⟩,h⟩,d,hd=>by
   rcases List.mem_cons.1 hd with rfl | hd
   ·exact⟨r,by rw[h1],h3,h2⟩
   ·exact h.own hd

def resF (tmps:Array Value):ResultVar->Sem Value
 | .tmp t=>pure (tmps.getD t undef)
 | .cell a t=>do loadVar t (<- asAddr (tmps.getD a undef))
theorem qM0 (fn:Func) (tmps:Array Value):results fn tmps=(do
 let vs <- fn.results.mapM (resF tmps)
 pure (if h:vs.size=1 then vs[0] else .tuple vs)):=rfl

theorem Uf {T:TT} (hT:TOk P T) {m:LM} {w:World} (hh:HRel m H w) {sl:List (Nat × Value)} {tmps:Array Value} (hs:zx m sl tmps) : ∀ (rs:List ResultVar) {K:List Value->Prop} (_:resK T sl H rs K),
 ∃ vs vsR:List Value,K vs/\LRel m vs vsR/\(rs.mapM (resF tmps)).run P w = .ok vsR w
 | [],K,h=>⟨[],[],h, .nil m,by simp⟩
 | .tmp t::r,K,h=>by
   simp only[resK] at h;split at h
   ·rename_i v hv
    obtain ⟨vs,vsR,h1,h2,h3⟩:=Uf hT hh hs r h;obtain ⟨v',g1,g2⟩:=hs t v hv;exact⟨v::vs,v' :: vsR,h1, .cons g2 h2,by simp only[List.mapM_cons,Sem.run_bind,Sem.run_pure,Result.andThen_ok,h3,resF];simp[g1]⟩
   ·exact h.elim
 | .cell a t::r,K,h=>by
   simp only[resK] at h;split at h
   ·rename_i i hi
    split at h
    ·rename_i b o hv
     split at h
     ·rename_i wr z vs0 hb
      obtain ⟨v',g1,g2⟩:=hs a _ hv;obtain ⟨rr,sh,tot,esz,hm,hu,hb'⟩:=yX hh hb g2;obtain ⟨v,vR,h1,h2,h3⟩:=WS hT hi hh hm hb' (K:=fun v=>resK T sl H r (fun us=>K (v::us))) h;obtain ⟨vs,vsR,k1,k2,k3⟩:=Uf hT hh hs r h1;refine⟨v::vs,vR::vsR,k1, .cons h3 k2, ?_⟩;have e:tmps.getD a undef = .pointer (some ⟨rr,sh+o,none⟩):=by simp[g1,hu]
      have ea:(asAddr (tmps.getD a undef)).run P w = .ok ⟨rr,sh+o,none⟩ w:=by rw[e];rfl
      simp only[List.mapM_cons,Sem.run_bind,Sem.run_pure,Result.andThen_ok,resF,ea,h2 w (.refl w),k3]
     ·exact h.elim
    ·exact h.elim
   ·exact h.elim

theorem Ue {T:TT} (hT:TOk P T) {m:LM} {w:World} (hh:HRel m H w) {sl:List (Nat × Value)} {tmps:Array Value} (hs:zx m sl tmps) {fn:Func} {K:List Value->Prop} (h:resK T sl H fn.results.toList K) :
 ∃ vs vR,K vs/\VRel m (resV vs) vR/\(results fn tmps).run P w = .ok vR w:=by
 obtain ⟨vs,vsR,h1,h2,h3⟩:=Uf hT hh hs _ h;refine⟨vs,if h:vsR.toArray.size=1 then vsR.toArray[0] else .tuple vsR.toArray,h1, ?_, ?_⟩
 ·match vs,vsR,h2 with
  | [],_,h2=>have:=h2.inv_nil;subst this;exact .tuple' (.nil m)
  | [v],_,h2 =>
    obtain ⟨y,ys,rfl,g1,g2⟩:=h2.inv_cons;have:=g2.inv_nil;subst this
    simpa [resV] using g1
  | v::u::r,vsR,h2 =>
    have hl:=h2.1;simp at hl;have : ¬ vsR.toArray.size=1:=by simp;omega
    rw[dif_neg this];exact .tuple' (by simpa using h2)
 ·rw[qM0,Array.mapM_eq_mapM_toList]
  simp only[Sem.run_bind,Sem.run_map,h3,Result.andThen_ok,Sem.run_pure]

def Vp:List Value->Nat->List (Nat × Value)
 | [],_=>[]
 | v::r,i=>(i,v)::Vp r (i+1)

theorem VM : ∀ (args:List Value) (i s:Nat) (v:Value),look (Vp args i) s=some v->i<=s/\args[s-i]? = some v
 | [],_,_,_,h=>by cases h
 | v::r,i,s,u,h=>by
   simp only[Vp,look] at h;split at h
   ·rename_i hk;cases h;have:=Nat.eq_of_beq_eq_true hk;subst this;simp
   ·obtain ⟨h1,h2⟩:=VM r (i+1) s u h
    refine⟨by omega, ?_⟩;have:s-i=(s-(i+1))+1:=by omega
    rw[this];simpa using h2

theorem Wj {T:TT} (hT:TOk P T) {f:FuncId} {fn:Func} {c:Code} {args:List Value} (hf:P.funcs[f]? = some fn) (hb:fn.body=some c) (hn:args.length<=fn.ntmps)
 (h:awp P false H.length c (Qs0 T fn.results.toList R) { n:=fn.ntmps,sl:=Vp args 0 } H) {m:LM} {argsR:Array Value} {w:World} (ha:LRel m args argsR.toList) (hh:HRel m H w) (cs:List Frame) :
 ∃ fr w' vR,fr.leaving P w' (.returned vR)/\fr.fn=f/\zW m H w R vR w' /\ Steps P (lone (Frame.enter P f argsR .normal) cs w) (lone fr cs w'):=by
 let b:FB := { fn:=f,kind := .normal,roundOf:=none }
 let a0:Act := { tmps:=argsR++Array.replicate (fn.ntmps-argsR.size) undef,defers := [] }
 have hsz:argsR.size=args.length:=by have:=ha.1;simpa using this.symm
 have henter:Frame.enter P f argsR .normal=b.at a0 [.code c]:=by simp[Frame.enter,FB.at,hf,hb,b,a0]
 have hs0:SRel m { n:=fn.ntmps,sl:=Vp args 0 } H a0 w:=by
  refine⟨by simp[a0];omega,fun s v hv=>?_,trivial,hh⟩;obtain ⟨_,hv⟩:=VM args 0 s v hv;obtain ⟨y,h1,h2⟩:=ha.getArr (by simpa using hv);exact⟨y,by rw[Array.getElem?_append_left (Array.getElem?_eq_some_iff.1 h1).1];exact h1,h2⟩
 obtain ⟨e,a',H',m',aR',w',hq,hs',hf',harr⟩:=h (Nat.le_refl _) m a0 w hs0 b [] cs (fun _=>rfl);rw[<- henter] at harr
 have fin : ∀ (todo:List Item),Steps P (lone (Frame.enter P f argsR .normal) cs w) (lone { b.at aR' todo with mode := .returning } cs w')->resK T a'.sl H' fn.results.toList (fun vs=>R (resV vs) H') ->
  ∃ fr w' vR,fr.leaving P w' (.returned vR)/\fr.fn=f/\zW m H w R vR w' /\ Steps P (lone (Frame.enter P f argsR .normal) cs w) (lone fr cs w'):=by
  intro todo hst hq;obtain ⟨w2,q0,q1,q2,q5⟩:=ZF (P:=P) aR'.defers hs'.df { b.at aR' todo with mode := .returning } rfl rfl cs;obtain ⟨new,e1,e2⟩:=hf'.dn;have e1' : aR'.defers=new:=by simpa [a0] using e1
  have hsame : ∀ r,r<w.heap.size->w2.heap[r]? = w'.heap[r]? := fun r hr=>q2 r fun d hd he=>by
   have:=e2 d (by rw[<- e1'];exact hd) r he;omega
  have hown : ∀ i r,vI (m' i)=some r->w2.heap[r]? = w'.heap[r]? := fun i r hi=>q2 r fun d hd he=>by
   obtain ⟨r',g1,g2,g3⟩:=hs'.df.own hd;rw[he] at g1;cases g1
   cases hmi:m' i with
   | none=>rw[hmi] at hi;cases hi
   | some l =>
     have hl:l ≠ .dead:=fun e=>by subst e;rw[hmi] at hi;cases hi
     obtain ⟨bb,k1,k2⟩:=hs'.heap.get hmi hl;by_cases hrw:bb.isRw=true
     ·exact g2 ⟨i,bb,hi,k1,hrw⟩
     ·rw[hmi] at hi
      cases l with
      | dead=>exact hl rfl
      | obj q=>cases bb with
        | map wr es c=>simp only[vI] at hi;cases hi;obtain ⟨_,k3,_⟩:=k2;rw[g3] at k3;cases k3
        | cells wr z vs=>exact k2.elim
        | ghost=>simp only[vI] at hi;cases hi;obtain ⟨_,k3,k4⟩:=k2;rw[g3] at k3;cases k3;exact (k4 _ rfl).elim
        | dead=>exact k2.elim
        | iter o=>exact hrw rfl
        | loop=>exact hrw rfl
        | defr=>exact hrw rfl
      | cel q sh tot esz=>cases bb with
        | cells wr z vs=>simp only[vI] at hi;cases hi;obtain ⟨_,_,_,k3,_⟩:=k2;rw[g3] at k3;cases k3
        | map wr es c=>exact k2.elim
        | ghost=>exact k2.elim
        | dead=>exact k2.elim
        | iter o=>exact hrw rfl
        | loop=>exact hrw rfl
        | defr=>exact hrw rfl
  have hh2:HRel m' H' w2:=hs'.heap.same hown;obtain ⟨vs,vR,r1,r2,r3⟩:=Ue hT hh2 hs'.sl (fn:=fn) hq;refine⟨_,w2,vR,⟨rfl,rfl,rfl,fn,hf,r3⟩,rfl,⟨_,H',m',r1,r2,hh2, ?_⟩,hst.trans q5⟩;exact⟨by rw[q1];exact hf'.size,hf'.len,hf'.base,hf'.base',hf'.rw,fun r hr hw=>⟨by rw[hsame r hr];exact (hf'.keep r hr hw).1,(hf'.keep r hr hw).2⟩,hf'.out.trans q0⟩
 cases e with
 | normal=>exact fin [] (Steps.trans harr (.one (st_end rfl))) hq
 | exit id=>exact hq.elim
 | ret=>obtain ⟨k',hst⟩:=harr;exact fin _ (hst.trans (.one (st_ret rfl))) hq

theorem qz0 {T:TT} (hT:TOk P T) {f:FuncId} {fn:Func} {c:Code} {args:List Value} (hc : ∀ (as:Array Value) (w:World),(callFunc f as).run P w = .ok (.enter f as) w) (hf:P.funcs[f]? = some fn) (hb:fn.body=some c)
 (hn:args.length<=fn.ntmps) (h:awp P false H.length c (Qs0 T fn.results.toList R) { n:=fn.ntmps,sl:=Vp args 0 } H):qj P f args H R :=
 ⟨hc,fun m argsR w ha hh c cs=>by
   obtain ⟨fr,w',vR,h1,_,h3,h4⟩:=Wj hT hf hb hn h ha hh (c::cs)
   exact⟨vR,w',h3,h4.trans (.one (step_leave_returned h1))⟩⟩

theorem xS0 {T:TT} (hT:TOk P T) {f:FuncId} {fn:Func} {c:Code} {args:List Value} (hf:P.funcs[f]? = some fn) (hb:fn.body=some c)
 (hn:args.length<=fn.ntmps) (h:awp P false H.length c (Qs0 T fn.results.toList R) { n:=fn.ntmps,sl:=Vp args 0 } H) {m:LM} {argsR:Array Value} {w:World} (ha:LRel m args argsR.toList) (hh:HRel m H w) :
 Calls P f argsR w fun e w' => ∃ vR,e = .returned vR/\zW m H w R vR w' := fun cs=>by
 obtain ⟨fr,w',vR,h1,h2,h3,h4⟩:=Wj hT hf hb hn h ha hh cs;exact⟨.returned vR,w',fr,⟨vR,rfl,h3⟩,h4,h2,h1⟩

theorem Enters.of_calls {f:FuncId} {argsR:Array Value} {w:World} {R:Value->World->Prop} (h:Calls P f argsR w fun e w' => ∃ vR,e = .returned vR/\R vR w'):Enters P (Frame.enter P f argsR .normal) w R:=fun c cs=>by
 obtain ⟨e,w',fr,⟨vR,rfl,hR⟩,h4,h2,h1⟩:=h (c::cs);exact⟨vR,w',hR,Steps.trans h4 (.one (step_leave_returned h1))⟩

end
end Go.Af
namespace Go.Af
open Go

def UG (ι : List (Nat × Nat)) (m2 m:LM):Prop := ∀ j i s,ι[j]? = some (i,s)->m2 j=zN s (m i)

def uF (ι : List (Nat × Nat)) (v2 v:Value):Prop := ∀ (m2 m:LM),UG ι m2 m->∀ vR,VRel m2 v2 vR->VRel m v vR
def Vt (ι : List (Nat × Nat)) (xs2 xs:List Value):Prop := ∀ (m2 m:LM),UG ι m2 m->∀ ys,LRel m2 xs2 ys->LRel m xs ys

section
variable {ι : List (Nat × Nat)}
theorem YJ {m2 m:LM} (ha:UG ι m2 m) {j i s r sh2 tot esz:Nat} (h : ι[j]? = some (i,s)) (hm:m2 j=some (.cel r sh2 tot esz)) : ∃ sh,m i=some (.cel r sh tot esz)/\sh2=sh+s:=by
 have:=ha j i s h;rw[hm] at this;unfold zN at this;split at this
 ·rename_i r' sh' t' e' hmi;cases this;exact⟨sh',hmi,rfl⟩
 ·rename_i hne;exact absurd this.symm (hne _ _ _ _)
theorem Xg {m2 m:LM} (ha:UG ι m2 m) {j i s:Nat} (h : ι[j]? = some (i,s)) (hm:m2 j=some .dead):m i=some .dead:=by
 have:=ha j i s h;rw[hm] at this;exact WN this.symm

theorem uF.ptr {j o i s:Nat} (h : ι[j]? = some (i,s)):uF ι (.pointer (some ⟨j,o,none⟩)) (.pointer (some ⟨i,s+o,none⟩)):=fun m2 m ha vR hr=>by
 cases hr with
 | ptr _ _ r sh2 tot esz hm =>
   obtain ⟨sh,h1,rfl⟩:=YJ ha h hm;have:=VRel.ptr i (s+o) _ _ _ _ h1
   rwa [<- Nat.add_assoc] at this
 | ptrDead _ _ a hm=>exact .ptrDead _ _ _ (Xg ha h hm)
theorem uF.slice {j o i s l c:Nat} (h : ι[j]? = some (i,s)):uF ι (.slice (some ⟨j,o,none⟩) l c) (.slice (some ⟨i,s+o,none⟩) l c):=fun m2 m ha vR hr=>by
 cases hr with
 | slice _ _ r sh2 tot esz _ _ c' hm hcc hl =>
   obtain ⟨sh,h1,rfl⟩:=YJ ha h hm;have:=VRel.slice i (s+o) _ _ _ _ l c c' h1 hcc (by rcases hl with hl | hl;exact .inl hl;exact .inr (by omega))
   rwa [<- Nat.add_assoc] at this
 | sliceZero _ _ a=>exact .sliceZero _ _ _
 | sliceDead _ _ _ _ c' a hm hcc=>exact .sliceDead _ _ _ _ _ _ (Xg ha h hm) hcc
theorem Vt.nil:Vt ι [] []:=fun _ _ _ ys h=>by have:=h.inv_nil;subst this;exact .nil _
theorem Vt.cons {x2 x:Value} {xs2 xs:List Value} (h:uF ι x2 x) (hs:Vt ι xs2 xs):Vt ι (x2::xs2) (x::xs):=fun m2 m ha ys hr=>by
 obtain ⟨y,ys',rfl,h1,h2⟩:=hr.inv_cons;exact .cons (h m2 m ha _ h1) (hs m2 m ha _ h2)
theorem Vt.of {xs2 xs:List Value} (hl:xs2.length=xs.length) (h : ∀ (i:Nat) (x2 x:Value),xs2[i]? = some x2->xs[i]? = some x->uF ι x2 x):Vt ι xs2 xs:=fun m2 m ha ys hr=>by
 refine⟨hl.symm.trans hr.1,fun i x y hx hy=>?_⟩;have hi:i<xs2.length:=by rw[hl];exact (List.getElem?_eq_some_iff.1 hx).1
 exact h i _ x (List.getElem?_eq_getElem hi) hx m2 m ha y (hr.2 i _ y (List.getElem?_eq_getElem hi) hy)
theorem uF.func {f:Fn} {xs2 xs ys2 ys:Array Value} (hf : ∀ l,f ≠ .yield l) (h1:Vt ι xs2.toList xs.toList) (h2:Vt ι ys2.toList ys.toList):uF ι (.func f xs2 ys2) (.func f xs ys):=fun m2 m ha vR hr=>by
 obtain ⟨f',xs',ys',rfl,hfr,hx,hy⟩:=hr.inv_func
 cases hfr with
 | same _ _=>exact .func' (.same _ hf) (h1 m2 m ha _ hx) (h2 m2 m ha _ hy)
 | yield b r _=>exact absurd rfl (hf b)

def UF (ι : List (Nat × Nat)) (b2 b:Blk):Prop :=
 b.isRw=b2.isRw/\(b2 = .dead->b = .dead)/\∀ (m2 m:LM),UG ι m2 m->∀ l w,BRel m2 b2 l w->BRel m b l w

theorem UF.cells {wr:Bool} {z:Nat} {vs2 vs:List Value} (h:Vt ι vs2 vs) (hl:vs2.length=vs.length):UF ι (.cells wr z vs2) (.cells wr z vs) :=
 ⟨rfl,(fun h=>by cases h),fun m2 m ha l w hb=>by
   cases l with
   | cel r sh tot esz =>
     obtain ⟨c,e,f,h1,h2,h3,h4⟩:=hb;refine⟨c,e,f,h1,fun i x hx=>?_,h3,h4⟩;have hi:i<vs2.length:=by rw[hl];exact (List.getElem?_eq_some_iff.1 hx).1
     -- the cells that vs2 reads
     have hex : ∀ k,k<vs2.length->∃ y,c[sh+k]? = some y:=fun k hk=>let ⟨y,g,_⟩:=h2 k _ (List.getElem?_eq_getElem hk); ⟨y,g⟩
     let ys:=(List.range vs2.length).map (fun k=>c[sh+k]?.getD undef)
     have hys:LRel m2 vs2 ys:=by
      refine⟨by simp[ys],fun k a b hka hkb=>?_⟩;have hk:k<vs2.length:=(List.getElem?_eq_some_iff.1 hka).1;obtain ⟨y,g1,g2⟩:=h2 k a hka;have:b=y:=by simp[ys,hk,g1] at hkb;exact hkb.symm
      subst this;exact g2
     obtain ⟨y,g⟩:=hex i hi;have:=(h m2 m ha ys hys).2 i x y hx (by simp[ys,hi,g]);exact⟨y,g,this⟩
   | obj r=>exact hb.elim
   | dead=>exact hb.elim⟩
end

structure EmbOut (ι : List (Nat × Nat)) (H H2 H2' H' : List Blk) (ι' : List (Nat × Nat)):Prop where
 len2:H2.length<=H2'.length
 len:H'.length=H.length+(H2'.length-H2.length)
 num : ι' = ι ++ (List.range (H2'.length-H2.length)).map (fun k=>(H.length+k,0))
 upd : ∀ (j i s:Nat) (b2:Blk),ι[j]? = some (i,s)->H2[j]? = some b2->b2.isRw=true->∃ b2' b',H2'[j]? = some b2' /\ H'[i]? = some b' /\ UF ι' b2' b'
 old : ∀ i,i<H.length->(∀ (j s:Nat) (b2:Blk),ι[j]? = some (i,s)->H2[j]? = some b2->b2.isRw=false)->H'[i]? = H[i]?
 new : ∀ (k:Nat) (b2:Blk),H2'[H2.length+k]? = some b2->(b2.isRw=true\/b2 = .dead)/\∃ b,H'[H.length+k]? = some b/\UF ι' b2 b

theorem xM0 {ι ι' : List (Nat × Nat)} {H H2 H2' H' : List Blk} {m m2' : LM} {w w' : World} (hh:HRel m H w) (hb:zI ι H ι H2) (hi:injB ι H2=true) (hz : ∀ (j i s:Nat) (b2:Blk),ι[j]? = some (i,s)->H2[j]? = some b2->b2.isRw=true->s=0)
 (h2' : HRel m2' H2' w') (hf:Fr H2.length (m.re ι) H2 w m2' H2' w') (ho:EmbOut ι H H2 H2' H' ι') :
 ∃ m',HRel m' H' w' /\ Fr H.length m H w m' H' w' /\ UG ι' m2' m' := by
 classical
 have hlen:=hb.len
 -- the caller's map
 let isU:Nat->Nat->Prop:=fun i j => ∃ s b2,ι[j]? = some (i,s)/\H2[j]? = some b2/\b2.isRw=true
 let m' : LM:=fun i=>if i<H.length then (if h : ∃ j,isU i j then m2' (Classical.choose h) else m i) else m2' (i-H.length+H2.length)
 have uniq : ∀ i j j',isU i j->isU i j' -> j=j' := fun i j j' ⟨s,b2,h1,h2,h3⟩ ⟨s',b2',h1',h2',h3'⟩=>Vh hi h1 h1' h2 h2' h3
 have ltU : ∀ i j,isU i j->i<H.length:=fun i j ⟨s,b2,h1,h2,h3⟩=>by
  obtain ⟨b,_,k1,_,_⟩:=hb.get h1;exact (List.getElem?_eq_some_iff.1 k1).1
 have mU : ∀ i j,isU i j->m' i=m2' j:=fun i j hu=>by
  have hex : ∃ j,isU i j:=⟨j,hu⟩;simp only[m',ltU i j hu,if_true,dif_pos hex];rw[uniq i _ j (Classical.choose_spec hex) hu]
 have mO : ∀ i,i<H.length->(¬ ∃ j,isU i j)->m' i=m i:=fun i hl hn=>by simp only[m',hl,if_true,dif_neg hn]
 have mN : ∀ k,m' (H.length+k)=m2' (H2.length+k):=fun k=>by
  simp only[m',show ¬ (H.length+k<H.length) by omega,if_false];congr 1;omega
 have reU : ∀ i j,isU i j->(m.re ι) j=m i:=fun i j ⟨s,b2,h1,h2,h3⟩=>by
  have:=hz j i s b2 h1 h2 h3;subst this;simp[LM.re,h1,xM]
 have jlt : ∀ i j,isU i j->j<H2.length:=fun i j ⟨s,b2,h1,h2,h3⟩=>(List.getElem?_eq_some_iff.1 h2).1
 have rwU : ∀ i j,isU i j->∃ b,H[i]? = some b/\b.isRw=true:=fun i j ⟨s,b2,h1,h2,h3⟩=>by
  obtain ⟨b,b2',k1,k2,k3⟩:=hb.get h1;rw[h2] at k2;cases k2;exact⟨b,k1,k3.1 h3⟩
 have hle:m.le m' := fun i l hl=>by
  have hil:=hh.dom i l hl;by_cases hu : ∃ j,isU i j
  ·obtain ⟨j,hu⟩:=hu
   rw[mU i j hu];rcases hf.base j (jlt i j hu) l (by rw[reU i j hu];exact hl) with h1 | ⟨h1,h2,_⟩
   ·exact .inl h1
   ·exact .inr ⟨h1,h2⟩
  ·rw[mO i hil hu];exact .inl hl
 have along:UG ι' m2' m' := by
  intro j i s hj;rw[ho.num,List.getElem?_append] at hj;split at hj
  ·rename_i hjl
   obtain ⟨b,b2,k1,k2,k3⟩:=hb.get hj;have hil:i<H.length:=(List.getElem?_eq_some_iff.1 k1).1;by_cases hw:b2.isRw=true
   ·have hu:isU i j:=⟨s,b2,hj,k2,hw⟩
    have:=hz j i s b2 hj k2 hw;subst this;rw[mU i j hu,xM]
   ·have hno : ¬ ∃ j',isU i j' := fun ⟨j',s',b2',h1,h2,h3⟩=>by
     have:=Vh hi h1 hj h2 k2 h3;subst this;rw[k2] at h2;cases h2;exact hw h3
    rw[mO i hil hno];have hre:(m.re ι) j=zN s (m i):=by simp[LM.re,hj]
    have hj2:j<H2.length:=by rw[<- hlen];exact hjl
    cases hm:(m.re ι) j with
    | none=>rw[hf.base' j hj2 hm,<- hre,hm]
    | some l =>
      rcases hf.base j hj2 l hm with h1 | ⟨h1,h2,b',h3,h4⟩
      ·rw[h1,<- hre,hm]
      ·rw[k2] at h3;cases h3;exact absurd h4 hw
  ·rename_i hjl
   have hk:j - ι.length<H2'.length-H2.length:=by
    have:=(List.getElem?_eq_some_iff.1 hj).1;simpa using this
   simp[hk] at hj;obtain ⟨rfl,rfl⟩:=hj;rw[mN,xM];congr 1;omega
 have dead2 : ∀ i l,m' i=some l->i<H'.length:=fun i l hl=>by
  rw[ho.len];rcases Nat.lt_or_ge i H.length with h | h
  ·omega
  ·obtain ⟨k,rfl⟩:=Nat.exists_eq_add_of_le h
   rw[mN] at hl;have:=h2'.dom _ _ hl;omega
 refine⟨m',⟨dead2,fun i l b' hl hd hb' => ?_,fun i hl=>?_,fun i i' r b' hl hb' hw hl' => ?_⟩,⟨hf.size,fun _=>by rw[ho.len];omega,fun i hi l hl=>?_,fun i hi hl=>?_,fun i hi b' hb' hw=>?_,fun r hr hw=>?_,hf.out⟩,along⟩
 ·-- blk
  rcases Nat.lt_or_ge i H.length with hil | hil
  ·by_cases hu : ∃ j,isU i j
   ·obtain ⟨j,hu⟩:=hu
    obtain ⟨s,b2,h1,h2,h3⟩:=hu;obtain ⟨b2',b'',k1,k2,k3⟩:=ho.upd j i s b2 h1 h2 h3;rw[hb'] at k2;cases k2;rw[mU i j ⟨s,b2,h1,h2,h3⟩] at hl;exact k3.2.2 m2' m' along l w' (h2'.blk j l b2' hl hd k1)
   ·rw[mO i hil hu] at hl
    rw[ho.old i hil (fun j s b2 h1 h2=>by
     cases hbw:b2.isRw with
     | false=>rfl
     | true=>exact absurd ⟨j,s,b2,h1,h2,hbw⟩ hu)] at hb'
    refine ((hh.blk i l b' hl hd hb').mono hle).same (fun r hr=>?_);have hlt:r<w.heap.size:=hh.lt (i:=i) (by rw[hl];exact hr);refine (hf.keep r hlt (fun ⟨j,b2,g1,g2,g3⟩=>hu ?_)).1;obtain ⟨l2,e1,_,e3⟩:=vF g1
    have hj : ∃ i' s,ι[j]? = some (i',s)/\zN s (m i')=some l2:=by
     unfold LM.re at e1;split at e1
     ·rename_i i' s hj;exact⟨i',s,hj,e1⟩
     ·cases e1
    obtain ⟨i',s,hj,e4⟩:=hj;obtain ⟨b,q1,q2⟩:=rwU i' j ⟨s,b2,hj,g2,g3⟩;have e5:vI (m i')=some r:=by rw[<- xu s,e4];exact e3
    have:=hh.own i' i r b e5 q1 q2 (by rw[hl];exact hr);subst this;exact⟨j,s,b2,hj,g2,g3⟩
  ·obtain ⟨k,rfl⟩:=Nat.exists_eq_add_of_le hil
   rw[mN] at hl;have hk:=h2'.dom _ _ hl;obtain ⟨b2,hb2⟩ : ∃ b2,H2'[H2.length+k]? = some b2:=⟨_,List.getElem?_eq_getElem hk⟩;obtain ⟨_,b'',k1,k2⟩:=ho.new k b2 hb2;rw[hb'] at k1;cases k1;exact k2.2.2 m2' m' along l w' (h2'.blk _ l b2 hl hd hb2)
 ·-- dead
  rcases Nat.lt_or_ge i H.length with hil | hil
  ·by_cases hu : ∃ j,isU i j
   ·obtain ⟨j,s,b2,h1,h2,h3⟩:=hu
    obtain ⟨b2',b'',k1,k2,k3⟩:=ho.upd j i s b2 h1 h2 h3;rw[mU i j ⟨s,b2,h1,h2,h3⟩] at hl;have:=h2'.dd j hl;rw[k1] at this;cases this;rw[k2,k3.2.1 rfl]
   ·rw[mO i hil hu] at hl
    rw[ho.old i hil (fun j s b2 h1 h2=>by
     cases hbw:b2.isRw with
     | false=>rfl
     | true=>exact absurd ⟨j,s,b2,h1,h2,hbw⟩ hu)]
    exact hh.dd i hl
  ·obtain ⟨k,rfl⟩:=Nat.exists_eq_add_of_le hil
   rw[mN] at hl;have hb2:=h2'.dd _ hl;obtain ⟨_,b'',k1,k2⟩:=ho.new k _ hb2;rw[k1,k2.2.1 rfl]
 ·-- own
  have cls : ∀ i r,vI (m' i)=some r->(i<H.length/\vI (m i)=some r/\(∀ j,isU i j->vI (m2' j)=some r))\/(∃ k,i=H.length+k/\vI (m2' (H2.length+k))=some r):=fun i r hl=>by
   rcases Nat.lt_or_ge i H.length with hil | hil
   ·left
    refine⟨hil, ?_,fun j hu=>by rw[<- mU i j hu];exact hl⟩;by_cases hu : ∃ j,isU i j
    ·obtain ⟨j,hu⟩:=hu
     rw[mU i j hu] at hl;rw[<- reU i j hu];obtain ⟨l,e1,e2,e3⟩:=vF hl
     cases hm:(m.re ι) j with
     | none=>rw[hf.base' j (jlt i j hu) hm] at e1;cases e1
     | some l0 =>
       rcases hf.base j (jlt i j hu) l0 hm with h1 | ⟨h1,_⟩
       ·rw[h1] at hl;exact hl
       ·rw[h1] at hl;cases hl
    ·rw[mO i hil hu] at hl;exact hl
   ·right
    obtain ⟨k,rfl⟩:=Nat.exists_eq_add_of_le hil;exact⟨k,rfl,by rw[<- mN];exact hl⟩
  -- a new block that may be written lies in no old one that is still mapped
  have newOld : ∀ k r i,(∃ b2,H2'[H2.length+k]? = some b2/\b2.isRw=true)->vI (m2' (H2.length+k))=some r->i<H.length->vI (m i)=some r->(∀ j,isU i j->vI (m2' j)=some r)->False:=by
   intro k r i ⟨b2,hb2,hrw⟩ hk hil hmi hju;have hlt:r<w.heap.size:=hh.lt hmi;have hWr:Wr (m.re ι) H2 r:=Classical.byContradiction (fun hn=>(hf.keep r hlt hn).2 ⟨_,b2,hk,hb2,hrw⟩);obtain ⟨j,b0,g1,g2,g3⟩:=hWr;obtain ⟨l2,e1,_,e3⟩:=vF g1
   have hj : ∃ i' s,ι[j]? = some (i',s)/\zN s (m i')=some l2:=by
    unfold LM.re at e1;split at e1
    ·rename_i i' s hj;exact⟨i',s,hj,e1⟩
    ·cases e1
   obtain ⟨i',s,hj,e4⟩:=hj;obtain ⟨b,q1,q2⟩:=rwU i' j ⟨s,b0,hj,g2,g3⟩;have e5:vI (m i')=some r:=by rw[<- xu s,e4];exact e3
   have:=hh.own i' i r b e5 q1 q2 hmi;subst this;have hju' := hju j ⟨s,b0,hj,g2,g3⟩;have:=h2'.own _ _ r b2 hk hb2 hrw hju';have:=(List.getElem?_eq_some_iff.1 g2).1;omega
  have rwNew : ∀ k b',H'[H.length+k]? = some b' -> b'.isRw=true->∃ b2,H2'[H2.length+k]? = some b2/\b2.isRw=true:=fun k b' hb' hw=>by
   have hlt:H.length+k<H'.length:=(List.getElem?_eq_some_iff.1 hb').1;have hk:H2.length+k<H2'.length:=by rw[ho.len] at hlt;have:=ho.len2;omega
   obtain ⟨_,b'',k1,k2⟩:=ho.new k _ (List.getElem?_eq_getElem hk);rw[hb'] at k1;cases k1;exact⟨_,List.getElem?_eq_getElem hk,by rw[<- k2.1];exact hw⟩
  rcases cls i r hl with ⟨hil,a1,a2⟩ | ⟨k,rfl,a1⟩
  ·have hbo : ∃ b,H[i]? = some b/\b.isRw=true:=by
    by_cases hu : ∃ j,isU i j
    ·obtain ⟨j,hu⟩:=hu;exact rwU i j hu
    ·rw[ho.old i hil (fun j s b2 h1 h2=>by
      cases hbw:b2.isRw with
      | false=>rfl
      | true=>exact absurd ⟨j,s,b2,h1,h2,hbw⟩ hu)] at hb'
     exact⟨b',hb',hw⟩
   obtain ⟨b,q1,q2⟩:=hbo;rcases cls i' r hl' with ⟨hil',a1',a2'⟩ | ⟨k,rfl,a1'⟩
   ·exact hh.own i i' r b a1 q1 q2 a1'
   ·exfalso
    have hlt:r<w.heap.size:=hh.lt a1
    -- the other is new: it is one that may be written,or dead
    obtain ⟨l,e1,e2,_⟩:=vF a1';have hk:=h2'.dom _ _ e1;obtain ⟨hor,_⟩:=ho.new k _ (List.getElem?_eq_getElem hk);rcases hor with hor | hor
    ·exact newOld k r i ⟨_,List.getElem?_eq_getElem hk,hor⟩ a1' hil a1 a2
    ·have hB:=h2'.blk _ l _ e1 e2 (List.getElem?_eq_getElem hk)
     rw[hor] at hB;cases l <;> exact hB.elim
  ·obtain ⟨b2,hb2,hrw⟩:=rwNew k b' hb' hw
   rcases cls i' r hl' with ⟨hil',a1',a2'⟩ | ⟨k',rfl,a1'⟩
   ·exact (newOld k r i' ⟨b2,hb2,hrw⟩ a1 hil' a1' a2').elim
   ·have:=h2'.own _ _ r b2 a1 hb2 hrw a1'
    omega
 ·-- base
  by_cases hu : ∃ j,isU i j
  ·obtain ⟨j,hu⟩:=hu
   rw[mU i j hu];rcases hf.base j (jlt i j hu) l (by rw[reU i j hu];exact hl) with h1 | ⟨h1,h2,_⟩
   ·exact .inl h1
   ·exact .inr ⟨h1,h2,rwU i j hu⟩
  ·rw[mO i hi hu];exact .inl hl
 ·by_cases hu : ∃ j,isU i j
  ·obtain ⟨j,hu⟩:=hu
   rw[mU i j hu];exact hf.base' j (jlt i j hu) (by rw[reU i j hu];exact hl)
  ·rw[mO i hi hu];exact hl
 ·by_cases hu : ∃ j,isU i j
  ·obtain ⟨j,hu⟩:=hu;exact rwU i j hu
  ·rw[ho.old i hi (fun j s b2 h1 h2=>by
    cases hbw:b2.isRw with
    | false=>rfl
    | true=>exact absurd ⟨j,s,b2,h1,h2,hbw⟩ hu)] at hb'
   exact⟨b',hb',hw⟩
 ·have hw2 : ¬ Wr (m.re ι) H2 r:=fun h=>hw (h.re hb)
  obtain ⟨k1,k2⟩:=hf.keep r hr hw2;refine⟨k1,fun ⟨i,b',g1,g2,g3⟩=>?_⟩;rcases Nat.lt_or_ge i H.length with hil | hil
  ·by_cases hu : ∃ j,isU i j
   ·obtain ⟨j,s,b2,h1,h2,h3⟩:=hu
    obtain ⟨b2',b'',q1,q2,q3⟩:=ho.upd j i s b2 h1 h2 h3;rw[g2] at q2;cases q2;rw[mU i j ⟨s,b2,h1,h2,h3⟩] at g1;exact k2 ⟨j,b2',g1,q1,by rw[<- q3.1];exact g3⟩
   ·rw[mO i hil hu] at g1
    rw[ho.old i hil (fun j s b2 h1 h2=>by
     cases hbw:b2.isRw with
     | false=>rfl
     | true=>exact absurd ⟨j,s,b2,h1,h2,hbw⟩ hu)] at g2
    exact hw ⟨i,b',g1,g2,g3⟩
  ·obtain ⟨k,rfl⟩:=Nat.exists_eq_add_of_le hil
   rw[mN] at g1;have hlt:H.length+k<H'.length:=(List.getElem?_eq_some_iff.1 g2).1;have hk:H2.length+k<H2'.length:=by rw[ho.len] at hlt;have:=ho.len2;omega
   obtain ⟨_,b'',q1,q2⟩:=ho.new k _ (List.getElem?_eq_getElem hk);rw[g2] at q1;cases q1;exact k2 ⟨_,_,g1,List.getElem?_eq_getElem hk,by rw[<- q2.1];exact g3⟩

end Go.Af
namespace Go.Af
open Go
variable {rd:Bool}

def sOp (P:Program) (ops:Array Oper) (q:Nat->Bool) (i:Nat) (K:Act->World->Prop) (a:Act) (w:World):Prop :=
 match ops[i]? with
 | none=>False
 | some o=>if Region.wanted o (yielded ops a.tmps) then Op.isDefer o.op=false/\∃ nx w1,(execOp a.eval o).run P w = .ok nx w1/\zU P nx w1 (fun v w' => (q i=true->ExtW w w')/\K (a.put o.dst v) w')
   else K (a.put o.dst undef) w

def sAny (P:Program) (ops:Array Oper) (q:Nat->Bool) (Q:Act->World->Prop):Nat->Array Bool->Act->World->Prop
 | 0,listed,a,w=>Region.ready .any ops listed = []/\Q a w
 | fuel+1,listed,a,w =>
   (Region.ready .any ops listed = []->Q a w) /\
   ∀ i∈Region.ready .any ops listed,sOp P ops q i (sAny P ops q Q fuel (listed.setIfInBounds i true)) a w

section
variable {P:Program} {ops:Array Oper} {q:Nat->Bool} {Q:Act->World->Prop}

theorem zX0 {i:Nat} {a:Act} {w:World} {K K' : Act->World->Prop} (h : ∀ a w,K a w->K' a w) (hh:sOp P ops q i K a w):sOp P ops q i K' a w:=by
 unfold sOp at *;split
 ·rename_i ho;simp only[ho] at hh
 ·rename_i o ho
  simp only[ho] at hh;split
  ·rename_i hw;simp only[hw,if_true] at hh
   obtain ⟨h1,nx,w1,h2,h3⟩:=hh;exact⟨h1,nx,w1,h2,h3.mono fun _ _ ⟨g1,g2⟩=>⟨g1,h _ _ g2⟩⟩
  ·rename_i hw;simp only[hw] at hh;exact h _ _ hh

theorem VA (b:FB) (k:List Item) (cs:List Frame) : ∀ (fuel t:Nat) (listed:Array Bool) (a:Act) (w:World),sAny P ops q Q fuel listed a w ->
 ∃ a' w',Q a' w' /\ Steps P (lone (b.at a (.inRegion ops (Region.linearise.go .any ops fuel t listed [])::k)) cs w) (lone (b.at a' k) cs w'):=by
 intro fuel
 induction fuel with
 | zero=>intro t listed a w h;exact⟨a,w,h.2,by simpa [Region.linearise.go] using Steps.one yQ⟩
 | succ fuel ih =>
   intro t listed a w h;obtain ⟨h₀,h₁⟩:=h;simp only[Region.linearise.go]
   change ∃ a' w',Q a' w' /\ Steps P (lone (b.at a (.inRegion ops (match (Region.ready .any ops listed)[t % (Region.ready .any ops listed).length]? with
    | some i=>Region.linearise.go .any ops fuel (t / (Region.ready .any ops listed).length) (listed.setIfInBounds i true) [i]
    | none=>[].reverse)::k)) cs w) (lone (b.at a' k) cs w')
   cases hi:(Region.ready .any ops listed)[t % (Region.ready .any ops listed).length]? with
   | none =>
     have hnil:Region.ready .any ops listed = []:=by
      cases hr:Region.ready .any ops listed with
      | nil=>rfl
      | cons x xs =>
        rw[hr] at hi;have hlt:t % (x::xs).length<(x::xs).length:=Nat.mod_lt _ (by simp);simp at hi;simp at hlt;omega
     exact⟨a,w,h₀ hnil,by simpa using Steps.one yQ⟩
   | some i =>
     simp only[];rw[linearise_go_acc,List.reverse_singleton,List.singleton_append];have hop:=h₁ i (List.mem_of_getElem? hi);unfold sOp at hop;split at hop
     ·exact hop.elim
     ·rename_i o ho
      split at hop
      ·rename_i hw
       obtain ⟨hd,nx,w1,hr,hn⟩:=hop;obtain ⟨v,w2,⟨_,hK⟩,hst⟩:=vX0 (P:=P) (b:=b) (k:=k) (cs:=cs) (rest:=Region.linearise.go .any ops fuel (t / (Region.ready .any ops listed).length) (listed.setIfInBounds i true) []) ho hw hd hr hn;obtain ⟨a',w',hQ,hst'⟩:=ih _ _ _ _ hK;exact⟨a',w',hQ,hst.trans hst'⟩
      ·rename_i hw
       obtain ⟨a',w',hQ,hst'⟩:=ih (t / (Region.ready .any ops listed).length) _ _ _ hop;refine⟨a',w',hQ, .head ?_ hst'⟩;have:=ZG (P:=P) (b:=b) (a:=a) (k:=k) (cs:=cs) (w:=w) (ops:=ops) (i:=i) (rest:=Region.linearise.go .any ops fuel (t / (Region.ready .any ops listed).length) (listed.setIfInBounds i true) []) (by rw[ho];simpa using hw);rw[ho] at this;exact this

def waitsFor (bf:Array Nat) (j i:Nat):Bool:=(bf.getD j 0).testBit i

def DC (bf:Array Nat) (listed:Array Bool):Prop := ∀ j,listed.getD j false=true->∀ i,waitsFor bf j i=true->listed.getD i false=true
def Closed (ops:Array Oper) (bf:Array Nat):Prop := ∀ j o,ops[j]? = some o->∀ i,waitsFor bf j i=true->∃ e∈o.after,Region.binds .any e=true/\(e.on=i\/waitsFor bf e.on i=true)

theorem Qe {bf:Array Nat} {listed:Array Bool} (hc:Closed ops bf) (hd:DC bf listed) {j:Nat} (hj:j∈Region.ready .any ops listed) {i:Nat} (hi:waitsFor bf j i=true):listed.getD i false=true:=by
 obtain ⟨_,o,ho,hall⟩:=mem_ready.1 hj;obtain ⟨e,he,hb,hor⟩:=hc j o ho i hi;have h1:=hall e he hb;rcases hor with rfl | hor
 ·exact h1
 ·exact hd _ h1 i hor

theorem Wh {bf:Array Nat} {listed:Array Bool} (hc:Closed ops bf) (hd:DC bf listed) {j:Nat} (hj:j∈Region.ready .any ops listed):DC bf (listed.setIfInBounds j true):=by
 intro k hk i hi;by_cases hkj:j=k
 ·subst hkj;exact getD_set_true (Qe hc hd hj hi)
 ·rw[getD_set_ne false hkj] at hk
  exact getD_set_true (hd k hk i hi)

theorem Qu {listed:Array Bool} {i:Nat} (hi:i∈Region.ready .any ops listed):listed.getD i false=false:=by
 have h0:=(mem_ready.1 hi).1;rcases Nat.lt_or_ge i listed.size with h' | h'
 ·simp[h'] at h0 ⊢; exact h0
 ·simp[Array.getElem?_eq_none h']

def YV (P:Program) (ops:Array Oper) (o:Oper) (v:Value) (a:Act) (w:World):Prop :=
 (Region.wanted o (yielded ops a.tmps)=true/\Op.isDefer o.op=false/\∀ w',(zV o.op=true->ExtW w w')->(execOp a.eval o).run P w' = .ok (.value v) w') \/
 (Region.wanted o (yielded ops a.tmps)=false/\v=undef)

theorem YV.sOp {i:Nat} {o:Oper} {v:Value} {a:Act} {w:World} (hi:ops[i]? = some o) (hy:YV P ops o v a w) {K:Act->World->Prop} (h:K (a.put o.dst v) w):sOp P ops q i K a w:=by
 unfold Af.sOp;simp only[hi];rcases hy with ⟨hw,hd,hv⟩ | ⟨hw,rfl⟩
 ·simp only[hw,if_true];exact⟨hd,_,_,hv w (fun _=>.refl w),fun _=>.refl w,h⟩
 ·simp only[hw,Bool.false_eq_true,if_false];exact h

theorem YV.of_same {o:Oper} {v:Value} {a a' : Act} {w w' : World} (hy:YV P ops o v a w) (hx:zV o.op=true->ExtW w w') (he:execOp a'.eval o=execOp a.eval o)
 (hw:Region.wanted o (yielded ops a'.tmps)=Region.wanted o (yielded ops a.tmps)):YV P ops o v a' w' := by
 unfold YV at *;rw[he,hw];rcases hy with ⟨h1,h2,h3⟩ | h
 ·exact .inl ⟨h1,h2,fun w'' hx' => h3 w'' (fun hr=>(hx hr).trans (hx' hr))⟩
 ·exact .inr h

theorem xJ {bf:Array Nat} (hc:Closed ops bf) {i:Nat} {oi:Oper} {v:Value} (hi:ops[i]? = some oi) (hsel : ∀ (j:Nat) (o:Oper) cs b,ops[j]? = some o->o.op ≠ .select cs b) :
 ∀ (fuel:Nat) (listed:Array Bool) (a:Act) (w:World),DC bf listed ->
   (∀ j oj,ops[j]? = some oj->j≠i->listed.getD j true=false->waitsFor bf j i=false->oi.apart ops oj=true/\(zV oi.op=true->q j=true)) ->
   i∈Region.ready .any ops listed->YV P ops oi v a w ->
   sAny P ops q Q fuel (listed.setIfInBounds i true) (a.put oi.dst v) w->sAny P ops q Q (fuel+1) listed a w:=by
 intro fuel
 induction fuel with
 | zero =>
   intro listed a w _ _ hr hy H;refine⟨fun h=>(by rw[h] at hr;cases hr),fun j hj=>?_⟩;by_cases hji:j=i
   ·subst hji;exact hy.sOp hi H
   ·have:=ready_mono hj hji
    rw[H.1] at this;cases this
 | succ fuel ih =>
   intro listed a w hdc hfree hr hy H;refine⟨fun h=>(by rw[h] at hr;cases hr),fun j hj=>?_⟩;by_cases hji:j=i
   ·subst hji;exact hy.sOp hi H
   ·have h1:=H.2 j (ready_mono hj hji)
    obtain ⟨hjun,oj,hoj,hall⟩:=mem_ready.1 hj
    have hnw:waitsFor bf j i=false:=by
     cases hwf:waitsFor bf j i with
     | false=>rfl
     | true =>
       have:=Qe hc hdc hj hwf;rw[Qu hr] at this;cases this
    obtain ⟨hap,hqj⟩:=hfree j oj hoj hji hjun hnw;obtain ⟨p1,p2,p3⟩:=Oper.apart_spec hap;have hsi:=fun cs b=>hsel i oi cs b hi
    have hsj:=fun cs b=>hsel j oj cs b hoj
    have hfree' : ∀ k ok,ops[k]? = some ok->k≠i->(listed.setIfInBounds j true).getD k true=false->waitsFor bf k i=false->oi.apart ops ok=true/\(zV oi.op=true->q k=true):=fun k ok hk hki hun hno=>by
     refine hfree k ok hk hki ?_ hno;by_cases hjk:j=k
     ·subst hjk;exact hjun
     ·rw[getD_set_ne true hjk] at hun;exact hun
    have next : ∀ (u:Value) (w'' : World),(zV oi.op=true->ExtW w w'')->sAny P ops q Q fuel ((listed.setIfInBounds i true).setIfInBounds j true) ((a.put oi.dst v).put oj.dst u) w'' ->
     sAny P ops q Q (fuel+1) (listed.setIfInBounds j true) (a.put oj.dst u) w'' := fun u w'' hx hh=>by
     refine ih (listed.setIfInBounds j true) (a.put oj.dst u) w'' (Wh hc hdc hj) hfree' (ready_mono hr (Ne.symm hji)) (hy.of_same hx (execOp_put oi hsi a oj.dst u p3) (wanted_put oi a oj.dst u p3)) ?_;rw[Array.setIfInBounds_comm _ _ hji,<- Act.put_comm a v u p2];exact hh
    unfold sOp at h1 ⊢;simp only[hoj] at h1 ⊢;rw[wanted_put oj a oi.dst v p1,execOp_put oj hsj a oi.dst v p1] at h1;split
    ·rename_i hw
     simp only[hw,if_true] at h1;obtain ⟨g1,nx,w1,g2,g3⟩:=h1;exact⟨g1,nx,w1,g2,g3.mono fun u w'' ⟨k1,k2⟩=>⟨k1,next u w'' (fun hr=>k1 (hqj hr)) k2⟩⟩
    ·rename_i hw
     simp only[hw] at h1;exact next undef w (fun _=>.refl w) h1

theorem WR {bf:Array Nat} (hc:Closed ops bf) {i fuel:Nat} {listed:Array Bool} {a:Act} {w:World} (hdc:DC bf listed) (hr:i∈Region.ready .any ops listed)
 (hall : ∀ j oj,ops[j]? = some oj->j≠i->listed.getD j true=false->waitsFor bf j i=true) (h:sOp P ops q i (sAny P ops q Q fuel (listed.setIfInBounds i true)) a w):sAny P ops q Q (fuel+1) listed a w:=by
 refine⟨fun h=>(by rw[h] at hr;cases hr),fun j hj=>?_⟩;by_cases hji:j=i
 ·subst hji;exact h
 ·obtain ⟨hjun,oj,hoj,_⟩:=mem_ready.1 hj
  have:=Qe hc hdc hj (hall j oj hoj hji hjun);rw[Qu hr] at this;cases this
end

/-! ### The computation -/

def QK (ops:Array Oper) (bf:Array Nat):Bool :=
 (List.range ops.size).all fun j=>match ops[j]? with
   | none=>true
   | some o=>(List.range (Nat.log2 (bf.getD j 0)+1)).all fun i => !waitsFor bf j i||o.after.any fun e=>Region.binds .any e&&(e.on == i||waitsFor bf e.on i)

theorem uV {ops:Array Oper} {bf:Array Nat} (h:QK ops bf=true):Closed ops bf:=by
 intro j o ho i hi;unfold QK at h;rw[List.all_eq_true] at h;have h1:=h j (List.mem_range.2 (Array.getElem?_eq_some_iff.1 ho).1);simp only[ho] at h1;rw[List.all_eq_true] at h1
 have hlt:i<Nat.log2 (bf.getD j 0)+1:=by
  rcases Nat.lt_or_ge i (Nat.log2 (bf.getD j 0)+1) with h | h
  ·exact h
  ·have:bf.getD j 0<2 ^ i:=Nat.lt_of_lt_of_le Nat.lt_log2_self (Nat.pow_le_pow_right (by omega) h)
   have:=Nat.testBit_lt_two_pow this;simp only[waitsFor] at hi;rw[hi] at this;cases this
 have h2:=h1 i (List.mem_range.2 hlt);simp only[hi,Bool.not_true,Bool.false_or] at h2;obtain ⟨e,he,hb⟩:=Array.any_eq_true'.1 h2;simp only[Bool.and_eq_true,Bool.or_eq_true,beq_iff_eq] at hb;exact⟨e,he,hb.1,hb.2⟩

def Va (ops:Array Oper) (bf:Array Nat) (q:Nat->Bool):List Nat->Array Bool->Bool
 | [],listed=>(Region.ready .any ops listed).isEmpty
 | i::r,listed=>(Region.ready .any ops listed).contains i &&
   (match ops[i]? with
    | none=>false
    | some oi=>(List.range ops.size).all fun j=>j == i||listed.getD j true||waitsFor bf j i||(uC oi.op&&(match ops[j]? with | some oj=>oi.apart ops oj&&(!zV oi.op||q j) | none=>true))) &&
   Va ops bf q r (listed.setIfInBounds i true)

def wT0 (ops:Array Oper) (bf:Array Nat) (qs:List Bool) (σ : List Nat):Bool :=
 Region.noSelect ops&&QK ops bf&&(σ.length == ops.size)&&Va ops bf (fun i=>qs.getD i false) σ (Array.replicate ops.size false)

def uf:List Oper->Nat->Option Oper
 | [],_=>none
 | o::_,0=>some o
 | _::r,n+1=>uf r n
theorem yZ : ∀ (l:List Oper) (n:Nat),uf l n=l[n]?
 | [],_=>by simp[uf]
 | o::_,0=>rfl
 | o::r,n+1=>by simpa [uf] using yZ r n
def bAt:List Bool->Nat->Bool
 | [],_=>false
 | b::_,0=>b
 | _::r,n+1=>bAt r n
theorem qu0 : ∀ (l:List Bool) (n:Nat),bAt l n=l.getD n false
 | [],_=>by simp[bAt]
 | o::_,0=>rfl
 | o::r,n+1=>by simpa [bAt] using qu0 r n

def WJ (P:Program) (T:TT) (b:Bool) (o:Op) (sl:List (Nat × Value)) (H:List Blk) (K:Value->List Blk->Prop):Prop :=
 match b with
 | true=>Zw P T o sl H K
 | false=>ZA P T o sl H K

def Qx (P:Program) (T:TT) (n:Nat) (all:List Oper) (qs:List Bool):List Nat->(List (Nat × Value)->List Blk->Prop)->List (Nat × Value)->List Blk->Prop
 | [],K,sl,H=>K sl H
 | i::r,K,sl,H=>match uf all i with
   | some o=>uB all o.guard sl (fun sl=>WJ P T (bAt qs i) o.op sl H (fun v H' => putK n o.dst v sl (fun sl' => Qx P T n all qs r K sl' H')))
      (fun sl=>putK n o.dst undef sl (fun sl' => Qx P T n all qs r K sl' H))
   | none=>False

section
variable {P:Program} {T:TT}

theorem WF {o:Op} {sl:List (Nat × Value)} {H:List Blk} {K:Value->List Blk->Prop} (hv:uC o=true) (h:Zw P T o sl H K):qC P T o sl H K:=by
 unfold Zw at h;split at h
 ·rename_i c
  obtain ⟨callee,args,ats⟩:=c
  cases callee with
  | value f=>cases hv
  | invoke r n=>cases hv
  | builtin b=>simpa [hv] using h
 ·simpa [hv] using h
theorem Zl {o:Op} {sl:List (Nat × Value)} {H:List Blk} {K:Value->List Blk->Prop} (hv:uC o=true) (h:ZA P T o sl H K):qC P T o sl H K:=by
 unfold ZA at h;split at h
 ·rename_i c
  obtain ⟨callee,args,ats⟩:=c
  cases callee with
  | value f=>cases hv
  | invoke r n=>cases hv
  | builtin b=>exact h
 ·exact h

theorem WH (hT:TOk P T) {all:List Oper} {bf:Array Nat} {qs:List Bool} (hc:Closed all.toArray bf) (hsel:Region.noSelect all.toArray=true) {n n0:Nat} {m0:LM} {H0:List Blk} {w0:World} {K:List (Nat × Value)->List Blk->Prop} :
 ∀ (σ : List Nat) (listed:Array Bool) (_:Va all.toArray bf (fun i=>qs.getD i false) σ listed=true) (_:DC bf listed) {sl:List (Nat × Value)} {H:List Blk} (_:Qx P T n all qs σ K sl H) {m:LM} {aR:Act} {w:World}
   (_:SRel m { n,sl } H aR w) (_:Fr n0 m0 H0 w0 m H w) (_:n0<=H.length) {dfs:List Deferred} (_:aR.defers=dfs),
   sAny P all.toArray (fun i=>qs.getD i false) (fun aR' w' => ∃ sl' H' m',K sl' H' /\ SRel m' { n,sl:=sl' } H' aR' w' /\ Fr n0 m0 H0 w0 m' H' w' /\ aR'.defers=dfs) σ.length listed aR w
 | [],listed,hB,hdc,sl,H,h,m,aR,w,hs,hf,hn,dfs,hdf=>by
   simp only[Va] at hB;exact⟨by simpa using hB,sl,H,m,h,hs,hf,hdf⟩
 | i::r,listed,hB,hdc,sl,H,h,m,aR,w,hs,hf,hn,dfs,hdf=>by
   simp only[Va,Bool.and_eq_true] at hB;obtain ⟨⟨hr,hall⟩,hB'⟩:=hB;have hr' : i∈Region.ready .any all.toArray listed:=by simpa using hr
   simp only[Qx,yZ] at h
   cases ho:all[i]? with
   | none=>rw[ho] at h;exact h.elim
   | some o =>
     rw[ho] at h;have ho' : all.toArray[i]? = some o:=by simpa using ho
     simp only[ho',List.all_eq_true,List.mem_range,Bool.or_eq_true,beq_iff_eq,Bool.and_eq_true] at hall;have hdc' := Wh hc hdc hr';obtain ⟨sl',hsl,hg⟩:=yf (aR:=aR) h hs.sl o rfl;simp only[List.length_cons]
     -- what follows a value
     have go : ∀ {v:Value} {H' : List Blk} {m' : LM} {vR:Value} {w' : World},putK n o.dst v sl' (fun sl'' => Qx P T n all qs r K sl'' H')->VRel m' v vR->HRel m' H' w' -> Fr H.length m H w m' H' w' ->
      sAny P all.toArray (fun i=>qs.getD i false) (fun aR' w' => ∃ sl' H' m',K sl' H' /\ SRel m' { n,sl:=sl' } H' aR' w' /\ Fr n0 m0 H0 w0 m' H' w' /\ aR'.defers=dfs) r.length (listed.setIfInBounds i true) (aR.put o.dst vR) w' := by
      intro v H' m' vR w' hk hv hh hf';have hle:m.le m' := hf'.le hs.heap.dom;obtain ⟨sl2,hk2,hs2,hn2,hd2⟩:=xO (aR:=aR) hk (hsl.mono hle) hs.n hv;have hfw:=hf'.weaken hn (Nat.le_refl _);exact WH hT hc hsel r _ hB' hdc' hk2 ⟨hn2,hs2,by rw[hd2];exact hs.df.keep hf'.keep,hh⟩ (hf.trans hfw) (hfw.len hn) (hd2.trans hdf)
     by_cases hv:uC o.op=true
     ·-- it may be taken first
      have hfree : ∀ j oj,all.toArray[j]? = some oj->j≠i->listed.getD j true=false->waitsFor bf j i=false->o.apart all.toArray oj=true/\(zV o.op=true->qs.getD j false=true):=fun j oj hj hne hun hno=>by
       have h1:=hall j (Array.getElem?_eq_some_iff.1 hj).1;simp only[hne,false_or,hun,hno,hj,Bool.false_eq_true] at h1;have h2:=h1.2;rw[Bool.and_eq_true] at h2;refine⟨h2.1,fun hr=>?_⟩;have h3:=h2.2;rw[hr] at h3;simpa using h3
      rcases hg with ⟨hw,hg⟩ | ⟨hw,hg⟩
      ·have ha:qC P T o.op sl' H (fun v H' => putK n o.dst v sl' (fun sl' => Qx P T n all qs r K sl' H')):=by
        unfold WJ at hg;split at hg
        ·exact WF hv hg
        ·exact Zl hv hg
       obtain ⟨hV,hd⟩:=yL hT hv ha;obtain ⟨v,vR,h1,h2,h3⟩:=hV m aR w hsl hs.heap;exact xJ hc ho' (Region.noSelect_spec hsel) _ _ _ _ hdc hfree hr' (.inl ⟨hw,hd,h2⟩) (go h1 h3 hs.heap (.refl _ _ _ _))
      ·exact xJ hc ho' (Region.noSelect_spec hsel) _ _ _ _ hdc hfree hr' (.inr ⟨hw,rfl⟩) (go hg (VRel.plain m 6 _ rfl) hs.heap (.refl _ _ _ _))
     ·have hforce : ∀ j oj,all.toArray[j]? = some oj->j≠i->listed.getD j true=false->waitsFor bf j i=true:=fun j oj hj hne hun=>by
       have h1:=hall j (Array.getElem?_eq_some_iff.1 hj).1;simp only[hne,false_or,hun,Bool.false_eq_true] at h1;rcases h1 with h1 | h1
       ·exact h1
       ·exact absurd h1.1 hv
      refine WR hc hdc hr' hforce ?_;unfold sOp;simp only[ho'];rcases hg with ⟨hw,hg⟩ | ⟨hw,hg⟩
      ·simp only[hw,if_true]
       unfold WJ at hg;rw[qu0] at hg;split at hg
       ·rename_i hq
        obtain ⟨hX,hd⟩:=WG hT hg;obtain ⟨nx,w1,h1,h2⟩:=hX m aR w hsl hs.heap;exact⟨hd,nx,w1,h1,h2.mono fun vR w' ⟨⟨v,H',m',k1,k2,k3,k4⟩,k5⟩=>⟨fun _=>k5,go k1 k2 k3 k4⟩⟩
       ·rename_i hq
        obtain ⟨hS,hd⟩:=ut hT hg;obtain ⟨nx,w1,h1,h2⟩:=hS m aR w hsl hs.heap;exact⟨hd,nx,w1,h1,h2.mono fun vR w' ⟨v,H',m',k1,k2,k3,k4⟩=>⟨fun hq' => absurd hq' (by rw[hq];simp),go k1 k2 k3 k4⟩⟩
      ·simp only[hw,Bool.false_eq_true,if_false]
       exact go hg (VRel.plain m 6 _ rfl) hs.heap (.refl _ _ _ _)

theorem yb0 (hT:TOk P T) (hm:P.follows .mixedOrders=true) {n0:Nat} {Q:Ex->AF->List Blk->Prop} {a:AF} {H:List Blk} {id:Nat} {ops:List Oper} (bf:List Nat) (qs:List Bool) (σ : List Nat) (hB:wT0 ops.toArray bf.toArray qs σ = true)
 (h:Qx P T a.n ops qs σ (fun sl H=>Q .normal { n:=a.n,sl:=sl } H) a.sl H):awp P rd n0 (.region id ops.toArray true) Q a H:=by
 intro hn m aR w hs b k cs hb;simp only[wT0,Bool.and_eq_true,beq_iff_eq] at hB;obtain ⟨⟨⟨h1,h2⟩,h3⟩,h4⟩:=hB
 have hdc:DC bf.toArray (Array.replicate ops.toArray.size false):=fun j hj=>by
  rcases Nat.lt_or_ge j ops.toArray.size with h | h
  ·simp at h;simp[h] at hj
  ·simp at h;simp[h] at hj
 have hs' : SRel m { n:=a.n,sl:=a.sl } H aR { w with drawn:=w.drawn+1 }:=⟨hs.n,hs.sl,DfOk.keep (w:=w) (w' := { w with drawn:=w.drawn+1 }) (m:=m) (m' := m) (H:=H) (H' := H) (fun _ _ h=>⟨rfl,h⟩) hs.df,hs.heap.drawn _⟩;have hany:=WH hT (uV h2) h1 (n:=a.n) (n0:=n0) (m0:=m) (H0:=H) (w0:=w) σ _ h4 hdc h (w := { w with drawn:=w.drawn+1 }) hs' (Fr.drawn _) hn rfl;rw[h3] at hany;obtain ⟨aR',w',⟨sl',H',m',k1,k2,k3,k4⟩,hst⟩:=VA b k cs ops.toArray.size (w.tape w.drawn (.order b.fn id)) _ _ _ hany;refine⟨.normal,_,H',m',aR',w',k1,k2,⟨k3, .of_eq k4⟩, .head yA ?_⟩
 simpa [Region.schedule,hm,Region.linearise] using hst

end
end Go.Af
namespace Go.Af
open Go

noncomputable def nget (l:List Nat):Nat->Nat:=List.rec (motive:=fun _=>Nat->Nat) (fun _=>0) (fun m _ ih j=>Nat.rec (motive:=fun _=>Nat) m (fun j' _=>ih j') j) l
theorem Ul : ∀ (l:List Nat) (j:Nat),nget l j=l.getD j 0
 | [],j=>by simp[nget]
 | m::l,0=>rfl
 | m::l,j+1=>by
   have:=Ul l j
   simpa [nget] using this
noncomputable def oget (l:List Oper):Nat->Option Oper:=List.rec (motive:=fun _=>Nat->Option Oper) (fun _=>none) (fun m _ ih j=>Nat.rec (motive:=fun _=>Option Oper) (some m) (fun j' _=>ih j') j) l
theorem Uk : ∀ (l:List Oper) (j:Nat),oget l j=l[j]?
 | [],j=>by simp[oget]
 | m::l,0=>rfl
 | m::l,j+1=>by
   have:=Uk l j
   simpa [oget] using this
noncomputable def VK (o:Oper):Nat:=List.rec 0 (fun e _ ih=>Bool.rec ih (Nat.lor (Nat.shiftLeft 1 e.on) ih) (Region.binds .any e)) o.after.toList
noncomputable def covF (bf:List Nat) (o:Oper):Nat:=List.rec 0 (fun e _ ih=>Bool.rec ih (Nat.lor (Nat.lor (Nat.shiftLeft 1 e.on) (nget bf e.on)) ih) (Region.binds .any e)) o.after.toList
noncomputable def XK (bf:List Nat) (ops:List Oper):List Nat->Bool :=
 List.rec (motive:=fun _=>List Nat->Bool) (fun _=>true) (fun o _ ih ms=>List.rec true (fun m ms _=>Bool.rec false (ih ms) (Nat.beq (Nat.land m (covF bf o)) m)) ms) ops
noncomputable def tbF (m i:Nat):Bool:=Nat.beq (Nat.land (Nat.shiftRight m i) 1) 1
noncomputable def Yi (ops:Array Oper) (opl:List Oper) (bf:List Nat) (qs:List Bool) (i:Nat) (oi:Oper) (j:Nat):Bool :=
 Bool.rec (Bool.rec false (Option.rec true (fun oj=>Bool.rec false (Bool.rec true (bAt qs j) (zV oi.op)) (oi.apart ops oj)) (oget opl j)) (uC oi.op)) true (tbF (nget bf j) i)
noncomputable def Za (ops:Array Oper) (opl:List Oper) (bf:List Nat) (qs:List Bool) (σ : List Nat):Nat->Bool :=
 List.rec (motive:=fun _=>Nat->Bool) (fun L=>Nat.beq L (Nat.sub (Nat.shiftLeft 1 opl.length) 1))
  (fun i r ih L=>Option.rec false (fun oi=>Bool.rec (Bool.rec false (Bool.rec false (ih (Nat.lor L (Nat.shiftLeft 1 i))) (List.rec true (fun j _ ih2=>Bool.rec false ih2 (Yi ops opl bf qs i oi j)) r)) (Nat.beq (Nat.land L (VK oi)) (VK oi))) false (tbF L i)) (oget opl i)) σ
noncomputable def Qn0 (ops:Array Oper) (bf:List Nat) (qs:List Bool) (σ : List Nat):Bool :=
 Bool.rec false (Bool.rec false (Bool.rec false (Za ops ops.toList bf qs σ 0) (Nat.beq σ.length ops.toList.length)) (XK bf ops.toList bf)) (Region.noSelect ops)

theorem yr0 (m i:Nat):tbF m i=m.testBit i:=by
 unfold tbF Nat.testBit;have h1:Nat.land (Nat.shiftRight m i) 1=1 &&& (m >>> i):=by rw[Nat.and_comm];rfl
 rw[h1];have h2:1 &&& (m >>> i)=(m >>> i) % 2:=Nat.one_and_eq_mod_two _;rw[h2];rcases Nat.mod_two_eq_zero_or_one (m >>> i) with h | h <;> rw[h] <;> rfl
theorem brB {t:Bool} {b:Bool} (h:Bool.rec (motive:=fun _=>Bool) false t b=true):b=true/\t=true:=by cases b <;> simp_all
theorem shl1 (k i:Nat):(Nat.shiftLeft 1 k).testBit i=decide (k=i):=by
 show (1 <<< k).testBit i=_;rw[Nat.shiftLeft_eq,Nat.one_mul,Nat.testBit_two_pow]
theorem xo0 {m c:Nat} (h:Nat.beq (Nat.land m c) m=true) {i:Nat} (hi:m.testBit i=true):c.testBit i=true:=by
 have h1:m &&& c=m:=Nat.eq_of_beq_eq_true h;rw[<- h1,Nat.testBit_and] at hi
 simp_all
theorem Zi {α : Type} {b : α->Bool} {f : α->Nat} {i:Nat} : ∀ {l:List α},Nat.testBit (List.rec (motive:=fun _=>Nat) 0 (fun e _ ih=>Bool.rec ih (Nat.lor (f e) ih) (b e)) l) i=true↔∃ e∈l,b e=true/\(f e).testBit i=true
 | []=>by simp
 | e::l=>by
   have ih:=Zi (b:=b) (f:=f) (i:=i) (l:=l)
   cases hb:b e with
   | true =>
     show Nat.testBit (Bool.rec (motive:=fun _=>Nat) _ (Nat.lor (f e) _) (b e)) i=true↔_;rw[hb];show Nat.testBit (f e ||| _) i=true↔_;rw[Nat.testBit_or,Bool.or_eq_true,ih];simp[hb]
   | false =>
     show Nat.testBit (Bool.rec (motive:=fun _=>Nat) _ (Nat.lor (f e) _) (b e)) i=true↔_;rw[hb];rw[show (Bool.rec (motive:=fun _=>Nat) (List.rec (motive:=fun _=>Nat) 0 (fun e _ ih=>Bool.rec ih (Nat.lor (f e) ih) (b e)) l) (Nat.lor (f e) (List.rec (motive:=fun _=>Nat) 0 (fun e _ ih=>Bool.rec ih (Nat.lor (f e) ih) (b e)) l)) false)=(List.rec (motive:=fun _=>Nat) 0 (fun e _ ih=>Bool.rec ih (Nat.lor (f e) ih) (b e)) l) from rfl,ih];simp[hb]
theorem qW0 {o:Oper} {L:Nat} (h:Nat.beq (Nat.land L (VK o)) (VK o)=true) {e:Edge} (he:e∈o.after) (hb:Region.binds .any e=true):L.testBit e.on=true:=by
 have h1:(VK o).testBit e.on=true:=(Zi (b:=Region.binds .any) (f:=fun e:Edge=>Nat.shiftLeft 1 e.on)).2 ⟨e,by simpa using he,hb,by rw[shl1];simp⟩;have h2:L &&& VK o=VK o:=Nat.eq_of_beq_eq_true h;rw[<- h2,Nat.testBit_and] at h1
 simp_all
theorem Wi {bf:List Nat} : ∀ {ops:List Oper} {ms:List Nat},XK bf ops ms=true->∀ (j:Nat) (o:Oper),ops[j]? = some o->∀ i,(ms.getD j 0).testBit i=true->(covF bf o).testBit i=true
 | [],ms,h,j,o,ho,i,hi=>by simp at ho
 | x::ops,[],h,j,o,ho,i,hi=>by simp at hi
 | x::ops,m::ms,h,j,o,ho,i,hi=>by
   obtain ⟨h1,h2⟩:=brB (show Bool.rec (motive:=fun _=>Bool) false (XK bf ops ms) (Nat.beq (Nat.land m (covF bf x)) m)=true from h)
   cases j with
   | zero =>
     cases ho;exact xo0 h1 (by simpa using hi)
   | succ j=>exact Wi h2 j o (by simpa using ho) i (by simpa using hi)
theorem wY0 {bf:List Nat} {o:Oper} {i:Nat} (h:(covF bf o).testBit i=true) : ∃ e∈o.after,Region.binds .any e=true/\(e.on=i\/waitsFor bf.toArray e.on i=true):=by
 obtain ⟨e,he,hb,hi⟩:=(Zi (b:=Region.binds .any) (f:=fun e:Edge=>Nat.lor (Nat.shiftLeft 1 e.on) (nget bf e.on))).1 h;refine⟨e,by simpa using he,hb, ?_⟩;have hi:((Nat.shiftLeft 1 e.on) ||| (nget bf e.on)).testBit i=true:=hi;rw[Nat.testBit_or,Bool.or_eq_true,shl1,Ul] at hi;rcases hi with hi | hi
 ·exact .inl (by simpa using hi)
 ·right;unfold waitsFor;simpa [List.getD] using hi

theorem qY0 {ops:Array Oper} {bf:List Nat} (h:XK bf ops.toList bf=true):QK ops bf.toArray=true:=by
 unfold QK;rw[List.all_eq_true];intro j hj
 cases ho:ops[j]? with
 | none=>rfl
 | some o =>
   simp only;rw[List.all_eq_true];intro i _
   cases hw:waitsFor bf.toArray j i with
   | false=>rfl
   | true =>
     have h1:=Wi h j o (by simpa using ho) i (by simpa [waitsFor,List.getD] using hw);obtain ⟨e,he,hb,hor⟩:=wY0 h1;simp only[Bool.not_true,Bool.false_or];refine Array.any_eq_true'.2 ⟨e,he, ?_⟩;simp only[Bool.and_eq_true,Bool.or_eq_true,beq_iff_eq];exact⟨hb,hor⟩

theorem WZ {ops:Array Oper} {opl:List Oper} {bf:List Nat} {qs:List Bool} {i:Nat} {r:List Nat} {L:Nat} (h:Za ops opl bf qs (i::r) L=true) :
 ∃ oi,opl[i]? = some oi/\L.testBit i=false/\Nat.beq (Nat.land L (VK oi)) (VK oi)=true/\(∀ j∈r,Yi ops opl bf qs i oi j=true)/\Za ops opl bf qs r (Nat.lor L (Nat.shiftLeft 1 i))=true:=by
 have h' : Option.rec (motive:=fun _=>Bool) false (fun oi=>Bool.rec (Bool.rec false (Bool.rec false (Za ops opl bf qs r (Nat.lor L (Nat.shiftLeft 1 i))) (List.rec true (fun j _ ih2=>Bool.rec false ih2 (Yi ops opl bf qs i oi j)) r)) (Nat.beq (Nat.land L (VK oi)) (VK oi))) false (tbF L i)) (oget opl i)=true:=h;rw[Uk] at h'
 cases ho:opl[i]? with
 | none=>rw[ho] at h'; cases h'
 | some oi =>
   rw[ho] at h';have h' : Bool.rec (motive:=fun _=>Bool) (Bool.rec (motive:=fun _=>Bool) false (Bool.rec (motive:=fun _=>Bool) false (Za ops opl bf qs r (Nat.lor L (Nat.shiftLeft 1 i))) (List.rec (motive:=fun _=>Bool) true (fun j _ ih2=>Bool.rec (motive:=fun _=>Bool) false ih2 (Yi ops opl bf qs i oi j)) r)) (Nat.beq (Nat.land L (VK oi)) (VK oi))) false (tbF L i)=true:=h'
   cases ht:tbF L i with
   | true=>rw[ht] at h'; cases h'
   | false =>
     rw[ht] at h';obtain ⟨h1,h2⟩:=brB (show Bool.rec (motive:=fun _=>Bool) false _ _=true from h');obtain ⟨h3,h4⟩:=brB h2;refine⟨oi,rfl,by rw[<- yr0];exact ht,h1, ?_,h4⟩
     have key : ∀ l:List Nat,List.rec (motive:=fun _=>Bool) true (fun j _ ih2=>Bool.rec (motive:=fun _=>Bool) false ih2 (Yi ops opl bf qs i oi j)) l=true->∀ j∈l,Yi ops opl bf qs i oi j=true:=by
      intro l
      induction l with
      | nil=>intro _ j hj;simp at hj
      | cons x l ih =>
        intro hl j hj;obtain ⟨g1,g2⟩:=brB (show Bool.rec (motive:=fun _=>Bool) false _ (Yi ops opl bf qs i oi x)=true from hl);rcases List.mem_cons.1 hj with rfl | hj
        ·exact g1
        ·exact ih g2 j hj
     exact key r h3
theorem VE {ops:Array Oper} {opl:List Oper} {bf:List Nat} {qs:List Bool} : ∀ {σ : List Nat} {L:Nat},Za ops opl bf qs σ L=true->∀ j,j<opl.length->L.testBit j=true\/j∈σ
 | [],L,h,j,hj=>by
   have h1:L=1 <<< opl.length-1:=Nat.eq_of_beq_eq_true h
   left
   rw[h1,Nat.shiftLeft_eq,Nat.one_mul,Nat.testBit_two_pow_sub_one]
   simpa using hj
 | i::r,L,h,j,hj=>by
   obtain ⟨oi,_,_,_,_,h5⟩:=WZ h;rcases VE h5 j hj with h6 | h6
   ·have h6:(L ||| Nat.shiftLeft 1 i).testBit j=true:=h6
    rw[Nat.testBit_or,Bool.or_eq_true,shl1] at h6;rcases h6 with h6 | h6
    ·exact .inl h6
    ·right;simp at h6;simp[h6]
   ·exact .inr (List.mem_cons_of_mem _ h6)

theorem Yj {ops:Array Oper} {bf:List Nat} {qs:List Bool} : ∀ {σ : List Nat} {L:Nat} {listed:Array Bool},Za ops ops.toList bf qs σ L=true->listed.size=ops.size->(∀ i,listed.getD i false=L.testBit i)->Va ops bf.toArray (fun i=>qs.getD i false) σ listed=true
 | [],L,listed,h,hs,hl=>by
   unfold Va;rw[List.isEmpty_iff,List.eq_nil_iff_forall_not_mem];intro j hj;obtain ⟨h1,o,ho,_⟩:=mem_ready.1 hj;have hlt:j<ops.size:=(Array.getElem?_eq_some_iff.1 ho).1;have h2:=(VE h j (by simpa using hlt)).resolve_right (by simp);rw[<- hl j] at h2;have h3:j<listed.size:=by omega
   simp[h3] at h1 h2;rw[h1] at h2;cases h2
 | i::r,L,listed,h,hs,hl=>by
   obtain ⟨oi,h1,h2,h3,h4,h5⟩:=WZ h;have ho:ops[i]? = some oi:=by simpa using h1
   have hlt:i<ops.size:=(Array.getElem?_eq_some_iff.1 ho).1;unfold Va;simp only[ho,Bool.and_eq_true];refine⟨⟨?_, ?_⟩, ?_⟩
   ·rw[List.contains_iff_mem]
    refine mem_ready.2 ⟨?_,oi,ho,fun e he hb=>?_⟩
    ·have h6:=hl i
     rw[h2] at h6;have h7:i<listed.size:=by omega
     simpa [h7] using h6
    ·rw[hl];exact qW0 h3 he hb
   ·rw[List.all_eq_true]
    intro j hj;have hjl:j<ops.size:=List.mem_range.1 hj;by_cases hji:j=i
    ·subst hji;simp
    cases hlj:L.testBit j with
    | true =>
      have h6:=hl j;rw[hlj] at h6;have h7:j<listed.size:=by omega
      have:listed.getD j true=true:=by simpa [h7] using h6
      simp[this]
    | false =>
      have h6:=(VE h j (by simpa using hjl)).resolve_left (by rw[hlj];simp)
      have h7:j∈r:=by
       rcases List.mem_cons.1 h6 with h | h
       ·exact absurd h hji
       ·exact h
      have h8:=h4 j h7;unfold Yi at h8;rw[yr0,Ul] at h8
      cases hw:(bf.getD j 0).testBit i with
      | true =>
        have:waitsFor bf.toArray j i=true:=by simpa [waitsFor,List.getD] using hw
        simp[this]
      | false =>
        rw[hw] at h8;obtain ⟨g1,g2⟩:=brB (show Bool.rec (motive:=fun _=>Bool) false _ (uC oi.op)=true from h8);rw[Uk] at g2
        cases hoj:ops[j]? with
        | none=>simp[g1]
        | some oj =>
          rw[show ops.toList[j]? = some oj by simpa using hoj] at g2;obtain ⟨k1,k2⟩:=brB (show Bool.rec (motive:=fun _=>Bool) false _ (oi.apart ops oj)=true from g2);simp only[g1,k1,Bool.true_and]
          cases hr:zV oi.op with
          | false=>simp
          | true =>
            rw[hr] at k2;have k2:bAt qs j=true:=k2;rw[qu0] at k2;simp only[k2];simp
   ·refine Yj h5 (by simpa using hs) (fun k=>?_)
    have e:(Nat.lor L (Nat.shiftLeft 1 i)).testBit k=(L.testBit k||decide (i=k)):=by
     show (L ||| Nat.shiftLeft 1 i).testBit k=_;rw[Nat.testBit_or,shl1]
    rw[e,<- hl k];by_cases hk:i=k
    ·subst hk
     have:i<listed.size:=by omega
     simp[this]
    ·simp[hk,Array.getElem?_setIfInBounds]
theorem xQ0 {ops:Array Oper} {bf:List Nat} {qs:List Bool} {σ : List Nat} (h:Qn0 ops bf qs σ = true):wT0 ops bf.toArray qs σ = true:=by
 obtain ⟨h1,h2⟩:=brB (show Bool.rec (motive:=fun _=>Bool) false _ (Region.noSelect ops)=true from h);obtain ⟨h3,h4⟩:=brB h2;obtain ⟨h5,h6⟩:=brB h4;unfold wT0;rw[h1,qY0 h3];have h7 : σ.length=ops.size:=by simpa using Nat.eq_of_beq_eq_true h5
 rw[Yj h6 (by simp) (fun i=>by
  by_cases hi:i<ops.size
  ·simp[hi]
  ·simp[hi])]
 simp[h7]
end Go.Af
namespace Go.Af
open Go
variable {H:List Blk}
variable {rd:Bool}

def Zz (pend:Option Code) (K:Ex->Prop):Prop :=
 match pend with
 | none=>K .normal
 | some (.exit id)=>K (.exit id)
 | some .ret=>K .ret
 | _=>False

def qx (l:Nat) (H:List Blk) (K:Ex->List Blk->Prop):Prop :=
 match bget H l with
 | some (.loop st pend n sl ps as body)=>match st with
   | .busy=>False
   | _=>zt H l (.loop .exhausted pend n sl ps as body) (fun H' => Zz pend (fun e=>K e H'))
 | _=>False

def roundEnd (l:Nat) (e:Ex) (H:List Blk) (R:Value->List Blk->Prop):Prop :=
 match bget H l with
 | some (.loop _ _ n sl ps as body)=>match e with
   | .normal=>zt H l (.loop .ready none n sl ps as body) (fun H' => R (.bool true) H')
   | .exit id=>zt H l (.loop .done (some (.exit id)) n sl ps as body) (fun H' => R (.bool false) H')
   | .ret=>zt H l (.loop .done (some .ret) n sl ps as body) (fun H' => R (.bool false) H')
 | _=>False

def qh (l:Nat) (H:List Blk) (K:List Blk->Prop):Prop :=
 match bget H l with
 | some (.loop .ready pend n sl ps as body)=>zt H l (.loop .busy pend n sl ps as body) K
 | _=>False

def Ws (n:Nat):List Tmp->List Value->List (Nat × Value)->(List (Nat × Value)->Prop)->Prop
 | [],[],sl,K=>K sl
 | p::ps,v::vs,sl,K=>match Nat.blt p n with
   | true=>Ws n ps vs ((p,v)::sl) K
   | false=>False
 | _,_,_,_=>False

section
variable {P:Program} {b:FB} {a:Act} {k:List Item} {cs:List Frame} {w:World}

theorem Vm (l:Nat) (v:Value):(b.at a (.inRangeFunc l::k)).finish v=b.at a (.endRangeFunc l::k):=by simp[Frame.finish,FB.at]

theorem WL {l:Nat} {jump:Option Code} {w' : World} (h:(Instr.endLoop l).run P w = .ok jump w') :
 step P (lone (b.at a (.endRangeFunc l::k)) cs w) = .next (lone (b.at a ((jump.map Item.code).toList++k)) cs w') :=
 step_lone_go (by simp[stepG,stepG.exec,FB.at,Sem.runT_eq,h,GStep.bare_after])

theorem XY {g:Operand} {ps:Array Tmp} {assign body:Code} {l:Nat} {mark:List Deferred} {w₁ w₁' w₂ : World} {d:Deferred} {f:FuncId} {args:Array Value}
 (he:(Instr.enterLoop b.fn a.tmps ps assign body b.roundOf).run P w = .ok (l,mark) w₁)
 (hres:(resolve a.eval { callee := .value g,args := #[.const (.func (.yield l) #[] #[])],argTypes := #[] } 0).run P w₁ = .ok d w₁') (hinv:(invoke d.target d.args).run P w₁' = .ok (.enter f args) w₂) :
 step P (lone (b.at a (.code (.rangeFunc g ps assign body)::k)) cs w) =
  .next (lone (Frame.enter P f args .normal) (b.at { a with defers:=mark++a.defers } (.inRangeFunc l::k)::cs) w₂) :=
 step_lone_go (by
  have hev:=FB.eval b { a with defers:=mark++a.defers } (.inRangeFunc l::k);simp only[FB.at] at hev;have hres' : Sem.run P (resolve ({ tmps:=a.tmps,defers:=mark++a.defers }:Act).eval { callee := .value g,args := #[.const (.func (.yield l) #[] #[])],argTypes := #[] } 0) w₁ = .ok d w₁' := hres
  simp[stepG,stepG.exec,FB.at,Sem.runT_eq,he,GStep.bare_after,stepG.apply,hev,Sem.run_bind,hres',hinv,Result.andThen])

theorem Xm {l:Nat} {w' : World} (hb:b.roundOf=some l) (hr:(Instr.beginRound l).run P w = .ok () w') :
 step P (lone (b.at a (.beginRound::k)) cs w) = .next (lone (b.at a k) cs w') :=
 step_lone_go (by simp[stepG,stepG.exec,stepG.apply,FB.at,hb,Sem.runT_eq,hr,Result.andThen,Frame.finish])

theorem XX {l:Nat} {c:Frame} {v:Value} {w' : World} (hb:b.roundOf=some l) (hk:b.kind = .normal) (hr:(Instr.endRound l none).run P w = .ok v w') :
 step P (lone (b.at a []) (c::cs) w) = .next (lone (c.finish v) cs w') :=
 step_lone_go (by simp[stepG,stepG.exec,FB.at,hb,hk,Sem.runT_eq,hr,doReturn])
theorem XW {l:Nat} {c:Frame} {v:Value} {w' : World} (hb:b.roundOf=some l) (hk:b.kind = .normal) (hr:(Instr.endRound l (some .ret)).run P w = .ok v w') :
 step P (lone (b.at a (.code .ret::k)) (c::cs) w) = .next (lone (c.finish v) cs w') :=
 step_lone_go (by simp[stepG,stepG.exec,FB.at,hb,hk,Sem.runT_eq,hr,doReturn])
theorem Xl {l id:Nat} {c:Frame} {v:Value} {w' : World} (hb:b.roundOf=some l) (hk:b.kind = .normal) (hx:exitTo id k=none) (hr:(Instr.endRound l (some (.exit id))).run P w = .ok v w') :
 step P (lone (b.at a (.code (.exit id)::k)) (c::cs) w) = .next (lone (c.finish v) cs w') :=
 step_lone_go (by simp[stepG,stepG.exec,FB.at,hb,hk,hx,Sem.runT_eq,hr,doReturn])

theorem Fr.push {n:Nat} {m:LM} {w:World} (o:Obj):Fr n m H w m H { w with heap:=w.heap.push o } :=
 ⟨by simp,id,fun _ _ _ h=>.inl h,fun _ _ h=>h,fun _ _ b h k=>⟨b,h,k⟩,fun _ hr h=>⟨zl hr,h⟩,⟨rfl,rfl,rfl,by first | exact Nat.le_refl _ | exact Nat.le_succ _ | (simp;done) | (simp;omega)⟩⟩

theorem Ve {m:LM} {w:World} (hh:HRel m H w) {l r:Nat} (hm:m l=some (.obj r)) {st:LoopState} {pend:Option Code} {n:Nat} {sl:List (Nat × Value)} {ps:Array Tmp} {as body:Code}
 (hb:H[l]? = some (.loop st pend n sl ps as body)) : ∃ tmps d fn,w.heap[r]? = some (.loop { state:=st,pending:=pend,fn,tmps,params:=ps,assign:=as,body,defers:=d })/\tmps.size=n/\zx m sl tmps :=
 hh.blk l _ _ hm (by simp) hb

theorem uQ {m:LM} {w:World} (hh:HRel m H w) {l r:Nat} (hm:m l=some (.obj r)) {st st' : LoopState} {pend pend' : Option Code} {n d:Nat} {fn:FuncId} {sl:List (Nat × Value)} {ps:Array Tmp} {as body:Code} {tmps:Array Value}
 (hb:H[l]? = some (.loop st pend n sl ps as body)) (hw:w.heap[r]? = some (.loop { state:=st,pending:=pend,fn,tmps,params:=ps,assign:=as,body,defers:=d })) (hn:tmps.size=n) (hs:zx m sl tmps) :
 HRel m (H.set l (.loop st' pend' n sl ps as body)) { w with heap:=w.heap.setIfInBounds r (.loop { state:=st',pending:=pend',fn,tmps,params:=ps,assign:=as,body,defers:=d }) } /\
 Fr H.length m H w m (H.set l (.loop st' pend' n sl ps as body)) { w with heap:=w.heap.setIfInBounds r (.loop { state:=st',pending:=pend',fn,tmps,params:=ps,assign:=as,body,defers:=d }) }:=by
 have hr:r<w.heap.size:=(Array.getElem?_eq_some_iff.1 hw).1;exact hh.setObj hm hb rfl (b' := .loop st' pend' n sl ps as body) ⟨tmps,d,fn,by show (w.heap.setIfInBounds r _)[r]? = _;simp[hr],hn,hs⟩

theorem wL0 {g:FuncId} {first captured:List Value} {m:LM} {yv:Value} {R:Value->List Blk->Prop} {fo:Operand} {a:Act} {lR:Nat} (hv:VRel m (.func (.func g) ⟨first⟩ ⟨captured⟩) (a.eval fo)) (hy:VRel m yv (.func (.yield lR) #[] #[]))
 (h:qj P g (first++(yv::captured)) H R) :
 ∃ d args,(∀ w,(resolve a.eval { callee := .value fo,args := #[.const (.func (.yield lR) #[] #[])],argTypes := #[] } 0).run P w = .ok d w)/\(∀ w,(invoke d.target d.args).run P w = .ok (.enter g args) w)/\LRel m (first++(yv::captured)) args.toList:=by
 obtain ⟨f',xs',ys',he,hfr,hx,hyy⟩:=hv.inv_func;cases hfr;refine⟨{ target := .fn (.func g) ys',args:=xs' ++ #[.func (.yield lR) #[] #[]] },xs' ++ #[.func (.yield lR) #[] #[]]++ys', ?_, ?_, ?_⟩
 ·intro w
  simp only[resolve,he,Deferred.ofValue];simp[Act.eval]
 ·intro w
  simp only[invoke,h.1]
 ·have:=hx.append (LRel.cons hy hyy)
  simpa using this

theorem zh0 {n0:Nat} {Q:Ex->AF->List Blk->Prop} {a:AF} {fo:Operand} {ps:Array Tmp} {as body:Code} {g:FuncId} {first captured:List Value} (hf:ev a.sl fo=some (.func (.func g) ⟨first⟩ ⟨captured⟩))
 (h:qj P g (first++(.func (.yield H.length) #[] #[]::captured)) (H ++ [.loop .ready none a.n a.sl ps as body]) (fun _ H2=>qx H.length H2 (fun e H3=>Q e a H3))) :
 awp P false n0 (.rangeFunc fo ps as body) Q a H:=by
 intro hn m aR w hs b k cs hb;have hro:=hb rfl
 -- the record is laid
 let wA:World := { w with heap:=w.heap.push (.deferred (some [])) }
 let lp:Obj := .loop { state := .ready,pending:=none,fn:=b.fn,tmps:=aR.tmps,params:=ps,assign:=as,body,defers:=w.heap.size }
 let wB:World := { wA with heap:=wA.heap.push lp }
 let lR:=w.heap.size+1
 let d0:Deferred := { target := .collected w.heap.size,args := #[] }
 have hsz:wA.heap.size=lR:=by simp[wA,lR]
 have hh0:HRel m H wA:=hs.heap.ext (.push _ _);have hnone:=hs.heap.none_len;have hlA:vI (some (Loc.obj lR))=some wA.heap.size:=by rw[hsz];rfl
 have hBR:BRel (m.put H.length (.obj lR)) (.loop .ready none a.n a.sl ps as body) (.obj lR) wB:=by
  refine⟨aR.tmps,w.heap.size,b.fn, ?_,hs.n,fun s v hv=>?_⟩
  ·show (wA.heap.push lp)[lR]? = _
   rw[<- hsz];simp[lp]
  ·obtain ⟨v',h1,h2⟩:=hs.sl s v hv
   exact⟨v',h1,h2.mono (LM.le_put hnone)⟩
 have hhB:HRel (m.put H.length (.obj lR)) (H ++ [.loop .ready none a.n a.sl ps as body]) wB:=hh0.alloc hlA hBR;have hfB:Fr H.length m H w (m.put H.length (.obj lR)) (H ++ [.loop .ready none a.n a.sl ps as body]) wB:=(Fr.push _).trans (Fr.alloc hh0 _ lp hlA);have hmB:(m.put H.length (.obj lR)) H.length=some (.obj lR):=LM.put_self _ _ _;have hv:VRel (m.put H.length (.obj lR)) (.func (.func g) ⟨first⟩ ⟨captured⟩) (aR.eval fo):=(qH hs.sl hf).mono (LM.le_put hnone);have hy:VRel (m.put H.length (.obj lR)) (.func (.yield H.length) #[] #[]) (.func (.yield lR) #[] #[]) := .func' (.yield _ _ hmB) (.nil _) (.nil _);obtain ⟨d,args,e1,e2,e3⟩:=wL0 (a:=aR) hv hy h
 have he:(Instr.enterLoop b.fn aR.tmps ps as body b.roundOf).run P w = .ok (lR,[d0]) wB:=by
  rw[hro];simp[Instr.enterLoop,newObj,Sem.run,wB,wA,lp,lR,d0]
 have hstep:=XY (P:=P) (b:=b) (a:=aR) (k:=k) (cs:=cs) he (e1 wB) (e2 wB);obtain ⟨v,w',⟨v2,H2,m2,hE,_,hh2,hf2⟩,hst⟩:=h.2 _ args wB e3 hhB (b.at { aR with defers := [d0]++aR.defers } (.inRangeFunc lR::k)) cs;rw[Vm] at hst;have hle:=hf2.le hhB.dom;have hm2:m2 H.length=some (.obj lR):=(hle _ _ hmB).obj;unfold qx at hE;rw[qV] at hE;split at hE
 ·rename_i st pend n' sl' ps' as' body' hb2
  obtain ⟨tmps,dd,fn,k1,k2,k3⟩:=Ve hh2 hm2 hb2;have hnb:st ≠ .busy:=fun e=>by subst e;exact hE.elim
  have hE' : Zz pend (fun e=>Q e a (H2.set H.length (.loop .exhausted pend n' sl' ps' as' body'))):=by
   cases st <;> simp only[qP] at hE <;> exact hE
  obtain ⟨t1,t2⟩:=uQ (st' := .exhausted) (pend' := pend) hh2 hm2 hb2 k1 k2 k3
  have hend:(Instr.endLoop lR).run P w' = .ok pend { w' with heap:=w'.heap.setIfInBounds lR (.loop { state := .exhausted,pending:=pend,fn,tmps,params:=ps',assign:=as',body:=body',defers:=dd }) }:=by
   cases st with
   | busy=>exact absurd rfl hnb
   | ready=>simp[Instr.endLoop,Instr.getLoop,getObj,setObj,Sem.run,k1]
   | done=>simp[Instr.endLoop,Instr.getLoop,getObj,setObj,Sem.run,k1]
   | exhausted=>simp[Instr.endLoop,Instr.getLoop,getObj,setObj,Sem.run,k1]
  have hstep2:=WL (P:=P) (b:=b) (a := { aR with defers := [d0]++aR.defers }) (k:=k) (cs:=cs) hend;have hlen:H.length<=(H ++ [Blk.loop .ready none a.n a.sl ps as body]).length:=by simp
  have hfAll:Fr H.length m H w m2 _ _:=(hfB.trans (hf2.weaken hlen (Nat.le_refl _))).trans (t2.weaken (Nat.le_trans hlen (hf2.len (Nat.le_refl _))) (Nat.le_refl _))
  have hfr:FrA n0 m H w aR m2 _ _ { aR with defers := [d0]++aR.defers }:=⟨hfAll.weaken hn (Nat.le_refl _),[d0],rfl,fun d hd r hr=>by
   simp at hd;subst hd;simp[d0] at hr;omega⟩
  -- the deferred blocks
  have hdfA:DfOk m H wA ([d0]++aR.defers):=by
   refine⟨⟨w.heap.size,rfl,by simp[wA],fun ⟨i,b',g1,_,_⟩=>absurd (hs.heap.lt g1) (Nat.lt_irrefl _),fun d' hd' he' => ?_⟩,hs.df.keep fun r hr hw=>⟨zl hr,hw⟩⟩;obtain ⟨r',g1,_,g2⟩:=hs.df.own hd';rw[he'] at g1;cases g1;exact absurd (Array.getElem?_eq_some_iff.1 g2).1 (Nat.lt_irrefl _)
  have hdf:DfOk m2 _ _ ([d0]++aR.defers):=((hdfA.keep (Fr.alloc hh0 _ lp hlA).keep).keep hf2.keep).keep t2.keep;have hsr:SRel m2 a _ { aR with defers := [d0]++aR.defers } _:=⟨hs.n,hs.sl.mono (hfAll.le hs.heap.dom),hdf,t1⟩;have sall:=(Steps.head hstep hst).trans (.one hstep2);unfold Zz at hE';split at hE'
  ·exact⟨.normal,a,_,m2,_,_,hE',hsr,hfr,sall⟩
  ·exact⟨.exit _,a,_,m2,_,_,hE',hsr,hfr,k,rfl,sall⟩
  ·exact⟨.ret,a,_,m2,_,_,hE',hsr,hfr,k,sall⟩
  ·exact hE'.elim
 ·exact hE.elim

theorem YE {n:Nat} {m:LM} : ∀ {ps:List Tmp} {vs:List Value} {sl:List (Nat × Value)} {K:List (Nat × Value)->Prop} (_:Ws n ps vs sl K) {t:Array Value} (_:t.size=n) (_:zx m sl t) {us:List Value} (_:LRel m vs us),
 ∃ sl',K sl' /\ zx m sl' ((ps.zip us).foldl (fun t p=>t.setIfInBounds p.1 p.2) t)/\((ps.zip us).foldl (fun t p=>t.setIfInBounds p.1 p.2) t).size=n
 | [],[],sl,K,h,t,hn,hs,us,hu=>⟨sl,h,by simpa using hs,by simpa using hn⟩
 | p::ps,v::vs,sl,K,h,t,hn,hs,us,hu=>by
   obtain ⟨u,us',rfl,h1,h2⟩:=hu.inv_cons;simp only[Ws] at h;split at h
   ·rename_i hb
    have hp:p<n:=Nat.le_of_ble_eq_true hb;obtain ⟨sl',k1,k2,k3⟩:=YE h (t:=t.setIfInBounds p u) (by simpa using hn) (hs.put (hn ▸ hp) h1) h2;exact⟨sl',k1,by simpa using k2,by simpa using k3⟩
   ·exact h.elim
 | [],_::_,_,_,h,_,_,_,_,_=>h.elim
 | _::_,[],_,_,h,_,_,_,_,_=>h.elim

theorem YF {n:Nat} : ∀ {ps:List Tmp} {vs:List Value} {sl:List (Nat × Value)} {K:List (Nat × Value)->Prop} (_:Ws n ps vs sl K),ps.length=vs.length
 | [],[],_,_,_=>rfl
 | p::ps,v::vs,sl,K,h=>by
   simp only[Ws] at h;split at h
   ·simp[YF h]
   ·exact h.elim
 | [],_::_,_,_,h=>h.elim
 | _::_,[],_,_,h=>h.elim

def VN (l:Nat) (args:List Value) (H:List Blk) (K:Nat->Code->Code->List (Nat × Value)->Prop):Prop :=
 match bget H l with
 | some (.loop _ _ n sl ps as body)=>Ws n ps.toList args sl (fun sl' => K n as body sl')
 | _=>False

theorem ze0 {l:Nat} {args:List Value} {R:Value->List Blk->Prop}
 (h:VN l args H (fun n as body sl=>awp P true H.length as (fun e a1 H1=>match e with
   | .normal=>qh l H1 (fun H2=>awp P true H.length body (fun e a2 H3=>roundEnd l e H3 R) a1 H2)
   | _=>False) ⟨n,sl⟩ H)):qK P l args H R:=by
 intro m argsR w r hm hl hh;unfold VN at h;rw[qV] at h;split at h
 ·rename_i st pend n sl ps as body hb
  obtain ⟨tmps,dd,fn,k1,k2,k3⟩:=Ve hh hm hb;have hlen:=YF h;have hla:=hl.1
  let tm:=(ps.zip argsR).foldl (fun t (p:Tmp × Value)=>t.setIfInBounds p.1 p.2) tmps
  obtain ⟨sl',hA,hsl,hsz⟩:=YE h k2 k3 hl;have etm:(ps.toList.zip argsR.toList).foldl (fun t p=>t.setIfInBounds p.1 p.2) tmps=tm:=by simp[tm,<- Array.toList_zip]
  rw[etm] at hsl hsz;refine⟨.round r fn tm as body,w, ?_, ?_⟩
  ·have:argsR.size=ps.size:=by simp at hlen hla;omega
   simp[Instr.yield,Instr.getLoop,getObj,Sem.run,k1,this,tm]
  ·show Enters P (Frame.round r fn tm as body .normal) w _
   intro c cs
   let b:FB := { fn,kind := .normal,roundOf:=some r }
   let a0:Act := { tmps:=tm,defers := [] }
   have efr:Frame.round r fn tm as body .normal=b.at a0 [.code as, .beginRound, .code body]:=by simp[Frame.round,FB.at,b,a0]
   obtain ⟨e,a1,H1,m1,aR1,w1,hq,hs1,hf1,harr⟩:=hA (Nat.le_refl _) m a0 w ⟨hsz,hsl,trivial,hh⟩ b [.beginRound, .code body] (c::cs) (fun h=>by cases h)
   cases e with
   | exit id=>exact hq.elim
   | ret=>exact hq.elim
   | normal =>
     have hm1:m1 l=some (.obj r):=((hf1.toFr.le hh.dom) _ _ hm).obj;simp only[qh,qV] at hq;split at hq
     ·rename_i pend1 n1 sl1 ps1 as1 body1 hb1
      rw[qP] at hq;obtain ⟨tmps1,dd1,fn1,j1,j2,j3⟩:=Ve hs1.heap hm1 hb1;obtain ⟨t1,t2⟩:=uQ (st' := .busy) (pend' := pend1) hs1.heap hm1 hb1 j1 j2 j3
      let wb:World := { w1 with heap:=w1.heap.setIfInBounds r (.loop { state := .busy,pending:=pend1,fn:=fn1,tmps:=tmps1,params:=ps1,assign:=as1,body:=body1,defers:=dd1 }) }
      have hbeg:(Instr.beginRound r).run P w1 = .ok () wb:=by
       simp[Instr.beginRound,Instr.getLoop,getObj,setObj,Sem.run,j1,wb]
      have hsB:=Xm (P:=P) (b:=b) (a:=aR1) (k := [.code body]) (cs:=c::cs) rfl hbeg;have hnl:H.length<=(H1.set l (Blk.loop .busy pend1 n1 sl1 ps1 as1 body1)).length:=by simp;exact hf1.toFr.len (Nat.le_refl _)
      obtain ⟨e2,a2,H2,m2,aR2,w2,hq2,hs2,hf2,harr2⟩:=hq hnl m1 aR1 wb ⟨hs1.n,hs1.sl,hs1.df.keep t2.keep,t1⟩ b [] (c::cs) (fun h=>by cases h)
      have hm2:m2 l=some (.obj r):=by
       rcases hf2.toFr.base l (hh.dom _ _ hm) _ hm1 with g | ⟨_,⟨_,_,_,_,g⟩,_⟩
       ·exact g
       ·cases g
      have hfAll:Fr H.length m H w m2 H2 w2:=(hf1.toFr.trans (t2.weaken (hf1.toFr.len (Nat.le_refl _)) (Nat.le_refl _))).trans hf2.toFr
      have sall:Steps P (lone (Frame.round r fn tm as body .normal) (c::cs) w) (lone (b.at aR1 [.code body]) (c::cs) wb):=by
       rw[efr];exact Steps.trans harr (.one hsB)
      simp only[roundEnd,qV] at hq2;split at hq2
      ·rename_i st3 pend3 n3 sl3 ps3 as3 body3 hb3
       obtain ⟨tmps3,dd3,fn3,i1,i2,i3⟩:=Ve hs2.heap hm2 hb3
       cases e2 with
       | normal =>
         simp only[qP] at hq2;obtain ⟨u1,u2⟩:=uQ (st' := .ready) (pend' := none) hs2.heap hm2 hb3 i1 i2 i3;refine⟨.bool true,_,⟨.bool true,_,m2,hq2, .bool _,u1,hfAll.trans (u2.weaken (hfAll.len (Nat.le_refl _)) (Nat.le_refl _))⟩,Steps.trans sall (Steps.trans harr2 (.one (XX rfl rfl ?_)))⟩;simp[Instr.endRound,Instr.getLoop,getObj,setObj,Sem.run,i1]
       | exit id =>
         simp only[qP] at hq2;obtain ⟨k',x1,x2⟩:=harr2;obtain ⟨u1,u2⟩:=uQ (st' := .done) (pend' := some (.exit id)) hs2.heap hm2 hb3 i1 i2 i3;refine⟨.bool false,_,⟨.bool false,_,m2,hq2, .bool _,u1,hfAll.trans (u2.weaken (hfAll.len (Nat.le_refl _)) (Nat.le_refl _))⟩,Steps.trans sall (Steps.trans x2 (.one (Xl rfl rfl (by rw[x1];rfl) ?_)))⟩;simp[Instr.endRound,Instr.getLoop,getObj,setObj,Sem.run,i1]
       | ret =>
         simp only[qP] at hq2;obtain ⟨k',x2⟩:=harr2;obtain ⟨u1,u2⟩:=uQ (st' := .done) (pend' := some .ret) hs2.heap hm2 hb3 i1 i2 i3;refine⟨.bool false,_,⟨.bool false,_,m2,hq2, .bool _,u1,hfAll.trans (u2.weaken (hfAll.len (Nat.le_refl _)) (Nat.le_refl _))⟩,Steps.trans sall (Steps.trans x2 (.one (XW rfl rfl ?_)))⟩;simp[Instr.endRound,Instr.getLoop,getObj,setObj,Sem.run,i1]
      ·exact hq2.elim
     ·exact hq.elim
 ·exact h.elim

theorem qR0 {pend:Option Code} {K K' : Ex->Prop} (h:Zz pend K) (hk : ∀ e,K e->K' e):Zz pend K' := by
 unfold Zz at *;split at h <;> first | exact hk _ h | exact h.elim
theorem Xt {l:Nat} {K K' : Ex->List Blk->Prop} (h:qx l H K) (hk : ∀ e H,K e H->K' e H):qx l H K' := by
 unfold qx at *;split at h
 ·rename_i st pend n sl ps as body hb
  rw[hb] at *;cases st <;> simp only[qP] at h ⊢ <;> first | exact qR0 h fun e h=>hk _ _ h | exact h.elim
 ·exact h.elim
theorem Xc {n:Nat} {K K' : List (Nat × Value)->Prop} (hk : ∀ sl,K sl->K' sl) : ∀ {ps:List Tmp} {vs:List Value} {sl:List (Nat × Value)} (_:Ws n ps vs sl K),Ws n ps vs sl K'
 | [],[],_,h=>hk _ h
 | p::ps,v::vs,sl,h=>by
   simp only[Ws] at h ⊢;split at h
   ·exact Xc hk h
   ·exact h.elim
 | [],_::_,_,h=>h.elim
 | _::_,[],_,h=>h.elim
theorem YP {l:Nat} {args:List Value} {K K' : Nat->Code->Code->List (Nat × Value)->Prop} (h:VN l args H K) (hk : ∀ n as body sl,K n as body sl->K' n as body sl):VN l args H K' := by
 unfold VN at *;split at h
 ·exact Xc (fun sl h=>hk _ _ _ sl h) h
 ·exact h.elim
theorem WU {l:Nat} {K K' : List Blk->Prop} (h:qh l H K) (hk : ∀ H,K H->K' H):qh l H K' := by
 unfold qh at *;split at h
 ·rw[qP] at *; exact hk _ h
 ·exact h.elim
end
end Go.Af
