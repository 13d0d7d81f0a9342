/- A part of the proof. -/
import Derived.Test.YtmnjcogpchodhaaGreatMGB
import Derived.Test.YtmnjcogpchodhaaGreatMGS
import Derived.Shelf.SlSortCmp.WholeK
import Derived.Test.YtmnjcogpchodhaaGreatMCA
set_option linter.all false
set_option maxHeartbeats 4000000
set_option maxRecDepth 100000
namespace Go.Af.Tryz
open Go Go.Proofs
open Go.Af.Coll (St befL befF keyL)
theorem WC : ∀ x y:List Int,x.length=y.length->befL x y=true\/x=y\/befL y x=true
 | [],[],_=>.inr (.inl rfl)
 | [],_::_,h=>by cases h
 | _::_,[],h=>by cases h
 | a::x,b::y,h=>by
   rw[uX,uX];by_cases e:a=b
   ·subst e
    rw[if_neg (by simp),if_neg (by simp)];rcases WC x y (by simpa using h) with h | h | h
    ·exact .inl h
    ·exact .inr (.inl (by rw[h]))
    ·exact .inr (.inr h)
   ·rw[if_pos e,if_pos (fun h=>e h.symm)]
    by_cases l:a<b
    ·exact .inl (decide_eq_true l)
    ·exact .inr (.inr (decide_eq_true (by omega)))
end Go.Af.Tryz
namespace Go.Proofs
open Go Go.RowKit Go.Sort Go.Shelf
def Tryz.sortSt_ren:Go.Shelf.Ren:=⟨fun | 6=>60 | 15=>137 | 14=>136 | 28=>253 | 29=>254 | 20=>245 | 21=>246 | 22=>247 | 23=>248 | 24=>249 | 25=>250 | 26=>251 | 27=>252 | 46=>300 | 47=>301 | 48=>302 | 49=>303 | 50=>304 | 57=>327 | n=>n,fun | 22=>30 | 24=>48 | 25=>123 | 3=>3 | 39=>178 | 0=>0 | 53=>247 | 55=>83 | 4=>4 | 46=>241 | 45=>240 | 50=>194 | 5=>5 | 9=>9 | 66=>282 | 70=>285 | 76=>302 | 77=>157 | n=>n,fun | n=>n⟩
theorem Tryz.sortSt:Go.Proofs.SlLaysF0.n6 Tryz.prog Tryz.sortSt_ren := {
 mixed:=by kernel_rfl,
 f6 := ⟨ "slices.SortFunc[[]armada/coll.Step,armada/coll.Step]", by decide, Tryz.func60.trans (congrArg some (by kernel_rfl))⟩,
 f14 := ⟨ "slices.pdqsortCmpFunc[armada/coll.Step]", by decide, Tryz.func136.trans (congrArg some (by kernel_rfl))⟩,
 f15:=Tryz.func137.trans (congrArg some (by kernel_rfl)),
 f20 := ⟨ "slices.insertionSortCmpFunc[armada/coll.Step]", by decide, Tryz.func245.trans (congrArg some (by kernel_rfl))⟩,
 f21 := ⟨ "slices.heapSortCmpFunc[armada/coll.Step]", by decide, Tryz.func246.trans (congrArg some (by kernel_rfl))⟩,
 f22 := ⟨ "slices.breakPatternsCmpFunc[armada/coll.Step]", by decide, Tryz.func247.trans (congrArg some (by kernel_rfl))⟩,
 f23 := ⟨ "slices.choosePivotCmpFunc[armada/coll.Step]", by decide, Tryz.func248.trans (congrArg some (by kernel_rfl))⟩,
 f24 := ⟨ "slices.reverseRangeCmpFunc[armada/coll.Step]", by decide, Tryz.func249.trans (congrArg some (by kernel_rfl))⟩,
 f25 := ⟨ "slices.partialInsertionSortCmpFunc[armada/coll.Step]", by decide, Tryz.func250.trans (congrArg some (by kernel_rfl))⟩,
 f26 := ⟨ "slices.partitionEqualCmpFunc[armada/coll.Step]", by decide, Tryz.func251.trans (congrArg some (by kernel_rfl))⟩,
 f27 := ⟨ "slices.partitionCmpFunc[armada/coll.Step]", by decide, Tryz.func252.trans (congrArg some (by kernel_rfl))⟩,
 f28:=Tryz.func253.trans (congrArg some (by kernel_rfl)),
 f29:=Tryz.func254.trans (congrArg some (by kernel_rfl)),
 f46 := ⟨ "slices.siftDownCmpFunc[armada/coll.Step]", by decide, Tryz.func300.trans (congrArg some (by kernel_rfl))⟩,
 f47:=Tryz.func301.trans (congrArg some (by kernel_rfl)),
 f48:=Tryz.func302.trans (congrArg some (by kernel_rfl)),
 f49 := ⟨ "slices.medianAdjacentCmpFunc[armada/coll.Step]", by decide, Tryz.func303.trans (congrArg some (by kernel_rfl))⟩,
 f50 := ⟨ "slices.medianCmpFunc[armada/coll.Step]", by decide, Tryz.func304.trans (congrArg some (by kernel_rfl))⟩,
 f57 := ⟨ "slices.order2CmpFunc[armada/coll.Step]", by decide, Tryz.func327.trans (congrArg some (by kernel_rfl))⟩,
 t0:=Tryz.underlying0,
 a0:=Tryz.isAgg0,
 z0:=Tryz.sizeOf0,
 v0:=Tryz.zeroValue0,
 t3:=Tryz.underlying3,
 a3:=Tryz.isAgg3,
 z3:=Tryz.sizeOf3,
 v3:=Tryz.zeroValue3,
 t4:=Tryz.underlying4,
 a4:=Tryz.isAgg4,
 z4:=Tryz.sizeOf4,
 v4:=Tryz.zeroValue4,
 t5:=Tryz.underlying5,
 a5:=Tryz.isAgg5,
 z5:=Tryz.sizeOf5,
 v5:=Tryz.zeroValue5,
 t9:=Tryz.underlying9,
 a9:=Tryz.isAgg9,
 z9:=Tryz.sizeOf9,
 v9:=Tryz.zeroValue9,
 t22:=Tryz.underlying30,
 a22:=Tryz.isAgg30,
 z22:=Tryz.sizeOf30,
 v22:=Tryz.zeroValue30,
 t25:=Tryz.underlying123,
 a25:=Tryz.isAgg123,
 z25:=Tryz.sizeOf123,
 v25:=Tryz.zeroValue123,
 t39:=Tryz.underlying178,
 a39:=Tryz.isAgg178,
 z39:=Tryz.sizeOf178,
 v39:=Tryz.zeroValue178,
 t45:=Tryz.underlying240,
 a45:=Tryz.isAgg240,
 z45:=Tryz.sizeOf240,
 v45:=Tryz.zeroValue240,
 t46:=Tryz.underlying241,
 a46:=Tryz.isAgg241,
 z46:=Tryz.sizeOf241,
 v46:=Tryz.zeroValue241,
 t50:=Tryz.underlying194,
 a50:=Tryz.isAgg194,
 z50:=Tryz.sizeOf194,
 v50:=Tryz.zeroValue194,
 t53:=Tryz.underlying247,
 a53:=Tryz.isAgg247,
 z53:=Tryz.sizeOf247,
 v53:=Tryz.zeroValue247,
 t55:=Tryz.underlying83,
 a55:=Tryz.isAgg83,
 z55:=Tryz.sizeOf83,
 v55:=Tryz.zeroValue83,
 t66:=Tryz.underlying282,
 a66:=Tryz.isAgg282,
 z66:=Tryz.sizeOf282,
 v66:=Tryz.zeroValue282,
 t70:=Tryz.underlying285,
 a70:=Tryz.isAgg285,
 z70:=Tryz.sizeOf285,
 v70:=Tryz.zeroValue285,
 t76:=Tryz.underlying302,
 a76:=Tryz.isAgg302,
 z76:=Tryz.sizeOf302,
 v76:=Tryz.zeroValue302,
 t77:=Tryz.underlying157,
 a77:=Tryz.isAgg157,
 z77:=Tryz.sizeOf157,
 v77:=Tryz.zeroValue157 }
end Go.Proofs
namespace Go.Af.Tryz
open Go Go.Proofs Tryz
open Go.Af.Coll (St sgn orF cmpL cmpF keyL befL befF)
variable {H:List Blk}
variable {R:Value->List Blk->Prop}

section nil
attribute [local irreducible] awp qj qI qK qE
theorem s245 {k:Nat} {f:Value} (h:R (.tuple ⟨[]⟩) H):qj prog 245 [sv k 0, .int .i64 0, .int .i64 0,f] H R:=by
 refine zC Wl call245 func245 rfl ntmps245 rfl (by simp) ?_;refine Or.inl ⟨1,rfl,by unfold I64;omega, ?_⟩;refine qf (α := Nat) Wl (fun _=>True) (fun _=>[(2, .int .i64 0),(8, .int .i64 1)]) (fun _=>H) (fun x=>x) 0 trivial (Or.inl ⟨⟨rfl,rfl,trivial⟩,rfl⟩) ?_;intro x _;refine And.intro (fun h=>absurd h (by decide)) (fun _=>?_);exact h
set_option maxRecDepth 100000 in
theorem s136 {k:Nat} {f:Value} (h:R (.tuple ⟨[]⟩) H):qj prog 136 [sv k 0, .int .i64 0, .int .i64 0, .int .i64 0,f] H R:=by
 refine zC Wl call136 func136 rfl ntmps136 rfl (by simp) ?_;refine qf (α := Nat) Wl (fun _=>True) (fun _=>[(0,sv k 0),(1, .int .i64 0),(2, .int .i64 0),(3, .int .i64 0),(4,f)]) (fun _=>H) (fun x=>x) 0 trivial (Or.inl ⟨⟨rfl,rfl,rfl,rfl,rfl,trivial⟩,rfl⟩) ?_;intro x _;refine Or.inl ⟨0,rfl,by unfold I64;omega, ?_⟩;refine UL (fun Q0 q1 q2 q3=>?_);refine And.intro (fun _=>?_) (fun h=>absurd h (by decide));refine s245 ?_;refine q3 _ _ ?_;exact h
theorem s60 {k:Nat} {f:Value} (h:R (.tuple ⟨[]⟩) H):qj prog 60 [sv k 0,f] H R:=by
 refine zC Wl call60 func60 rfl ntmps60 rfl (by simp) ?_;refine n94 ?_;refine s136 ?_;exact h
end nil

theorem grown_of {w w' : World} {H' : List Blk} {m' : LM} (h:Fr 0 (fun _=>none) [] w m' H' w') : ∃ q os',w' = Sort.grow (w.drewN q) os' := by
 refine⟨w'.drawn-w.drawn,w'.heap.extract w.heap.size w'.heap.size, ?_⟩;have hk : ∀ r,r<w.heap.size->w'.heap[r]? = w.heap[r]? := fun r hr=>(h.keep r hr (fun ⟨i,b,h1,h2,h3⟩=>by simp at h2)).1
 have hd:=h.out.drawn;have hs:=h.size
 have e1:w'.heap=w.heap++w'.heap.extract w.heap.size w'.heap.size:=by
  apply Array.ext_getElem?
  intro i;by_cases hi:i<w.heap.size
  ·rw[Array.getElem?_append_left hi,hk i hi]
  ·rw[Array.getElem?_append_right (by omega),Array.getElem?_extract]
   by_cases h2:i<w'.heap.size
   ·rw[if_pos (by omega)]
    congr 1;omega
   ·rw[if_neg (by omega)]
    exact Array.getElem?_eq_none (by omega)
 have e2:w'.drawn=w.drawn+(w'.drawn-w.drawn):=by omega
 have e3:=h.out.os;have e4:=h.out.tape;have e5:=h.out.output;generalize hX:w'.heap.extract w.heap.size w'.heap.size=X at e1;generalize hY:w'.drawn-w.drawn=Y at e2;clear hX hY hk hd hs h;cases w';simp only at e1 e2 e3 e4 e5;subst e1 e2 e3 e4 e5;rfl
abbrev Sr := { s:St // Rg s }
instance:Inhabited Sr:=⟨⟨⟨0,0,0,0,0,0⟩,by unfold Rg;dsimp only;omega⟩⟩
def srC (x:Sr):List Value:=stC x.1
theorem XL : ∀ x:List Int,befL x x=false
 | []=>rfl
 | a::r=>by rw[uX,if_neg (by simp)];exact XL r
theorem Qk : ∀ x y z:List Int,befL x y=true->befL y z=true->befL x z=true
 | [],_,_,h,_=>by cases h
 | _::_,[],_,h,_=>by cases h
 | _::_,_::_,[],_,h=>by cases h
 | a::x,b::y,c::z,h1,h2=>by
   rw[uX] at h1 h2 ⊢;by_cases e1:a=b
   ·subst e1
    rw[if_neg (by simp)] at h1;by_cases e2:a=c
    ·subst e2
     rw[if_neg (by simp)] at h2 ⊢;exact Qk x y z h1 h2
    ·rw[if_pos e2] at h2 ⊢; exact h2
   ·rw[if_pos e1] at h1
    have l1:=of_decide_eq_true h1;by_cases e2:b=c
    ·subst e2
     rw[if_pos e1];exact h1
    ·rw[if_pos e2] at h2
     have l2:=of_decide_eq_true h2;rw[if_pos (by omega)];exact decide_eq_true (by omega)
theorem Zr (x y z:St) (h1:befF x y=false) (h2:befF y z=false):befF x z=false:=by
 unfold befF at h1 h2 ⊢
 cases h:befL (keyL x) (keyL z) with
 | false=>rfl
 | true =>
   rcases WC (keyL x) (keyL y) rfl with a | a | a
   ·rw[h1] at a;cases a
   ·rw[a,h2] at h;cases h
   ·rcases WC (keyL y) (keyL z) rfl with b | b | b
    ·rw[h2] at b;cases b
    ·rw[<- b,h1] at h;cases h
    ·have:=Qk _ _ _ h b
     rw[h1] at this;cases this
theorem cmp_lt (a b:St):decide (cmpF a b<0)=befF a b:=by
 have h:=Coll.cmp_bef a b
 cases hb:befF a b with
 | true =>
   rw[hb] at h;by_cases c:0<=cmpF a b
   ·have:=h.1 c;cases this
   ·exact decide_eq_true (by omega)
 | false=>exact decide_eq_false (by have:=h.2 hb;omega)
theorem yB0:(ltOf fun x y:Sr=>cmpF x.1 y.1)=fun x y:Sr=>befF x.1 y.1:=by
 funext x y
 exact cmp_lt x.1 y.1
theorem ue0:Sort.SWO (ltOf fun x y:Sr=>cmpF x.1 y.1):=by
 rw[yB0];exact⟨fun x=>XL _,fun x y z h1 h2=>Qk _ _ _ h1 h2,fun x y z h1 h2=>Zr _ _ _ h1 h2⟩
section walk
attribute [local irreducible] awp qj qI qK qE qm isCells ql qi qB qx qh roundEnd
theorem k61 {x y:St} (hx:Rg x) (hy:Rg y) (w:World):Calls prog 61 #[stV x,stV y] w fun e w' => e = .returned (.int .i64 (cmpF x y))/\∃ q os',w' = Sort.grow (w.drewN q) os' := by
 have ha:LRel (fun _=>none) [stV x,stV y] (#[stV x,stV y]:Array Value).toList := .cons (VRel.plain _ 6 _ rfl) (.cons (VRel.plain _ 6 _ rfl) (.nil _));have hh:HRel (fun _=>none) [] w:=⟨fun i l hl=>(by cases hl),fun i l b hl=>(by cases hl),fun i hi=>(by cases hi),fun i j q b h=>(by cases h)⟩;refine (YB (R:=fun v _=>v = .int .i64 (cmpF x y)) tok func61 rfl ntmps61 rfl (by simp) ?_ ha hh).mono ?_
 ·skip
  obtain ⟨x1,x2,x3,x4,x5⟩:=hx;obtain ⟨y1,y2,y3,y4,y5⟩:=hy;generalize ([]:List Blk)=H;refine qo (HS.start H none') (fun H1 b1 e1 l1 hs=>?_);refine qo hs (fun H2 b2 e2 l2 hs=>?_);refine qg (fun _ hKs=>hKs _ _ ?_);clear hKs;refine wo tok mx [0,1,0,4,15,0,32,0,128,480,0,1024,0,4096,15360,0,32768,0,131072,491520,0,1048576,0,4194304,16744448,33554431,67108863,134217727] [false,false,true,true,false,true,true,true,true,true,true,true,true,true,true,true,true,true,true,true,true,true,true,true,true,false,false,false] [0,1,2,3,4,5,6,7,8,9,10,11,12,13,14,15,16,17,18,20,21,22,23,19,24,25,26,27] (by kernel_rfl) ?_;refine vT (fun K0 hK0=>?_)
  repeat' first|refine zPw ?_|intro _ _ hs|intro K0 hK0
  refine (x139 ?_)
  repeat' first|refine zPw ?_|intro _ _ hs|intro K0 hK0|refine (x139 ?_)|refine c138 (xs:=cmpL x y) (hs.get 0 rfl) (Nat.le_of_ble_eq_true rfl) ?_
  rfl
 ·rintro e w' ⟨vR,rfl,v,H',m',rfl,hvr,_,hf⟩
  cases hvr;exact⟨rfl,grown_of hf⟩
end walk
theorem xR0 (blk off size:Nat) (w:World):CmpLays prog 61 #[] srC 6 (fun x y:Sr=>cmpF x.1 y.1) blk off size w:=fun _ _ _ _ x y=>k61 x.2 y.2 _
theorem Yv {w:World} {r sh n:Nat} {os:Array Obj} {c:Array Value} {e:TypeId} {f:Nat × Nat} {F:Array Value} (hw:w.heap[r]? = some (.cells c e f)) :
 (∀ q,q<w.heap.size->q≠r->(Sort.grow (Sort.putRow id (Sort.ahead w n) r sh F) os).heap[q]? = w.heap[q]?) /\
 (Sort.grow (Sort.putRow id (Sort.ahead w n) r sh F) os).heap[r]? = some (.cells (Sort.putCells id sh F c) e f) /\
 w.heap.size<=(Sort.grow (Sort.putRow id (Sort.ahead w n) r sh F) os).heap.size:=by
 have hr:r<w.heap.size:=(Array.getElem?_eq_some_iff.1 hw).1;refine⟨fun q hq hne=>?_, ?_, ?_⟩
 ·simp only[Sort.grow,Sort.putRow,Sort.mapBlock,Sort.ahead]
  rw[Array.getElem?_append_left (by simpa using hq),Array.getElem?_modify,if_neg (fun e=>hne e.symm)]
 ·simp only[Sort.grow,Sort.putRow,Sort.mapBlock,Sort.ahead]
  rw[Array.getElem?_append_left (by simpa using hr),Array.getElem?_modify,if_pos rfl,hw];rfl
 ·simp[Sort.grow,Sort.putRow,Sort.mapBlock,Sort.ahead]
theorem flat_get (d:Array Sr) {t:Nat} (ht:t<d.size*6):(stsC (d.toList.map (·.1)))[t]? = some (Sort.flatK srC 6 d)[t]! := by
 rw[Sort.get_flatK _ _ _ _ ht];have h1:t / 6<d.size:=by omega
 have e:t=6*(t / 6)+t % 6:=by omega
 rw[show (stsC (d.toList.map (·.1)))[t]? = (stsC (d.toList.map (·.1)))[6*(t / 6)+t % 6]? by rw[<- e],Xj _ _ _ (by simpa using h1) (by omega)]
 have e2:(d.toList.map (·.1))[t / 6]! = d[t / 6]!.1:=by
  rw[getElem!_pos _ _ (by simpa using h1),getElem!_pos d _ h1];simp
 rw[e2];unfold srC;have h6:t % 6<(stC d[t / 6]!.1).length:=by simp;omega
 rw[getElem!_pos (stC d[t / 6]!.1) (t % 6) h6,List.getElem?_eq_getElem h6]
theorem c60 {k:Nat} {xs:List St} (hb:bget H k=some (.cells true 6 (stsC xs))) (hl:xs.length<=1000000000000) (hr : ∀ x∈xs,Rg x)
 (h : ∀ (ys:List St) (H' : List Blk),ys.Perm xs->ys.Pairwise (fun a b=>befF b a=false)->H'.length=H.length->bget H' k=some (.cells true 6 (stsC ys))->(∀ i,i≠k->bget H' i=bget H i)->R (.tuple ⟨[]⟩) H'):qj prog 60 [sv k xs.length, .func (.func 61) #[] #[]] H R:=by
 by_cases hx:xs.length=0
 ·have hx' : xs = []:=List.length_eq_zero_iff.1 hx
  subst hx';exact s60 (h [] H (.refl _) .nil rfl hb (fun _ _=>rfl))
 refine⟨call60,fun m argsR w ha hh=>?_⟩;obtain ⟨vR,rest,hargs,hv,hrest⟩:=ha.inv_cons;obtain ⟨vR2,rest2,hargs2,hv2,hrest2⟩:=hrest.inv_cons;have hrn:=hrest2.inv_nil;subst hrn;subst hargs2
 have hae:argsR = #[vR,vR2]:=by
  apply Array.toList_inj.1;rw[hargs]
 subst hae
 have hv2e:vR2 = .func (.func 61) #[] #[]:=by
  cases hv2 with
  | func f f' xs ys xs' ys' hf h1 h2 _ _ =>
    cases hf;rw[Array.eq_empty_of_size_eq_zero h1.symm,Array.eq_empty_of_size_eq_zero h2.symm]
 subst hv2e;have hb' : H[k]? = some (.cells true 6 (stsC xs)):=by rw[<- qV];exact hb
 generalize hn:xs.length=n at hv hx
 cases hv with
 | sliceZero _ _ a=>exact absurd rfl hx
 | sliceDead _ _ _ _ c' a hm _=>have:=hh.dd k hm;rw[hb'] at this;cases this
 | slice _ _ r sh tot esz _ _ c' hm hc hlen =>
   subst hn;obtain ⟨c,e,f,hw,hcell,hez,hwr⟩:=hh.cells hm hb';obtain ⟨hfr,hez2,hz0,htot⟩:=hwr rfl;have hrs:r<w.heap.size:=(Array.getElem?_eq_some_iff.1 hw).1;obtain ⟨d,hd⟩ : ∃ d:Array Sr,d.toList.map (·.1)=xs:=⟨(xs.pmap (fun x hx=>(⟨x,hx⟩:Sr)) hr).toArray,by simp[List.map_pmap]⟩;have hdl:d.size=xs.length:=by rw[<- hd];simp
   have hcx : ∀ i,i<xs.length*6->c[sh+i]? = some (Sort.flatK srC 6 d)[i]! := fun i hi=>by
    have hfg:=flat_get d (t:=i) (by rw[hdl];exact hi);rw[hd] at hfg;obtain ⟨v',h1,h2⟩:=hcell i _ hfg
    have hpl:wS 6 (Sort.flatK srC 6 d)[i]! = true:=by
     rw[Sort.get_flatK _ _ _ _ (by rw[hdl];exact hi)];unfold srC;have hm6:i % 6<6:=Nat.mod_lt _ (by decide);generalize i % 6=q at hm6;obtain rfl | rfl | rfl | rfl | rfl | rfl:q=0\/q=1\/q=2\/q=3\/q=4\/q=5:=by omega
     all_goals rfl
    rw[VRel.plain_eq 6 _ hpl h2] at h1;exact h1
   have hold:Sort.HoldsK srC 6 w r (sh+0) d:=fun j hj=>by
    have hj:j<xs.length*6:=by rw[<- hdl];simpa using hj
    refine⟨?_,VF hh hm hb' _⟩;have:=hcx j hj;simp only[Nat.add_zero];simp only[World.cell?,hw,this];rfl
   have eg : ∀ args w,(callFunc 61 args).run prog w = .ok (.enter 61 args) w:=call61;have hcl:=AnyQ.slices_SortFunc Tryz.sortSt 6 Tryz.isAgg48 Tryz.sizeOf48 srC (fun _=>rfl) (fun x v hv=>by simp[srC] at hv;rcases hv with rfl | rfl | rfl | rfl | rfl | rfl <;> rfl) (fun x y:Sr=>cmpF x.1 y.1) ue0 61 #[] r (sh+0) c' d w eg (xR0 _ _ _ _) hold hrs (by omega)
   have hcl:Calls prog 60 #[.slice (some ⟨r,sh+0,none⟩) d.size c', .func (.func 61) #[] #[]] w fun e w' =>
    e = .returned (.tuple #[])/\∃ d' n os,Sort.PermIn 0 d.size d d' /\ Sort.SortedIn (ltOf fun x y:Sr=>cmpF x.1 y.1) 0 d.size d' /\ w' = sortWorldK srC 6 w r (sh+0) n d' os:=hcl
   rw[hdl] at hcl;refine Enters.of_calls (hcl.mono ?_);rintro e' w' ⟨rfl,d',dn,os,hpm,hso,rfl⟩;rw[<- hdl] at hpm hso;obtain ⟨hd1, -,hd2⟩:=hpm;obtain ⟨q1,q2,q3⟩:=Yv (n:=dn) (sh:=sh+0) (os:=os) (F:=Sort.flatK srC 6 d') hw;generalize hW:sortWorldK srC 6 w r (sh+0) dn d' os=w';have hWe:Sort.grow (Sort.putRow id (Sort.ahead w dn) r (sh+0) (Sort.flatK srC 6 d')) os=w' := hW;rw[hWe] at q1 q2 q3;have hout:OutEq w w' := by subst hW;exact⟨rfl,rfl,rfl,Nat.le_add_right _ _⟩
   clear hW hWe;obtain ⟨ys,hys⟩ : ∃ ys,ys=d'.toList.map (·.1):=⟨_,rfl⟩;have hyl:ys.length=xs.length:=by rw[hys,<- hdl,<- hd1];simp
   have hperm:ys.Perm xs:=by
    rw[hys,<- hd];refine List.Perm.map _ ?_;have:d'.extract 0 d.size=d' := by rw[<- hd1];simp
    rw[this,show d.extract 0 d.size=d by simp] at hd2;exact hd2
   have hsrt:ys.Pairwise (fun a b=>befF b a=false):=by
    rw[hys,List.pairwise_map];refine List.pairwise_iff_getElem.2 fun i j hi hj hij=>?_
    have:=hso i j (Nat.zero_le _) hij (by rw[<- hd1];simpa using hj);rw[yB0] at this;rw[getElem!_pos d' i (by simpa using hi),getElem!_pos d' j (by simpa using hj)] at this
    simpa using this
   have hfl : ∀ t,t<xs.length*6->(stsC ys)[t]? = some (Sort.flatK srC 6 d')[t]! := fun t ht=>by
    rw[hys];exact flat_get d' (by rw[hd1,hdl];exact ht)
   have hsl:(stsC ys).length=xs.length*6:=by rw[xC,hyl];omega
   have hkl:k<H.length:=(List.getElem?_eq_some_iff.1 hb').1;have hloc:vI (m k)=some r:=by rw[hm];rfl
   have hne : ∀ i q,vI (m i)=some q->i≠k->q≠r:=fun i q h1 h2 h3=>h2 (hh.own k i r _ hloc hb' rfl (by rw[h1,h3])).symm
   refine⟨_,rfl, .tuple ⟨[]⟩,H.set k (.cells true 6 (stsC ys)),m,h ys _ hperm hsrt (by simp) (uw hkl) (fun i hi=>uu hi),VRel.tuple' (LRel.nil m), ?_, ?_⟩
   ·refine⟨fun i l hl=>by rw[List.length_set];exact hh.dom i l hl,fun i l b hl hd hbi=>?_,fun i hi=>?_,fun i j q b h1 h2 h3 h4=>?_⟩
    ·by_cases hik:i=k
     ·subst hik
      rw[hm] at hl;cases hl;rw[List.getElem?_set_self hkl] at hbi;cases hbi;refine⟨_,e,f,q2,fun j v hj=>?_,hez,fun _=>⟨hfr,hez2,hz0,by rw[htot];simp[Sort.putCells]⟩⟩;have hjl:j<xs.length*6:=by rw[<- hsl];exact (List.getElem?_eq_some_iff.1 hj).1
      rw[hfl j hjl] at hj;cases hj;have hce:=hcx j hjl;have hcs:sh+j<c.size:=(Array.getElem?_eq_some_iff.1 hce).1
      have hpl:wS 6 (Sort.flatK srC 6 d')[j]! = true:=by
       rw[Sort.get_flatK _ _ _ _ (by rw[hd1,hdl];exact hjl)];unfold srC;have hm6:j % 6<6:=Nat.mod_lt _ (by decide);generalize j % 6=q at hm6;obtain rfl | rfl | rfl | rfl | rfl | rfl:q=0\/q=1\/q=2\/q=3\/q=4\/q=5:=by omega
       all_goals rfl
      refine⟨(Sort.flatK srC 6 d')[j]!, ?_,VRel.plain _ 6 _ hpl⟩;simp only[Sort.putCells,Nat.add_zero,Array.getElem?_mapIdx,hce,Option.map_some];rw[if_pos ⟨by omega,by simp[hd1,hdl];omega⟩,Nat.add_sub_cancel_left];rfl
     ·rw[List.getElem?_set_ne (fun e=>hik e.symm)] at hbi
      exact (hh.blk i l b hl hd hbi).same (fun q hq=>q1 q (hh.lt (by rw[hl];exact hq)) (hne i q (by rw[hl];exact hq) hik))
    ·have hik:k≠i:=fun e=>by subst e;rw[hm] at hi;cases hi
     rw[List.getElem?_set_ne hik];exact hh.dd i hi
    ·by_cases hik:i=k
     ·subst hik;exact hh.own i j q _ h1 hb' rfl h4
     ·rw[List.getElem?_set_ne (fun e=>hik e.symm)] at h2
      exact hh.own i j q b h1 h2 h3 h4
   ·have wr : ∀ q,Wr m (H.set k (.cells true 6 (stsC ys))) q->Wr m H q:=fun q ⟨i,b,h1,h2,h3⟩=>by
     by_cases hik:i=k
     ·subst hik;exact⟨i,_,h1,hb',rfl⟩
     ·rw[List.getElem?_set_ne (fun e=>hik e.symm)] at h2
      exact⟨i,b,h1,h2,h3⟩
    refine⟨q3,fun _=>by simp,fun i _ l hl=>.inl hl,fun i _ hl=>hl,fun i _ b' h1 h2=>?_,fun q hq hnw=>⟨q1 q hq (fun e=>?_),fun hx=>hnw (wr q hx)⟩,hout⟩
    ·by_cases hik:i=k
     ·subst hik;exact⟨_,hb',rfl⟩
     ·rw[List.getElem?_set_ne (fun e=>hik e.symm)] at h1
      exact⟨b',h1,h2⟩
    ·subst e;exact hnw ⟨k,_,hloc,hb',rfl⟩
end Go.Af.Tryz
