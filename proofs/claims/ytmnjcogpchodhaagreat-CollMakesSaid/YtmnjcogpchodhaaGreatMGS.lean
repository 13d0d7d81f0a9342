/- A part of the proof. -/
import Derived.Test.YtmnjcogpchodhaaGreatMGG
import Derived.Shelf.Sort.Plain
set_option linter.all false
set_option maxHeartbeats 4000000
set_option maxRecDepth 100000
namespace Go.Proofs
open Go Go.RowKit Go.Sort Go.Shelf
def Tryz.laysSort_ren:Go.Shelf.Ren:=⟨fun | 189=>96 | 125=>137 | 257=>171 | 128=>253 | 129=>254 | 294=>265 | 295=>266 | 296=>267 | 297=>268 | 298=>269 | 299=>270 | 216=>271 | 300=>272 | 301=>273 | 328=>314 | 329=>301 | 330=>302 | 331=>315 | 332=>316 | 215=>255 | 343=>334 | n=>n,fun | 28=>22 | 3=>3 | 46=>178 | 0=>0 | 51=>247 | 53=>83 | 4=>4 | 183=>241 | 182=>240 | 131=>194 | 5=>5 | 9=>9 | 218=>282 | 222=>285 | 228=>302 | 229=>157 | n=>n,fun | n=>n⟩
theorem Tryz.laysSort:Go.Proofs.Lays.n189 Tryz.prog Tryz.laysSort_ren := {
 mixed:=by kernel_rfl,
 f125:=Tryz.func137.trans (congrArg some (by kernel_rfl)),
 f128:=Tryz.func253.trans (congrArg some (by kernel_rfl)),
 f129:=Tryz.func254.trans (congrArg some (by kernel_rfl)),
 f189:=Tryz.func96.trans (congrArg some (by kernel_rfl)),
 f215:=Tryz.func255.trans (congrArg some (by kernel_rfl)),
 f216:=Tryz.func271.trans (congrArg some (by kernel_rfl)),
 f257:=Tryz.func171.trans (congrArg some (by kernel_rfl)),
 f294:=Tryz.func265.trans (congrArg some (by kernel_rfl)),
 f295:=Tryz.func266.trans (congrArg some (by kernel_rfl)),
 f296:=Tryz.func267.trans (congrArg some (by kernel_rfl)),
 f297:=Tryz.func268.trans (congrArg some (by kernel_rfl)),
 f298:=Tryz.func269.trans (congrArg some (by kernel_rfl)),
 f299:=Tryz.func270.trans (congrArg some (by kernel_rfl)),
 f300:=Tryz.func272.trans (congrArg some (by kernel_rfl)),
 f301:=Tryz.func273.trans (congrArg some (by kernel_rfl)),
 f328:=Tryz.func314.trans (congrArg some (by kernel_rfl)),
 f329:=Tryz.func301.trans (congrArg some (by kernel_rfl)),
 f330:=Tryz.func302.trans (congrArg some (by kernel_rfl)),
 f331:=Tryz.func315.trans (congrArg some (by kernel_rfl)),
 f332:=Tryz.func316.trans (congrArg some (by kernel_rfl)),
 f343:=Tryz.func334.trans (congrArg some (by kernel_rfl)),
 t0:=Tryz.underlying0,
 a0:=Tryz.isAgg0,
 z0:=Tryz.sizeOf0,
 v0:=Tryz.zeroValue0,
 t3:=Tryz.underlying3,
 a3:=Tryz.isAgg3,
 z3:=Tryz.sizeOf3,
 v3:=Tryz.zeroValue3,
 t4:=Tryz.underlying4,
 a4:=Tryz.isAgg4,
 z4:=Tryz.sizeOf4,
 v4:=Tryz.zeroValue4,
 t5:=Tryz.underlying5,
 a5:=Tryz.isAgg5,
 z5:=Tryz.sizeOf5,
 v5:=Tryz.zeroValue5,
 t9:=Tryz.underlying9,
 a9:=Tryz.isAgg9,
 z9:=Tryz.sizeOf9,
 v9:=Tryz.zeroValue9,
 t28:=Tryz.underlying22,
 a28:=Tryz.isAgg22,
 z28:=Tryz.sizeOf22,
 v28:=Tryz.zeroValue22,
 t46:=Tryz.underlying178,
 a46:=Tryz.isAgg178,
 z46:=Tryz.sizeOf178,
 v46:=Tryz.zeroValue178,
 t51:=Tryz.underlying247,
 a51:=Tryz.isAgg247,
 z51:=Tryz.sizeOf247,
 v51:=Tryz.zeroValue247,
 t53:=Tryz.underlying83,
 a53:=Tryz.isAgg83,
 z53:=Tryz.sizeOf83,
 v53:=Tryz.zeroValue83,
 t131:=Tryz.underlying194,
 a131:=Tryz.isAgg194,
 z131:=Tryz.sizeOf194,
 v131:=Tryz.zeroValue194,
 t182:=Tryz.underlying240,
 a182:=Tryz.isAgg240,
 z182:=Tryz.sizeOf240,
 v182:=Tryz.zeroValue240,
 t183:=Tryz.underlying241,
 a183:=Tryz.isAgg241,
 z183:=Tryz.sizeOf241,
 v183:=Tryz.zeroValue241,
 t218:=Tryz.underlying282,
 a218:=Tryz.isAgg282,
 z218:=Tryz.sizeOf282,
 v218:=Tryz.zeroValue282,
 t222:=Tryz.underlying285,
 a222:=Tryz.isAgg285,
 z222:=Tryz.sizeOf285,
 v222:=Tryz.zeroValue285,
 t228:=Tryz.underlying302,
 a228:=Tryz.isAgg302,
 z228:=Tryz.sizeOf302,
 v228:=Tryz.zeroValue302,
 t229:=Tryz.underlying157,
 a229:=Tryz.isAgg157,
 z229:=Tryz.sizeOf157,
 v229:=Tryz.zeroValue157 }
end Go.Proofs
namespace Go.Af.Tryz
open Go Go.Proofs Tryz
variable {H:List Blk}
variable {R:Value->List Blk->Prop}

section nil
attribute [local irreducible] awp qj qI qK qE
theorem zO0:TIOk prog 9 ⟨.str,1,16, .string ⟨#[]⟩⟩:=⟨underlying9,by kernel_rfl,rfl⟩
theorem tiuint:TIOk prog 178 ⟨.int .u64,1,8, .int .u64 0⟩:=⟨underlying178,by kernel_rfl,rfl⟩
theorem zN0:TIOk prog 83 ⟨.int .u64,1,8, .int .u64 0⟩:=⟨underlying83,by kernel_rfl,rfl⟩
def T71:TT:=(9,⟨.str,1,16, .string ⟨#[]⟩⟩)::(178,⟨.int .u64,1,8, .int .u64 0⟩)::(83,⟨.int .u64,1,8, .int .u64 0⟩)::T
theorem Wl:TOk prog T71:=⟨zO0,tiuint,zN0,tok⟩
set_option maxRecDepth 100000 in
theorem n106 (h:R (.int .i64 0) H):qj prog 254 [.int .u64 0] H R:=by
 refine zC Wl call254 func254 rfl ntmps254 rfl (by simp) ?_;refine And.intro (fun h=>absurd h (by decide)) (fun _=>?_);refine And.intro (fun h=>absurd h (by decide)) (fun _=>?_);refine And.intro (fun h=>absurd h (by decide)) (fun _=>?_);refine⟨0,0,rfl,rfl, ?_⟩;refine Or.inl ⟨0,rfl,by unfold I64;omega, ?_⟩;refine Or.inl ⟨0,rfl,by unfold I64;omega, ?_⟩;exact h
theorem n94 (h:R (.int .i64 0) H):qj prog 137 [.int .u64 0] H R:=by
 refine zC Wl call137 func137 rfl ntmps137 rfl (by simp) ?_;refine And.intro (fun h=>absurd h (by decide)) (fun _=>?_);refine n106 ?_;exact h
theorem n96 {k:Nat} (h:R (.tuple ⟨[]⟩) H):qj prog 265 [sv k 0, .int .i64 0, .int .i64 0] H R:=by
 refine zC Wl call265 func265 rfl ntmps265 rfl (by simp) ?_;refine Or.inl ⟨1,rfl,by unfold I64;omega, ?_⟩;refine qf (α := Nat) Wl (fun _=>True) (fun _=>[(2, .int .i64 0),(6, .int .i64 1)]) (fun _=>H) (fun x=>x) 0 trivial (Or.inl ⟨⟨rfl,rfl,trivial⟩,rfl⟩) ?_;intro x _;refine And.intro (fun h=>absurd h (by decide)) (fun _=>?_);exact h
set_option maxRecDepth 100000 in
theorem n93 {k:Nat} (h:R (.tuple ⟨[]⟩) H):qj prog 171 [sv k 0, .int .i64 0, .int .i64 0, .int .i64 0] H R:=by
 refine zC Wl call171 func171 rfl ntmps171 rfl (by simp) ?_;refine qf (α := Nat) Wl (fun _=>True) (fun _=>[(0,sv k 0),(1, .int .i64 0),(2, .int .i64 0),(3, .int .i64 0)]) (fun _=>H) (fun x=>x) 0 trivial (Or.inl ⟨⟨rfl,rfl,rfl,rfl,trivial⟩,rfl⟩) ?_;intro x _;refine Or.inl ⟨0,rfl,by unfold I64;omega, ?_⟩;refine UL (fun Q0 q1 q2 q3=>?_);refine And.intro (fun _=>?_) (fun h=>absurd h (by decide));refine n96 ?_;refine q3 _ _ ?_;exact h
theorem n85 {k:Nat} (h:R (.tuple ⟨[]⟩) H):qj prog 96 [sv k 0] H R:=by
 refine zC Wl call96 func96 rfl ntmps96 rfl (by simp) ?_;refine n94 ?_;refine n93 ?_;exact h
end nil

theorem heap_sorted {w:World} {r sh n:Nat} {os:Array Obj} {c:Array Value} {e:TypeId} {f:Nat × Nat} {zs:List Int} (hw:w.heap[r]? = some (.cells c e f)) :
 (∀ q,q<w.heap.size->q≠r->(Sort.grow (Sort.putRow (Value.int .i64) (Sort.ahead w n) r sh zs.toArray) os).heap[q]? = w.heap[q]?) /\
 (Sort.grow (Sort.putRow (Value.int .i64) (Sort.ahead w n) r sh zs.toArray) os).heap[r]? = some (.cells (Sort.putCells (Value.int .i64) sh zs.toArray c) e f) /\
 w.heap.size<=(Sort.grow (Sort.putRow (Value.int .i64) (Sort.ahead w n) r sh zs.toArray) os).heap.size:=by
 have hr:r<w.heap.size:=(Array.getElem?_eq_some_iff.1 hw).1;refine⟨fun q hq hne=>?_, ?_, ?_⟩
 ·simp only[Sort.grow,Sort.putRow,Sort.mapBlock,Sort.ahead]
  rw[Array.getElem?_append_left (by simpa using hq),Array.getElem?_modify,if_neg (fun e=>hne e.symm)]
 ·simp only[Sort.grow,Sort.putRow,Sort.mapBlock,Sort.ahead]
  rw[Array.getElem?_append_left (by simpa using hr),Array.getElem?_modify,if_pos rfl,hw];rfl
 ·simp[Sort.grow,Sort.putRow,Sort.mapBlock,Sort.ahead]

abbrev srt (xs:List Int):List Int:=xs.mergeSort fun x y=>decide (x<=y)

theorem c96 {k:Nat} {xs:List Int} (hb:bget H k=some (rw' xs)) (hl:xs.length<=1000000)
 (h : ∀ H' : List Blk,H'.length=H.length->bget H' k=some (rw' (srt xs))->(∀ i,i≠k->bget H' i=bget H i)->R (.tuple ⟨[]⟩) H'):qj prog 96 [sv k xs.length] H R:=by
 by_cases hx:xs.length=0
 ·have hx' : xs = []:=List.length_eq_zero_iff.1 hx
  subst hx';exact n85 (h H rfl (by simpa [srt] using hb) (fun _ _=>rfl))
 refine⟨call96,fun m argsR w ha hh=>?_⟩;obtain ⟨vR,rest,hargs,hv,hrest⟩:=ha.inv_cons;have hrn:=hrest.inv_nil;subst hrn
 have hae:argsR = #[vR]:=by
  apply Array.toList_inj.1;rw[hargs]
 subst hae;have hb' : H[k]? = some (rw' xs):=by rw[<- qV];exact hb
 generalize hn:xs.length=n at hv hx
 cases hv with
 | sliceZero _ _ a=>exact absurd rfl hx
 | sliceDead _ _ _ _ c' a hm _=>have:=hh.dd k hm;rw[hb'] at this;cases this
 | slice _ _ r sh tot esz _ _ c' hm hc hlen =>
   subst hn;obtain ⟨c,e,f,hw,hcell,hez,hwr⟩:=hh.cells hm hb';obtain ⟨hfr,hez2,hz0,htot⟩:=hwr rfl;have hr:r<w.heap.size:=(Array.getElem?_eq_some_iff.1 hw).1
   have hcx : ∀ i,i<xs.length->c[sh+i]? = some (.int .i64 xs[i]!):=fun i hi=>by
    obtain ⟨v',h1,h2⟩:=hcell i (.int .i64 xs[i]!) (by rw[yw];simp[hi]);cases h2;exact h1
   have hold:Sort.Holds (Value.int .i64) w r (sh+0) xs.toArray:=fun j hj=>by
    have hj:j<xs.length:=by simpa using hj
    refine⟨?_,VF hh hm hb' _⟩;have:=hcx j hj;simp only[Nat.add_zero];simp only[World.cell?,hw,this];simp[hj]
   have hsl:(srt xs).length=xs.length:=List.length_mergeSort _;have hcl:=Any.slices_Sort_int Tryz.laysSort r (sh+0) c' xs w hold hr (by omega);have hcl:Calls prog 96 #[.slice (some ⟨r,sh+0,none⟩) xs.length c'] w fun e w' => e = .returned (.tuple #[])/\∃ n os,w' = Sort.grow (Sort.putRow (Value.int .i64) (Sort.ahead w n) r (sh+0) (srt xs).toArray) os:=hcl
   refine Enters.of_calls (hcl.mono ?_);rintro e' w' ⟨rfl,dn,os,rfl⟩;obtain ⟨q1,q2,q3⟩:=heap_sorted (n:=dn) (sh:=sh+0) (os:=os) (zs:=srt xs) hw;generalize hW:Sort.grow (Sort.putRow (Value.int .i64) (Sort.ahead w dn) r (sh+0) (srt xs).toArray) os=w' at q1 q2 q3;have hout:OutEq w w' := by subst hW;exact⟨rfl,rfl,rfl,Nat.le_add_right _ _⟩
   clear hW;have hkl:k<H.length:=(List.getElem?_eq_some_iff.1 hb').1;have hloc:vI (m k)=some r:=by rw[hm];rfl
   have hne : ∀ i q,vI (m i)=some q->i≠k->q≠r:=fun i q h1 h2 h3=>h2 (hh.own k i r _ hloc hb' rfl (by rw[h1,h3])).symm
   refine⟨_,rfl, .tuple ⟨[]⟩,H.set k (rw' (srt xs)),m,h _ (by simp) (uw hkl) (fun i hi=>uu hi),VRel.tuple' (LRel.nil m), ?_, ?_⟩
   ·refine⟨fun i l hl=>by rw[List.length_set];exact hh.dom i l hl,fun i l b hl hd hbi=>?_,fun i hi=>?_,fun i j q b h1 h2 h3 h4=>?_⟩
    ·by_cases hik:i=k
     ·subst hik
      rw[hm] at hl;cases hl;rw[List.getElem?_set_self hkl] at hbi;cases hbi;refine⟨_,e,f,q2,fun j v hj=>?_,hez,fun _=>⟨hfr,hez2,hz0,by rw[htot];simp[Sort.putCells]⟩⟩;rw[yw] at hj
      cases hs:(srt xs)[j]? with
      | none=>rw[hs] at hj;cases hj
      | some z =>
        rw[hs] at hj;cases hj;have hjl:j<(srt xs).length:=(List.getElem?_eq_some_iff.1 hs).1;have hce:=hcx j (by omega);have hcs:sh+j<c.size:=(Array.getElem?_eq_some_iff.1 hce).1;refine⟨.int .i64 z, ?_, .int _ _⟩;simp only[Sort.putCells,Nat.add_zero,Array.getElem?_mapIdx,hce,Option.map_some];rw[if_pos ⟨by omega,by simp;omega⟩,Nat.add_sub_cancel_left]
        have:(srt xs).toArray[j]! = z:=by
         rw[getElem!_pos _ j (by simpa using hjl)]
         simpa using (List.getElem?_eq_some_iff.1 hs).2
        rw[this]
     ·rw[List.getElem?_set_ne (fun e=>hik e.symm)] at hbi
      exact (hh.blk i l b hl hd hbi).same (fun q hq=>q1 q (hh.lt (by rw[hl];exact hq)) (hne i q (by rw[hl];exact hq) hik))
    ·have hik:k≠i:=fun e=>by subst e;rw[hm] at hi;cases hi
     rw[List.getElem?_set_ne hik];exact hh.dd i hi
    ·by_cases hik:i=k
     ·subst hik;exact hh.own i j q _ h1 hb' rfl h4
     ·rw[List.getElem?_set_ne (fun e=>hik e.symm)] at h2
      exact hh.own i j q b h1 h2 h3 h4
   ·have wr : ∀ q,Wr m (H.set k (rw' (srt xs))) q->Wr m H q:=fun q ⟨i,b,h1,h2,h3⟩=>by
     by_cases hik:i=k
     ·subst hik;exact⟨i,_,h1,hb',rfl⟩
     ·rw[List.getElem?_set_ne (fun e=>hik e.symm)] at h2
      exact⟨i,b,h1,h2,h3⟩
    refine⟨q3,fun _=>by simp,fun i _ l hl=>.inl hl,fun i _ hl=>hl,fun i _ b' h1 h2=>?_,fun q hq hnw=>⟨q1 q hq (fun e=>?_),fun hx=>hnw (wr q hx)⟩,hout⟩
    ·by_cases hik:i=k
     ·subst hik;exact⟨_,hb',rfl⟩
     ·rw[List.getElem?_set_ne (fun e=>hik e.symm)] at h1
      exact⟨b',h1,h2⟩
    ·subst e;exact hnw ⟨k,_,hloc,hb',rfl⟩
end Go.Af.Tryz
