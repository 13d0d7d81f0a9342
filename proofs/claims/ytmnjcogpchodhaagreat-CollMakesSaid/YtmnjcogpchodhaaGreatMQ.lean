/-
  The law CollMakes returns true for every task and rank: its given statement, with no condition of its own.
  A task that is an argument.
  A schedule that is an argument.
  Rows of bytes, and of pairs of bytes, as arguments; three rows beside one another. No program is in sight.
  Rows of truth values as arguments, and several rows beside one another. No program is in sight.
  From arguments that are read as data to the abstract heap, and back. No program is in sight.
-/
import Derived.Test.YtmnjcogpchodhaaGreatMC
import Derived.ProofKit
import Derived.Lib.SmallJoins
import Derived.Deep.Grids
import Derived.OpenShut
import Derived.Test.YtmnjcogpchodhaaGreatRows
import Derived.Test.YtmnjcogpchodhaaGreatMGC
import Derived.Test.YtmnjcogpchodhaaGreatMHZ
set_option linter.all false
namespace Go.Af
open Go Go.ChangeShapes Go.WideShapes Go.ChangeAt Go.RowKit

section
variable {H:Type} {enc:TypeId × Value->H} {P:Program}
theorem qO0 {f:Func} {s:ChangeSpec} {apart fresh handsOn again:Bool} {W W' : World} {args:Array Value} {v:Value} {ds gs:List (DataW H)} {before pa pv:List MemPlace}
 (hW:DataW.Whole enc P f.params.toList s.vars apart W args.toList ds gs before)
 (hres : ∀ (b:Nat) (sp:Nat->Bool) (hd:Bool),DataW.TrodAll enc P W' b sp hd f.resultTypes.toList (v.resultList f.resultTypes.size) (s.fn H (ds++gs)).results [])
 (hargs : ∀ sp:Nat->Bool,(∀ p∈before,sp p.block=true)->DataW.TrodAll enc P W' 0 sp true f.params.toList args.toList (s.fn H (ds++gs)).args pa)
 (hvars : ∀ sp:Nat->Bool,(∀ p∈before,sp p.block=true)->DataW.TrodVars enc P W' sp s.vars (s.fn H (ds++gs)).vars pv)
 (hps:before=pa++pv) (hb:Below W.heap.size W W')
 (hok : ∀ (j:Nat) (t:TypeId) (r:Value),f.resultTypes[j]? = some t->(v.resultList f.resultTypes.size)[j]? = some r->Value.okWide P W' .any 0 t r) :
 s.post enc P f apart fresh handsOn again W args v W' := by
 have hlt : ∀ p∈before,p.block<W.heap.size:=fun p hp=>hW.lt p hp
 have hold : ∀ p∈before,(fun b=>decide (b<W.heap.size)) p.block=true:=fun p hp=>by simpa using hlt p hp
 refine⟨ds,gs,before,[],pa,pv,hW,hres _ _ _,hargs _ hold,hvars _ hold,World.keptBut_mono (fun p hp=>⟨hp, ?_⟩) (hb.frame (· ∈ before)),fun _=>?_⟩
 ·rw[hps,List.mem_append] at hp
  exact Or.inr hp
 ·obtain ⟨_,_,_,_,_,hz,hn⟩:=hW
  refine⟨hok,_,_,([]++pa)++pv,⟨[]++pa,pv,trodAll_append (hargs _ (fun _ _=>rfl)) (hres _ _ _),hvars _ (fun _ _=>rfl),rfl, ?_, ?_⟩, ?_⟩
  ·intro b off hp
   have hin:MemPlace.cell b off∈before:=by rw[hps];simpa using hp
   rw[hb.frozen (hlt _ hin)];exact hz b off hin
  ·intro ha
   have:=hn ha;rw[hps] at this
   simpa using this
  ·intro p hp _
   rw[hps]
   simpa using hp
theorem va0 {t:TypeId} (hl:laidOutB P=true) (hr:P.readableRec t=true) (hrow:t<P.types.size) {W W' : World} {v:Value} {d:DataW H} {ps:List MemPlace}
 (h:DataW.Trod enc P W 0 (fun _=>true) true t v d ps) (hb:Below W.heap.size W W') (hlt : ∀ x∈ps,x.block<W.heap.size) {sp:Nat->Bool} (hsp : ∀ x∈ps,sp x.block=true) :
 DataW.Trod enc P W' 0 sp true t v d ps :=
 WideElems.Trod_stays hl hr hrow h (fun x hx=>hb.same (hlt x hx)) hsp
end

theorem xY0 {m m' : LM} {H H' : List Blk} {w w' : World} (hro:Zt H=true) (h:Fr H.length m H w m' H' w'):Below w.heap.size w w' :=
 ⟨h.out.os,h.out.tape,h.out.output,h.size,fun k hk=>(h.keep k hk fun ⟨i,b,_,h2,h3⟩=>by rw[Vs hro h2] at h3;cases h3).1⟩

def wa0:LM:=fun _=>none
theorem XE (H:List Blk) (w:World):HRel wa0 H w:=⟨fun i l h=>(by cases h),fun i l b h=>(by cases h),fun i h=>(by cases h),fun i j r b h=>(by cases h)⟩

theorem xr0 {W:World} {v:Value} (h:v = .slice none 0 0\/∃ (a:Addr) (len cap:Nat) (zs:List Int),v = .slice (some a) len cap/\len<=cap/\zs.length=cap/\∀ i,i<zs.length->W.cell? (a.add i)=some (.int .i64 (zs.getD i 0))) :
 ∃ (xs:List Int) (m:LM),HRel m [ro xs] W/\VRel m (sv 0 xs.length) v:=by
 rcases h with rfl | ⟨a,len,cap,zs,rfl,hlc,hz,hc⟩
 ·exact⟨[],wa0,XE _ _, .sliceZero _ _ _⟩
 ·cases hcap:cap with
  | zero =>
    have:len=0:=by omega
    subst this;exact⟨[],wa0,XE _ _, .sliceZero _ _ _⟩
  | succ k =>
    rw[<- hcap];have h0:=hc 0 (by omega);have ea:a.add 0=a:=by simp[Addr.add]
    rw[ea] at h0;unfold World.cell? at h0
    cases hb:W.heap[a.block]? with
    | none=>rw[hb] at h0;cases h0
    | some o =>
      rw[hb] at h0
      cases o with
      | cells c e f =>
        simp only at h0
        have hs:a.spot=none:=by
         cases hsp:a.spot with
         | none=>rfl
         | some s=>rw[hsp] at h0;cases h0
        obtain ⟨blk,off,spot⟩:=a;simp only at hs hb;subst hs
        have hcell : ∀ i,i<zs.length->c[off+i]? = some (.int .i64 (zs.getD i 0)):=fun i hi=>by
         have:=hc i hi;rw[addr_add] at this
         simpa [World.cell?,hb] using this
        refine⟨zs.take len,fun i=>if i=0 then some (.cel blk off 0 0) else none, ?_, ?_⟩
        ·refine⟨fun i l hl=>?_,fun i l b hl hd hb' => ?_,fun i hl=>?_,fun i j r b hl hb' hw=>?_⟩
         ·split at hl
          ·rename_i h;subst h;simp
          ·cases hl
         ·split at hl
          ·rename_i h;subst h;cases hl
           simp at hb'; subst hb';refine⟨c,e,f,hb,fun i x hx=>?_, .inl rfl,fun h=>by cases h⟩;rw[yw] at hx
           cases hy:(zs.take len)[i]? with
           | none=>rw[hy] at hx;cases hx
           | some y =>
             rw[hy] at hx;cases hx;have hlt:i<(zs.take len).length:=(List.getElem?_eq_some_iff.1 hy).1;simp only[List.length_take] at hlt;rw[List.getElem?_take_of_lt (by omega)] at hy;exact⟨_,hcell i (by omega),by rw[show zs.getD i 0=y by simp[List.getD,hy]];exact .int _ _⟩
          ·cases hl
         ·split at hl <;> cases hl
         ·cases i with
          | zero=>simp at hb'; subst hb'; cases hw
          | succ i=>simp at hb'
        ·have e1:(zs.take len).length=len:=by simp;omega
         rw[e1];have:=VRel.slice (m:=fun i=>if i=0 then some (.cel blk off 0 0) else none) 0 0 blk off 0 0 len len cap rfl hlc (.inl rfl)
         simpa using this
      | _=>cases h0

end Go.Af
namespace Go.Af
open Go Go.ChangeShapes Go.WideShapes Go.ChangeAt Go.RowKit

abbrev roV (vs:List Value):Blk := .cells false 1 vs
theorem vk0 {m m' : LM} {b b' n:Nat} {v:Value} (h:m' b' = m b) (hv:VRel m (.slice (some ⟨b,0,none⟩) n n) v):VRel m' (.slice (some ⟨b',0,none⟩) n n) v:=by
 cases hv with
 | slice _ _ r sh tot esz _ _ c' h1 hc hl=>exact .slice b' 0 r sh tot esz n n c' (h.trans h1) hc hl
 | sliceZero _ _ a=>exact .sliceZero _ _ _
 | sliceDead _ _ _ _ c' a h1 hc=>exact .sliceDead _ _ _ _ c' a (h.trans h1) hc

def twoM (m1 m2:LM):LM:=fun i=>if i=0 then m1 0 else if i=1 then m2 0 else none
theorem Xb {m m' : LM} {z:Nat} {vs:List Value} {l:Loc} {w:World} (hp:vs.all (wS 6)=true) (h:BRel m (.cells false z vs) l w):BRel m' (.cells false z vs) l w:=by
 cases l with
 | cel r sh tot esz =>
   obtain ⟨c,e,f,h1,h2,h3,h4⟩:=h;refine⟨c,e,f,h1,fun i v hv=>?_,h3,h4⟩;obtain ⟨v',h5,h6⟩:=h2 i v hv;have hpv:=List.all_eq_true.1 hp v (List.mem_of_getElem? hv);have:=VRel.plain_eq 6 v hpv h6;subst this;exact⟨_,h5,VRel.plain _ 6 _ hpv⟩
 | obj r=>exact h
 | dead=>exact h
theorem xt0 {m1 m2:LM} {v1 v2:List Value} {W:World} (p1:v1.all (wS 6)=true) (p2:v2.all (wS 6)=true) (h1:HRel m1 [roV v1] W) (h2:HRel m2 [roV v2] W):HRel (twoM m1 m2) [roV v1,roV v2] W:=by
 refine⟨fun i l hl=>?_,fun i l b hl hd hb=>?_,fun i hl=>?_,fun i j r b hl hb hw=>?_⟩
 ·unfold twoM at hl
  split at hl
  ·rename_i h;subst h;simp
  ·split at hl
   ·rename_i h;subst h;simp
   ·cases hl
 ·unfold twoM at hl
  split at hl
  ·rename_i h;subst h
   simp at hb;subst hb;exact Xb p1 (h1.blk 0 l _ hl hd rfl)
  ·split at hl
   ·rename_i h;subst h
    simp at hb;subst hb;exact Xb p2 (h2.blk 0 l _ hl hd rfl)
   ·cases hl
 ·unfold twoM at hl
  split at hl
  ·have:=h1.dd 0 hl;simp at this
  ·split at hl
   ·have:=h2.dd 0 hl;simp at this
   ·cases hl
 ·rcases i with _ | _ | i
  ·simp at hb;subst hb;cases hw
  ·simp at hb;subst hb;cases hw
  ·simp at hb
end Go.Af
namespace Go.Af
open Go Go.ChangeShapes Go.WideShapes Go.ChangeAt Go.RowKit

theorem qZ0 {W:World} {v:Value} {F:Nat->Value} (z:Nat) (hz:0<z) (hF : ∀ i,wS 6 (F i)=true) (h:v = .slice none 0 0\/∃ (a:Addr) (len cap:Nat),v = .slice (some a) len cap/\len<=cap/\∀ i,i<cap*z->W.cell? (a.add i)=some (F i)) :
 ∃ (n:Nat) (m:LM),HRel m [.cells false z ((List.range (n*z)).map F)] W/\VRel m (.slice (some ⟨0,0,none⟩) n n) v:=by
 rcases h with rfl | ⟨a,len,cap,rfl,hlc,hc⟩
 ·exact⟨0,wa0,XE _ _, .sliceZero _ _ _⟩
 ·cases hcap:cap with
  | zero =>
    have:len=0:=by omega
    subst this;exact⟨0,wa0,XE _ _, .sliceZero _ _ _⟩
  | succ k =>
    rw[<- hcap];have h0:=hc 0 (Nat.mul_pos (by omega) hz);have ea:a.add 0=a:=by simp[Addr.add]
    rw[ea] at h0;unfold World.cell? at h0
    cases hb:W.heap[a.block]? with
    | none=>rw[hb] at h0;cases h0
    | some o =>
      rw[hb] at h0
      cases o with
      | cells c e f =>
        simp only at h0
        have hs:a.spot=none:=by
         cases hsp:a.spot with
         | none=>rfl
         | some s=>rw[hsp] at h0;cases h0
        obtain ⟨blk,off,spot⟩:=a;simp only at hs hb;subst hs
        have hcell : ∀ i,i<cap*z->c[off+i]? = some (F i):=fun i hi=>by
         have:=hc i hi;rw[addr_add] at this
         simpa [World.cell?,hb] using this
        have hle:len*z<=cap*z:=Nat.mul_le_mul_right z hlc;refine⟨len,fun i=>if i=0 then some (.cel blk off 0 0) else none, ?_, ?_⟩
        ·refine⟨fun i l hl=>?_,fun i l b hl hd hb' => ?_,fun i hl=>?_,fun i j r b hl hb' hw=>?_⟩
         ·split at hl
          ·rename_i h;subst h;simp
          ·cases hl
         ·split at hl
          ·rename_i h;subst h;cases hl
           simp at hb'; subst hb';refine⟨c,e,f,hb,fun i x hx=>?_, .inl rfl,fun h=>by cases h⟩;have hlt:i<len*z:=by have:=(List.getElem?_eq_some_iff.1 hx).1;simpa using this
           rw[List.getElem?_map,List.getElem?_range hlt] at hx;cases hx;exact⟨_,hcell i (by omega),VRel.plain _ 6 _ (hF i)⟩
          ·cases hl
         ·split at hl <;> cases hl
         ·cases i with
          | zero=>simp at hb'; subst hb'; cases hw
          | succ i=>simp at hb'
        ·have:=VRel.slice (m:=fun i=>if i=0 then some (.cel blk off 0 0) else none) 0 0 blk off 0 0 len len cap rfl hlc (.inl rfl)
         simpa using this
      | _=>cases h0

end Go.Af
namespace Go.Proofs.YtmnjcogpchodhaaGreat
open Go Go.Af Go.ChangeShapes Go.WideShapes Go.ChangeAt Go.RowKit Go.Joins
open Go.Af.Tryz (Tk stC stsC zy schV tkV bls)

theorem Tryz.own:ownKnob Tryz.prog.godebug=none:=by kernel_rfl
theorem Tryz.laidOut:laidOutB Tryz.prog=true:=by kernel_rfl
theorem Tryz.cells3:Tryz.prog.cellsOf 3=1:=by kernel_rfl
theorem Tryz.cells4:Tryz.prog.cellsOf 4=1:=by kernel_rfl
theorem Tryz.cells22:Tryz.prog.cellsOf 22=1:=by kernel_rfl
theorem Tryz.cells23:Tryz.prog.cellsOf 23=1:=by kernel_rfl
theorem Tryz.cells25:Tryz.prog.cellsOf 25=2:=by kernel_rfl
theorem Tryz.cells27:Tryz.prog.cellsOf 27=6:=by kernel_rfl
theorem list2 {α : Type} {cs:List α} (h:cs.length=2) : ∃ c0 c1,cs = [c0,c1]:=by
 match cs,h with
 | [c0,c1],_=>exact⟨c0,c1,rfl⟩
theorem list5 {α : Type} {cs:List α} (h:cs.length=5) : ∃ c0 c1 c2 c3 c4,cs = [c0,c1,c2,c3,c4]:=by
 match cs,h with
 | [c0,c1,c2,c3,c4],_=>exact⟨c0,c1,c2,c3,c4,rfl⟩
end Go.Proofs.YtmnjcogpchodhaaGreat
namespace Go.Proofs.YtmnjcogpchodhaaGreat
open Go Go.Af Go.ChangeShapes Go.WideShapes Go.ChangeAt Go.RowKit Go.Joins
open Go.Af.Tryz (Tk stC stsC zy schV tkV bls)

theorem array6 {α : Type} {cs:Array α} (h:cs.size=6) : ∃ c0 c1 c2 c3 c4 c5,cs = #[c0,c1,c2,c3,c4,c5]:=by
 obtain ⟨l⟩:=cs
 match l,h with
 | [c0,c1,c2,c3,c4,c5],_=>exact⟨c0,c1,c2,c3,c4,c5,rfl⟩
set_option maxRecDepth 100000 in
theorem yf0 {H:Type} {enc:TypeId × Value->H} {W:World} {held:Bool} {r:Reach} {b0 base:Nat} {v:Value} {d:DataW H} {ps:List MemPlace}
 (hval:Value.okWide Tryz.prog W r b0 27 v) (hd:DataW.Trod enc Tryz.prog W base (fun _=>true) held 27 v d ps) :
 ∃ (t:Tk) (m:LM),HRel m [ro t.sz, .cells false 1 (bls t.ws)] W/\VRel m (tkV t 0 1) v:=by
 obtain ⟨cs,rfl,hsz⟩:=okWide_struct Tryz.underlying27 hval;obtain ⟨c0,c1,c2,c3,c4,c5,rfl⟩:=array6 (hsz.trans Tryz.cells27);obtain ⟨fuel,hf⟩:=hd;have h0:DataW.trod enc Tryz.prog W base (fun _=>true) held fuel 27 [c0,c1,c2,c3,c4,c5]=some (d,ps):=by simpa [Value.cells] using hf
 obtain ⟨zs,n2,_,_,_,hlen2,hG⟩:=DataW.trod_struct Tryz.underlying27 h0;obtain ⟨z0,z1,z2,z3,z4,rfl⟩:=list5 hlen2;have g0:DataW.trod enc Tryz.prog W base (fun _=>true) held n2 3 [c0]=some z0:=by have h:=hG 0 _ rfl;simpa [Tryz.cells3] using h
 have g1:DataW.trod enc Tryz.prog W base (fun _=>true) held n2 3 [c1]=some z1:=by have h:=hG 1 _ rfl;simpa [Tryz.cells3] using h
 have g2:DataW.trod enc Tryz.prog W base (fun _=>true) held n2 3 [c2]=some z2:=by have h:=hG 2 _ rfl;simpa [Tryz.cells3] using h
 have g3:DataW.trod enc Tryz.prog W base (fun _=>true) held n2 3 [c3]=some z3:=by have h:=hG 3 _ rfl;simpa [Tryz.cells3] using h
 have g4:DataW.trod enc Tryz.prog W base (fun _=>true) held n2 25 [c4,c5]=some z4:=by have h:=hG 4 _ rfl;simpa [Tryz.cells25] using h
 obtain ⟨op,e0,_,_⟩:=DataW.trod_int Tryz.underlying3 g0;obtain ⟨pr,e1,_,_⟩:=DataW.trod_int Tryz.underlying3 g1;obtain ⟨rt,e2,_,_⟩:=DataW.trod_int Tryz.underlying3 g2;obtain ⟨pa,e3,_,_⟩:=DataW.trod_int Tryz.underlying3 g3;obtain ⟨us,n3,_,_,_,hlen3,hK⟩:=DataW.trod_struct Tryz.underlying25 g4;obtain ⟨u0,u1,rfl⟩:=list2 hlen3;have k0:DataW.trod enc Tryz.prog W base (fun _=>true) held n3 22 [c4]=some u0:=by have h:=hK 0 _ rfl;simpa [Tryz.cells22] using h
 have k1:DataW.trod enc Tryz.prog W base (fun _=>true) held n3 23 [c5]=some u1:=by have h:=hK 1 _ rfl;simpa [Tryz.cells23] using h
 have hs:=open_ints Tryz.underlying22 Tryz.underlying3 Tryz.cells3 k0
 have hsl:c4 = .slice none 0 0\/∃ (a:Addr) (len cap:Nat) (zs:List Int),c4 = .slice (some a) len cap/\len<=cap/\zs.length=cap/\∀ i,i<zs.length->W.cell? (a.add i)=some (.int .i64 (zs.getD i 0)):=by
  rcases hs with ⟨e1,_⟩ | ⟨a,len,cap,zs,e1,_,h3,_,h5,_,h7,_⟩
  ·exact .inl (by simpa using e1)
  ·exact .inr ⟨a,len,cap,zs,by simpa using e1,h3,by simpa using h5,h7⟩
 obtain ⟨xs,m1,hm1,hv1⟩:=xr0 hsl
 have hbl : ∃ B:Nat->Bool,c5 = .slice none 0 0\/∃ (a:Addr) (len cap:Nat),c5 = .slice (some a) len cap/\len<=cap/\∀ i,i<cap*1->W.cell? (a.add i)=some (.bool (B i)):=by
  rcases Go.Deep.open_bools Tryz.underlying23 Tryz.underlying4 Tryz.cells4 k1 with ⟨h,_⟩ | ⟨a',len',cap',B,h,_,hl,_,_,hB⟩
  ·exact⟨fun _=>false, .inl (by simpa using h)⟩
  ·exact⟨B, .inr ⟨a',len',cap',by simpa using h,hl,by simpa using hB⟩⟩
 obtain ⟨B,hB⟩:=hbl;obtain ⟨q2,m2,hm2,hv2⟩:=qZ0 (F:=fun i=>Value.bool (B i)) 1 (by decide) (fun _=>rfl) hB
 have p2:((List.range (q2*1)).map (fun i=>Value.bool (B i))).all (wS 6)=true:=by
  rw[List.all_map,List.all_eq_true];exact fun j _=>rfl
 have hr:=xt0 (qT0 xs) p2 hm1 hm2;have eb:(List.range (q2*1)).map (fun i=>Value.bool (B i))=bls ((List.range q2).map B):=by simp[bls]
 rw[eb] at hr;have hk2:q2=((List.range q2).map B).length:=by simp
 rw[hk2] at hv2;simp only[List.cons.injEq,and_true] at e0 e1 e2 e3;subst e0;subst e1;subst e2;subst e3;refine⟨⟨op,pr,rt,pa,xs,(List.range q2).map B⟩,twoM m1 m2,hr, ?_⟩;exact .agg' (.cons (.int _ _) (.cons (.int _ _) (.cons (.int _ _) (.cons (.int _ _) (.cons (vk0 (m:=m1) (b:=0) rfl hv1) (.cons (vk0 (m:=m2) (b:=0) rfl hv2) (.nil _)))))))
end Go.Proofs.YtmnjcogpchodhaaGreat
namespace Go.Proofs.YtmnjcogpchodhaaGreat
open Go Go.Af Go.ChangeShapes Go.WideShapes Go.ChangeAt Go.RowKit Go.Joins

set_option maxRecDepth 100000 in
theorem collMakes_lifted (os:Os) (started:os.Started) (H:Type) (enc:TypeId × Value->H) :
 ReturnsInHanded {} Tryz.checked os 3 .any (Rows.collMakesSpec.pre6 enc Tryz.prog Tryz.f3 Rows.collMakesRow.domain false) (Rows.collMakesSpec.post enc Tryz.prog Tryz.f3 false true false false):=by
 refine returnsInHanded_of_change (C:=Tryz.checked) Tryz.own started (by kernel_rfl) Tryz.func3
  (ChangeSpec.witness6 (enc:=enc) (C:=Tryz.checked) false ⟨#[], #[.agg #[.int .i64 0, .int .i64 0, .int .i64 0, .int .i64 0, .slice none 0 0, .slice none 0 0], .int .i64 0],[]⟩ 8 (by kernel_rfl) (by kernel_rfl) (by kernel_rfl) (by kernel_rfl)) ?_
 intro W base args ds gs before hval0 hW hcnd _;have hval : ∀ (j:Nat) t v,Tryz.f3.params[j]? = some t->args[j]? = some v->Value.okWide Tryz.prog W .any base t v:=hval0;have hW' := hW;obtain ⟨p,q,hA0,hV,rfl,hfz,hnd⟩:=hW;have hA:DataW.TrodAll enc Tryz.prog W 0 (fun _=>true) true Tryz.f3.params.toList args.toList ds p:=hA0;rw[Tryz.params3] at hA hval;obtain ⟨v0,v1,d0,d1,p0,p1,rfl,rfl,rfl,h0,h1⟩:=trodAll_two hA;obtain ⟨rfl,rfl⟩:=trodVars_none hV;obtain ⟨rank,rfl,rfl,rfl,wa⟩:=open_int Tryz.underlying3 (hval 1 3 v1 rfl rfl) h1;have h0k:=h0;obtain ⟨t,m,hm,hv⟩:=yf0 (hval 0 27 v0 rfl rfl) h0;have hlt : ∀ x∈p0,x.block<W.heap.size:=fun x hx=>hW'.lt x (by simpa using hx)
 refine (Go.Af.Tryz.wk3m t rank (m:=m) (.cons hv (.cons (.int _ _) (.nil _))) hm).mono fun e W' ⟨vR,he,v,H',m',hv1,hv2,_,hf⟩=>?_
 subst he;subst hv1;cases hv2;have hb:Below W.heap.size W W' := xY0 rfl hf
 exact⟨_,rfl,qO0 (pa:=p0 ++ []) (pv := []) hW' (fun _ _ _=>trodAll_mk1 (shut_bool Tryz.underlying4 true))
  (fun sp hsp=>trodAll_mk2 (va0 Tryz.laidOut (by kernel_rfl) (of_decide_eq_true (by kernel_rfl)) h0k hb hlt (fun x hx=>hsp x (by simpa using hx))) (shut_int Tryz.underlying3 wa))
  (fun _ _=>rfl) (by simp) hb (ok_one (by kernel_rfl) rfl (okWide_bool_mk Tryz.underlying4 true))⟩

set_option maxRecDepth 100000 in
theorem xp0:(Rows.collMakesRow.inPlace == Tryz.prog.inPlace 3)=true:=by kernel_rfl
set_option maxRecDepth 100000 in
theorem jUnf:(Rows.collMakesRow.unfollowed == Tryz.prog.unfollowed 3)=true:=by kernel_rfl
set_option maxRecDepth 100000 in
theorem jRec:(Rows.collMakesRow.recurses == Tryz.prog.recurses 3)=true:=by kernel_rfl
set_option maxRecDepth 100000 in
theorem jNam:(Rows.collMakesRow.named == Tryz.prog.varsNamed 3)=true:=by kernel_rfl
set_option maxRecDepth 100000 in
theorem jWf:Rows.collMakesRow.wf (OpenSpec.ofChange Rows.collMakesSpec)=true:=by kernel_rfl
set_option maxRecDepth 100000 in
theorem jLaid:laidOutB Tryz.prog=true:=by kernel_rfl
set_option maxRecDepth 100000 in
theorem jMaps:mapsRowed Tryz.prog=true:=by kernel_rfl
set_option maxRecDepth 100000 in
theorem joined:joinedFacts Tryz.prog 3 Tryz.f3 Rows.collMakesSpec Rows.collMakesRow=true:=by
 unfold joinedFacts;rw[xp0,jUnf,jRec,jNam,jWf,jLaid,jMaps]
 kernel_rfl
set_option maxRecDepth 100000 in
theorem named:Tryz.pinned.checked.prog.funcNamed Rows.collMakesRow.func=some 3:=by kernel_rfl
set_option maxRecDepth 100000 in
theorem inst:Tryz.f3.isInstance Tryz.pinned.checked.prog Rows.collMakesRow.origin Rows.collMakesRow.targs:=of_decide_eq_true (by kernel_rfl)
theorem collMakes_holds:Rows.CollMakesSaid :=
 OpenClaim.holds_of_wide 3 Tryz.f3 rfl rfl rfl rfl rfl rfl rfl ⟨rfl,rfl,rfl,rfl,rfl⟩ rfl rfl rfl rfl rfl named Tryz.func3 joined
  inst (by unfold Func.isWrapper;first | (rw[if_pos (by decide +kernel)];kernel_rfl) | (rw[if_neg (by decide +kernel)];exact⟨rfl,rfl⟩))
  (fun os started H enc _=>collMakes_lifted os started H enc)
end Go.Proofs.YtmnjcogpchodhaaGreat
