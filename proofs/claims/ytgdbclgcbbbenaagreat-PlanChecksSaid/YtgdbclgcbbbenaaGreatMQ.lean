/-
  The law PlanChecks returns true for every machine and every number of processes: its given statement, with no condition of its own.
  The law PlanChecks, as a call.
  Machines, tasks and schedules that are arguments, with many rows beside one another.
  A schedule that is an argument.
  Rows of bytes, and of pairs of bytes, as arguments; three rows beside one another. No program is in sight.
  Rows of truth values as arguments, and several rows beside one another. No program is in sight.
  From arguments that are read as data to the abstract heap, and back. No program is in sight.
-/
import Derived.Test.YtgdbclgcbbbenaaGreatMC
import Derived.ProofKit
import Derived.Lib.SmallJoins
import Derived.Deep.Grids
import Derived.OpenShut
import Derived.Test.YtgdbclgcbbbenaaGreatRows
import Derived.Test.YtgdbclgcbbbenaaGreatMPA
import Derived.Test.YtgdbclgcbbbenaaGreatMGC
import Derived.Test.YtgdbclgcbbbenaaGreatMPE
import Derived.Test.YtgdbclgcbbbenaaGreatMWA
import Derived.Test.YtgdbclgcbbbenaaGreatMCA
set_option linter.all false
namespace Go.Af
open Go Go.ChangeShapes Go.WideShapes Go.ChangeAt Go.RowKit

section
variable {H:Type} {enc:TypeId × Value->H} {P:Program}
theorem post_below {f:Func} {s:ChangeSpec} {apart fresh handsOn again:Bool} {W W' : World} {args:Array Value} {v:Value} {ds gs:List (DataW H)} {before pa pv:List MemPlace}
 (hW:DataW.Whole enc P f.params.toList s.vars apart W args.toList ds gs before)
 (hres : ∀ (b:Nat) (sp:Nat->Bool) (hd:Bool),DataW.TrodAll enc P W' b sp hd f.resultTypes.toList (v.resultList f.resultTypes.size) (s.fn H (ds++gs)).results [])
 (hargs : ∀ sp:Nat->Bool,(∀ p∈before,sp p.block=true)->DataW.TrodAll enc P W' 0 sp true f.params.toList args.toList (s.fn H (ds++gs)).args pa)
 (hvars : ∀ sp:Nat->Bool,(∀ p∈before,sp p.block=true)->DataW.TrodVars enc P W' sp s.vars (s.fn H (ds++gs)).vars pv)
 (hps:before=pa++pv) (hb:Below W.heap.size W W')
 (hok : ∀ (j:Nat) (t:TypeId) (r:Value),f.resultTypes[j]? = some t->(v.resultList f.resultTypes.size)[j]? = some r->Value.okWide P W' .any 0 t r) :
 s.post enc P f apart fresh handsOn again W args v W' := by
 have hlt : ∀ p∈before,p.block<W.heap.size:=fun p hp=>hW.lt p hp
 have hold : ∀ p∈before,(fun b=>decide (b<W.heap.size)) p.block=true:=fun p hp=>by simpa using hlt p hp
 refine⟨ds,gs,before,[],pa,pv,hW,hres _ _ _,hargs _ hold,hvars _ hold,World.keptBut_mono (fun p hp=>⟨hp, ?_⟩) (hb.frame (· ∈ before)),fun _=>?_⟩
 ·rw[hps,List.mem_append] at hp
  exact Or.inr hp
 ·obtain ⟨_,_,_,_,_,hz,hn⟩:=hW
  refine⟨hok,_,_,([]++pa)++pv,⟨[]++pa,pv,trodAll_append (hargs _ (fun _ _=>rfl)) (hres _ _ _),hvars _ (fun _ _=>rfl),rfl, ?_, ?_⟩, ?_⟩
  ·intro b off hp
   have hin:MemPlace.cell b off∈before:=by rw[hps];simpa using hp
   rw[hb.frozen (hlt _ hin)]
   exact hz b off hin
  ·intro ha
   have:=hn ha
   rw[hps] at this
   simpa using this
  ·intro p hp _
   rw[hps]
   simpa using hp
theorem below_trod {t:TypeId} (hl:laidOutB P=true) (hr:P.readableRec t=true) (hrow:t<P.types.size) {W W' : World} {v:Value} {d:DataW H} {ps:List MemPlace}
 (h:DataW.Trod enc P W 0 (fun _=>true) true t v d ps) (hb:Below W.heap.size W W') (hlt : ∀ x∈ps,x.block<W.heap.size) {sp:Nat->Bool} (hsp : ∀ x∈ps,sp x.block=true) :
 DataW.Trod enc P W' 0 sp true t v d ps :=
 WideElems.Trod_stays hl hr hrow h (fun x hx=>hb.same (hlt x hx)) hsp
end

theorem below_of {m m' : LM} {H H' : List Blk} {w w' : World} (hro:allRo H=true) (h:Fr H.length m H w m' H' w'):Below w.heap.size w w' :=
 ⟨h.out.os,h.out.tape,h.out.output,h.size,fun k hk=>(h.keep k hk fun ⟨i,b,_,h2,h3⟩=>by rw[allRo_get hro h2] at h3;cases h3).1⟩

def noLoc:LM:=fun _=>none
theorem hrel_no (H:List Blk) (w:World):HRel noLoc H w:=⟨fun i l h=>(by cases h),fun i l b h=>(by cases h),fun i h=>(by cases h),fun i j r b h=>(by cases h)⟩

theorem ints_arg {W:World} {v:Value} (h:v = .slice none 0 0\/∃ (a:Addr) (len cap:Nat) (zs:List Int),v = .slice (some a) len cap/\len<=cap/\zs.length=cap/\∀ i,i<zs.length->W.cell? (a.add i)=some (.int .i64 (zs.getD i 0))) :
 ∃ (xs:List Int) (m:LM),HRel m [ro xs] W/\VRel m (sv 0 xs.length) v:=by
 rcases h with rfl | ⟨a,len,cap,zs,rfl,hlc,hz,hc⟩
 ·exact⟨[],noLoc,hrel_no _ _, .sliceZero _ _ _⟩
 ·cases hcap:cap with
  | zero =>
    have:len=0:=by omega
    subst this
    exact⟨[],noLoc,hrel_no _ _, .sliceZero _ _ _⟩
  | succ k =>
    rw[<- hcap]
    have h0:=hc 0 (by omega)
    have ea:a.add 0=a:=by simp[Addr.add]
    rw[ea] at h0
    unfold World.cell? at h0
    cases hb:W.heap[a.block]? with
    | none=>rw[hb] at h0;cases h0
    | some o =>
      rw[hb] at h0
      cases o with
      | cells c e f =>
        simp only at h0
        have hs:a.spot=none:=by
         cases hsp:a.spot with
         | none=>rfl
         | some s=>rw[hsp] at h0;cases h0
        obtain ⟨blk,off,spot⟩:=a
        simp only at hs hb
        subst hs
        have hcell : ∀ i,i<zs.length->c[off+i]? = some (.int .i64 (zs.getD i 0)):=fun i hi=>by
         have:=hc i hi
         rw[addr_add] at this
         simpa [World.cell?,hb] using this
        refine⟨zs.take len,fun i=>if i=0 then some (.cel blk off 0 0) else none, ?_, ?_⟩
        ·refine⟨fun i l hl=>?_,fun i l b hl hd hb' => ?_,fun i hl=>?_,fun i j r b hl hb' hw=>?_⟩
         ·split at hl
          ·rename_i h;subst h;simp
          ·cases hl
         ·split at hl
          ·rename_i h;subst h;cases hl
           simp at hb'; subst hb'
           refine⟨c,e,f,hb,fun i x hx=>?_, .inl rfl,fun h=>by cases h⟩
           rw[vF] at hx
           cases hy:(zs.take len)[i]? with
           | none=>rw[hy] at hx;cases hx
           | some y =>
             rw[hy] at hx;cases hx
             have hlt:i<(zs.take len).length:=(List.getElem?_eq_some_iff.1 hy).1
             simp only[List.length_take] at hlt
             rw[List.getElem?_take_of_lt (by omega)] at hy
             exact⟨_,hcell i (by omega),by rw[show zs.getD i 0=y by simp[List.getD,hy]];exact .int _ _⟩
          ·cases hl
         ·split at hl <;> cases hl
         ·cases i with
          | zero=>simp at hb'; subst hb'; cases hw
          | succ i=>simp at hb'
        ·have e1:(zs.take len).length=len:=by simp;omega
         rw[e1]
         have:=VRel.slice (m:=fun i=>if i=0 then some (.cel blk off 0 0) else none) 0 0 blk off 0 0 len len cap rfl hlc (.inl rfl)
         simpa using this
      | _=>cases h0

theorem i64_wf {n:Int} (h:(Lit.int .i64 n).wf=true):I64 n:=by
 simp[Lit.wf,IntKind.min,IntKind.max,IntKind.signed,IntKind.bits] at h
 unfold I64;omega
end Go.Af
namespace Go.Af
open Go Go.ChangeShapes Go.WideShapes Go.ChangeAt Go.RowKit

theorem vrel_at {m m' : LM} {b b' n:Nat} {v:Value} (h:m' b' = m b) (hv:VRel m (.slice (some ⟨b,0,none⟩) n n) v):VRel m' (.slice (some ⟨b',0,none⟩) n n) v:=by
 cases hv with
 | slice _ _ r sh tot esz _ _ c' h1 hc hl=>exact .slice b' 0 r sh tot esz n n c' (h.trans h1) hc hl
 | sliceZero _ _ a=>exact .sliceZero _ _ _
 | sliceDead _ _ _ _ c' a h1 hc=>exact .sliceDead _ _ _ _ c' a (h.trans h1) hc

theorem brel_plain {m m' : LM} {z:Nat} {vs:List Value} {l:Loc} {w:World} (hp:vs.all (wW 6)=true) (h:BRel m (.cells false z vs) l w):BRel m' (.cells false z vs) l w:=by
 cases l with
 | cel r sh tot esz =>
   obtain ⟨c,e,f,h1,h2,h3,h4⟩:=h
   refine⟨c,e,f,h1,fun i v hv=>?_,h3,h4⟩
   obtain ⟨v',h5,h6⟩:=h2 i v hv
   have hpv:=List.all_eq_true.1 hp v (List.mem_of_getElem? hv)
   have:=VRel.plain_eq 6 v hpv h6
   subst this
   exact⟨_,h5,VRel.plain _ 6 _ hpv⟩
 | obj r=>exact h
 | dead=>exact h
end Go.Af
namespace Go.Af
open Go Go.ChangeShapes Go.WideShapes Go.ChangeAt Go.RowKit

end Go.Af
namespace Go.Proofs.YtgdbclgcbbbenaaGreat
open Go Go.Af Go.ChangeShapes Go.WideShapes Go.ChangeAt Go.RowKit Go.Joins
open Go.Af.Tryz.Co (Tk stC stsC stsC_snoc schV tkV bls)

theorem Tryz.own:ownKnob Tryz.prog.godebug=none:=by kernel_rfl
theorem Tryz.laidOut:laidOutB Tryz.prog=true:=by kernel_rfl
theorem Tryz.cells3:Tryz.prog.cellsOf 3=1:=by kernel_rfl
theorem Tryz.cells22:Tryz.prog.cellsOf 22=1:=by kernel_rfl
theorem array8 {α : Type} {cs:Array α} (h:cs.size=8) : ∃ c0 c1 c2 c3 c4 c5 c6 c7,cs = #[c0,c1,c2,c3,c4,c5,c6,c7]:=by
 obtain ⟨l⟩:=cs
 match l,h with
 | [c0,c1,c2,c3,c4,c5,c6,c7],_=>exact⟨c0,c1,c2,c3,c4,c5,c6,c7,rfl⟩
theorem list3 {α : Type} {cs:List α} (h:cs.length=3) : ∃ c0 c1 c2,cs = [c0,c1,c2]:=by
 match cs,h with
 | [c0,c1,c2],_=>exact⟨c0,c1,c2,rfl⟩
theorem list6 {α : Type} {cs:List α} (h:cs.length=6) : ∃ c0 c1 c2 c3 c4 c5,cs = [c0,c1,c2,c3,c4,c5]:=by
 match cs,h with
 | [c0,c1,c2,c3,c4,c5],_=>exact⟨c0,c1,c2,c3,c4,c5,rfl⟩
end Go.Proofs.YtgdbclgcbbbenaaGreat
namespace Go.Af
open Go
def manyM (ms:List LM):LM:=fun i=>match ms[i]? with
 | some m=>m 0
 | none=>none
def yJ (W:World):List LM->List Blk->Prop
 | [],[]=>True
 | m::ms,b::bs=>(∃ z vs,b = .cells false z vs/\vs.all (wW 6)=true)/\HRel m [b] W/\yJ W ms bs
 | _,_=>False
theorem yJ.pos {W:World} : ∀ {ms:List LM} {bs:List Blk},yJ W ms bs->ms.length=bs.length/\∀ (i:Nat) (m:LM),ms[i]? = some m->∃ b z vs,bs[i]? = some b/\b = .cells false z vs/\vs.all (wW 6)=true/\HRel m [b] W
 | [],[],_=>⟨rfl,fun i m h=>by simp at h⟩
 | m::ms,b::bs,⟨⟨z,vs,h1,h2⟩,h3,h4⟩=>by
   obtain ⟨e,h5⟩:=yJ.pos h4
   refine⟨by simp[e],fun i m' h=>?_⟩
   cases i with
   | zero=>simp at h;subst h;exact⟨b,z,vs,rfl,h1,h2,h3⟩
   | succ i=>exact h5 i m' (by simpa using h)
 | [],_::_,h=>h.elim
 | _::_,[],h=>h.elim
theorem yJ.cons {W:World} {m:LM} {b:Blk} {ms:List LM} {bs:List Blk} (h:yJ W [m] [b]) (h' : yJ W ms bs):yJ W (m::ms) (b::bs):=⟨h.1,h.2.1,h'⟩
theorem hrel_many {W:World} {ms:List LM} {bs:List Blk} (h:yJ W ms bs):HRel (manyM ms) bs W:=by
 obtain ⟨hlen,hat⟩:=h.pos
 have cs : ∀ {i:Nat} {l:Loc},manyM ms i=some l->∃ m,ms[i]? = some m/\m 0=some l:=fun {i l} hl=>by
  unfold manyM at hl
  split at hl
  ·rename_i m hm;exact⟨m,hm,hl⟩
  ·cases hl
 refine⟨fun i l hl=>?_,fun i l b hl hd hb=>?_,fun i hl=>?_,fun i j r b hl hb hw=>?_⟩
 ·obtain ⟨m,hm,_⟩:=cs hl
  obtain ⟨b,z,vs,h1,_⟩:=hat i m hm
  exact (List.getElem?_eq_some_iff.1 h1).1
 ·obtain ⟨m,hm,h0⟩:=cs hl
  obtain ⟨b',z,vs,h1,h2,h3,h4⟩:=hat i m hm
  rw[hb] at h1
  cases h1
  subst h2
  exact brel_plain h3 (h4.blk 0 l _ h0 hd rfl)
 ·obtain ⟨m,hm,h0⟩:=cs hl
  obtain ⟨b',z,vs,h1,h2,h3,h4⟩:=hat i m hm
  have:=h4.dd 0 h0
  subst h2
  simp at this
 ·exfalso
  have hi:i<ms.length:=by rw[hlen];exact (List.getElem?_eq_some_iff.1 hb).1
  obtain ⟨b',z,vs,h1,h2,h3,h4⟩:=hat i _ (List.getElem?_eq_getElem hi)
  rw[hb] at h1
  cases h1
  subst h2
  cases hw
end Go.Af
namespace Go.Proofs.YtgdbclgcbbbenaaGreat
open Go Go.Af Go.ChangeShapes Go.WideShapes Go.ChangeAt Go.RowKit Go.Joins
open Go.Af.Tryz (Mc mcV)
open Go.Af.Tryz.Co (Tk stC stsC stsC_snoc schV tkV bls)
theorem vlen {m:LM} {b n c:Nat} {v:Value} (h:VRel m (.slice (some ⟨b,0,none⟩) n c) v) (hb:v = .slice none 0 0\/∃ (a:Addr) (len cap:Nat),v = .slice (some a) len cap/\len<=cap/\cap<=maxLen):n<=9223372036854775807:=by
 have e:maxLen=9223372036854775807:=by decide
 rw[e] at hb
 rcases hb with rfl | ⟨a,len,cap,rfl,h1,h2⟩
 ·cases h <;> omega
 ·cases h <;> omega
set_option maxRecDepth 100000
section
variable {H:Type} {enc:TypeId × Value->H} {W:World} {held:Bool} {base fuel:Nat}
theorem row_ints {c:Value} {y:DataW H × List MemPlace} (hf:DataW.trod enc Tryz.prog W base (fun _=>true) held fuel 22 [c]=some y) :
 ∃ (xs:List Int) (m1:LM),yJ W [m1] [ro xs]/\xs.length<=9223372036854775807/\∀ (M:LM) (b:Nat),M b=m1 0->VRel M (sv b xs.length) c:=by
 have hs:=open_ints Tryz.underlying22 Tryz.underlying3 Tryz.cells3 hf
 have hsl:c = .slice none 0 0\/∃ (a:Addr) (len cap:Nat) (zs:List Int),c = .slice (some a) len cap/\len<=cap/\zs.length=cap/\∀ i,i<zs.length->W.cell? (a.add i)=some (.int .i64 (zs.getD i 0)):=by
  rcases hs with ⟨e1,_⟩ | ⟨a,len,cap,zs,e1,_,h3,_,h5,_,h7,_⟩
  ·exact .inl (by simpa using e1)
  ·exact .inr ⟨a,len,cap,zs,by simpa using e1,h3,by simpa using h5,h7⟩
 have hz1:c = .slice none 0 0\/∃ (a:Addr) (len cap:Nat),c = .slice (some a) len cap/\len<=cap/\cap<=maxLen:=by
  rcases hs with ⟨e1,_⟩ | ⟨a,len,cap,zs,e1,_,h3,h4,_⟩
  ·exact .inl (by simpa using e1)
  ·exact .inr ⟨a,len,cap,by simpa using e1,h3,h4⟩
 obtain ⟨xs,m1,hm1,hv1⟩:=ints_arg hsl
 exact⟨xs,m1,⟨⟨1,_,rfl,ints_plain xs⟩,hm1,trivial⟩,vlen hv1 hz1,fun M b e=>vrel_at e hv1⟩
theorem Tryz.cells24:Tryz.prog.cellsOf 24=3:=by kernel_rfl
theorem Tryz.cells26:Tryz.prog.cellsOf 26=8:=by kernel_rfl
theorem arg_mc {r:Reach} {b0:Nat} {v:Value} {d:DataW H} {ps:List MemPlace}
 (hval:Value.okWide Tryz.prog W r b0 26 v) (hd:DataW.Trod enc Tryz.prog W base (fun _=>true) held 26 v d ps) :
 ∃ (m:Mc) (m1 m2:LM),yJ W [m1] [ro m.sd]/\yJ W [m2] [ro m.hs]/\(m.sd.length<=9223372036854775807/\m.hs.length<=9223372036854775807)/\(I64 m.kd/\I64 m.ho/\I64 m.st/\I64 m.hp/\I64 m.wd/\I64 m.jn)/\∀ (M:LM) (b c:Nat),M b=m1 0->M c=m2 0->VRel M (mcV m b c) v:=by
 obtain ⟨cs,rfl,hsz⟩:=okWide_struct Tryz.underlying26 hval
 obtain ⟨c0,c1,c2,c3,c4,c5,c6,c7,rfl⟩:=array8 (hsz.trans Tryz.cells26)
 obtain ⟨fuel,hf⟩:=hd
 obtain ⟨ys,n,_,hx,hl,hlen,hF⟩:=DataW.trod_struct Tryz.underlying26 hf
 obtain ⟨y0,y1,y2,y3,y4,y5,rfl⟩:=list6 hlen
 have h0:DataW.trod enc Tryz.prog W base (fun _=>true) held n 24 [c0,c1,c2]=some y0:=by have h:=hF 0 _ rfl;simpa [Value.cells,Tryz.cells24] using h
 have h1:DataW.trod enc Tryz.prog W base (fun _=>true) held n 22 [c3]=some y1:=by have h:=hF 1 _ rfl;simpa [Value.cells,Tryz.cells22] using h
 have h2:DataW.trod enc Tryz.prog W base (fun _=>true) held n 3 [c4]=some y2:=by have h:=hF 2 _ rfl;simpa [Value.cells,Tryz.cells3] using h
 have h3:DataW.trod enc Tryz.prog W base (fun _=>true) held n 3 [c5]=some y3:=by have h:=hF 3 _ rfl;simpa [Value.cells,Tryz.cells3] using h
 have h4:DataW.trod enc Tryz.prog W base (fun _=>true) held n 3 [c6]=some y4:=by have h:=hF 4 _ rfl;simpa [Value.cells,Tryz.cells3] using h
 have h5:DataW.trod enc Tryz.prog W base (fun _=>true) held n 3 [c7]=some y5:=by have h:=hF 5 _ rfl;simpa [Value.cells,Tryz.cells3] using h
 obtain ⟨st,e4,_,w4⟩:=DataW.trod_int Tryz.underlying3 h2
 obtain ⟨hp,e5,_,w5⟩:=DataW.trod_int Tryz.underlying3 h3
 obtain ⟨wd,e6,_,w6⟩:=DataW.trod_int Tryz.underlying3 h4
 obtain ⟨jn,e7,_,w7⟩:=DataW.trod_int Tryz.underlying3 h5
 obtain ⟨zs,n2,_,_,_,hlen2,hG⟩:=DataW.trod_struct Tryz.underlying24 h0
 obtain ⟨z0,z1,z2,rfl⟩:=list3 hlen2
 have g0:DataW.trod enc Tryz.prog W base (fun _=>true) held n2 3 [c0]=some z0:=by have h:=hG 0 _ rfl;simpa [Tryz.cells3] using h
 have g1:DataW.trod enc Tryz.prog W base (fun _=>true) held n2 22 [c1]=some z1:=by have h:=hG 1 _ rfl;simpa [Tryz.cells22] using h
 have g2:DataW.trod enc Tryz.prog W base (fun _=>true) held n2 3 [c2]=some z2:=by have h:=hG 2 _ rfl;simpa [Tryz.cells3] using h
 obtain ⟨kd,e0,_,w0⟩:=DataW.trod_int Tryz.underlying3 g0
 obtain ⟨ho,e2,_,w2⟩:=DataW.trod_int Tryz.underlying3 g2
 obtain ⟨sd,m1,r1,z1,v1⟩:=row_ints g1
 obtain ⟨hs,m2,r2,z2,v2⟩:=row_ints h1
 simp only[List.cons.injEq,and_true] at e0 e2 e4 e5 e6 e7
 subst e0;subst e2;subst e4;subst e5;subst e6;subst e7
 refine⟨⟨kd,sd,ho,hs,st,hp,wd,jn⟩,m1,m2,r1,r2,⟨z1,z2⟩,⟨i64_wf w0,i64_wf w2,i64_wf w4,i64_wf w5,i64_wf w6,i64_wf w7⟩,fun M b c h1 h2=>?_⟩
 exact .agg' (.cons (.int _ _) (.cons (v1 M b h1) (.cons (.int _ _) (.cons (v2 M c h2) (.cons (.int _ _) (.cons (.int _ _) (.cons (.int _ _) (.cons (.int _ _) (.nil _)))))))))
end
end Go.Proofs.YtgdbclgcbbbenaaGreat
namespace Go.Af.Tryz
open Go Go.Proofs Go.Af.Pl Co
open Ne hiding none' bls
set_option maxRecDepth 100000
set_option maxHeartbeats 4000000
attribute [local irreducible] awp qo qA qN qI qG isCells qC qw qY ve qM roundEnd xK zN keyK wY zS xA
theorem wk13 (H:List Blk) {R:Value->List Blk->Prop} (h : ∀ H',HS H none' [] H' -> R (.bool true) H'):qo Tryz.prog 13 [] H R:=(W.worksX H (h H (HS.start H none'))).call
abbrev tkZ:Tk:=⟨0,0,0,0,[],[]⟩
abbrev tkZV:Value := .agg ⟨[.int .i64 0, .int .i64 0, .int .i64 0, .int .i64 0, .slice none 0 0, .slice none 0 0]⟩
theorem c12z {H:List Blk} {m:Mc} {b c:Nat} {sw pr:Int} {R:Value->List Blk->Prop} (g:Mr H m b c)
 (h : ∀ H' u,HS H none' [] H' -> (u=true->fewP m tkZ sw pr)->R (.bool u) H'):qo Tryz.prog 12 [mcV m b c,tkZV, .int .i64 sw, .int .i64 pr] H R:=by
 have hv:=(HS.start H none').virt (ro [])
 refine acall_seen (Hs:=H ++ [ro []]) (args' := [mcV m b c,tkV tkZ H.length H.length, .int .i64 sw, .int .i64 pr]) ?_ ?_ (WkH.rfl.app _)
 ·exact c12 (g.up (qU hv)) ⟨_,hv.get 0 rfl⟩ (by simp) (by simp) (fun H' u hn hu=>h H' u (qU (vP hv hn)) hu)
 ·exact LUp.cons VUp.rfl (LUp.cons (VUp.agg (LUp.cons VUp.rfl (LUp.cons VUp.rfl (LUp.cons VUp.rfl (LUp.cons VUp.rfl (LUp.cons (VUp.nil _) (LUp.cons (VUp.nil _) LUp.nil))))))) (LUp.cons VUp.rfl (LUp.cons VUp.rfl LUp.nil)))
theorem c36s {H:List Blk} {s:Sh} {ho:Int} {n a b:Nat} {wa wb:Bool} {R:Value->List Blk->Prop} (ha:bget H a=some (.cells wa 1 (ints (spL s ho n)))) (hb:bget H b=some (.cells wb 1 (ints (spL s ho n)))) (hn:n<=1000000) (h:R (.bool true) H):qo Tryz.prog 36 [sv a n,sv b n] H R:=by
 have hl:=spL_len s ho n
 have:=c36 (R:=R) ha hb (by omega) (by rw[decide_eq_true rfl];exact h)
 rw[hl] at this
 exact this
theorem k8g {H:List Blk} {m:Mc} {procs:Int} {b c:Nat} (g:Mr H m b c) (hh:m.hs.length<=9223372036854775807)
 {μ : LM} {argsR:Array Value} {w:World} (ha:LRel μ [mcV m b c, .int .i64 procs] argsR.toList) (hr:HRel μ H w) :
 Calls Tryz.prog 8 argsR w fun e w' => ∃ vR,e = .returned vR/\zU μ H w (fun v _=>v = .bool true) vR w' := by
 obtain ⟨w0,hb0⟩:=g.s
 refine calls_vcg tok Tryz.func8 rfl Tryz.ntmps8 rfl (by simp) ?_ ha hr
 clear ha hr
 refine vO (HS.start H none') (fun H1 b2 e1 l1 hs=>?_)
 refine qZ (fun _ hKs=>hKs _ _ ?_);clear hKs
 clear e1 l1
 repeat' (first|refine nX ?_|refine nY (fun K0 hK0=>?_)|refine bH ?_|refine bM ?_|refine iS hs ?_|refine rS hs ?_|refine eI _ (aI rfl ?_)|refine qi ?_|refine qh ?_|refine qf ?_|refine oJ ?_|refine nN hs (fun _ _ hs=>?_)|refine nS hs (fun _ _ hs=>?_)|refine sX hs (fun _ hs=>?_)|(refine hK0 _ _ ?_;clear hK0)|fail)
 refine c12z (g.up (qU hs)) (fun H2 u hn hu=>?_)
 have hs:=vP hs hn
 clear hn
 cases u with
 | false =>
   repeat' (first|refine nX ?_|refine nY (fun K0 hK0=>?_)|refine bH ?_|refine bM ?_|refine iS hs ?_|refine rS hs ?_|refine eI _ (aI rfl ?_)|refine qi ?_|refine qh ?_|refine qf ?_|refine oJ ?_|refine nN hs (fun _ _ hs=>?_)|refine nS hs (fun _ _ hs=>?_)|refine sX hs (fun _ hs=>?_)|(refine dI (fun hc=>?_) (fun hc=>?_) <;> try (exfalso;omega))|(refine hK0 _ _ ?_;clear hK0)|fail)
   refine wk13 _ (fun H3 hn=>?_)
   have hs:=vP hs hn
   repeat' (first|refine nX ?_|refine nY (fun K0 hK0=>?_)|refine bH ?_|refine bM ?_|refine iS hs ?_|refine rS hs ?_|refine eI _ (aI rfl ?_)|refine qi ?_|refine qh ?_|refine qf ?_|refine oJ ?_|refine nN hs (fun _ _ hs=>?_)|refine nS hs (fun _ _ hs=>?_)|refine sX hs (fun _ hs=>?_)|(refine dI (fun hc=>?_) (fun hc=>?_) <;> try (exfalso;omega))|(refine hK0 _ _ ?_;clear hK0)|fail)
   rfl
 | true =>
   have hf:=hu rfl
   have hfe:m.hs.length<=100:=hf.2.1
   repeat' (first|refine nX ?_|refine nY (fun K0 hK0=>?_)|refine bH ?_|refine bM ?_|refine iS hs ?_|refine rS hs ?_|refine eI _ (aI rfl ?_)|refine qi ?_|refine qh ?_|refine qf ?_|refine oJ ?_|refine nN hs (fun _ _ hs=>?_)|refine nS hs (fun _ _ hs=>?_)|refine sX hs (fun _ hs=>?_)|(refine dI (fun hc=>?_) (fun hc=>?_) <;> try (exfalso;omega))|(refine hK0 _ _ ?_;clear hK0)|fail)
   refine c37 ⟨_,zq (qU hs) hb0⟩ (fun hne H3 hn=>?_) (fun s n hsh hp hle H3 k hn=>?_)
   ·have hs:=vP hs hn
    clear hn
    repeat' (first|refine nX ?_|refine nY (fun K0 hK0=>?_)|refine bH ?_|refine bM ?_|refine iS hs ?_|refine rS hs ?_|refine eI _ (aI rfl ?_)|refine qi ?_|refine qh ?_|refine qf ?_|refine oJ ?_|refine nN hs (fun _ _ hs=>?_)|refine nS hs (fun _ _ hs=>?_)|refine sX hs (fun _ hs=>?_)|(refine hK0 _ _ ?_;clear hK0)|fail)
    refine c38 ⟨_,zq (qU hs) hb0⟩ (fun _ H4 hn=>?_) (fun s n hsh hp hle=>?_)
    ·have hs:=vP hs hn
     clear hn
     repeat' (first|refine nX ?_|refine nY (fun K0 hK0=>?_)|refine bH ?_|refine bM ?_|refine iS hs ?_|refine rS hs ?_|refine eI _ (aI rfl ?_)|refine qi ?_|refine qh ?_|refine qf ?_|refine oJ ?_|refine nN hs (fun _ _ hs=>?_)|refine nS hs (fun _ _ hs=>?_)|refine sX hs (fun _ hs=>?_)|(refine hK0 _ _ ?_;clear hK0)|fail)
     refine wC tok mx [0,0,3,0,15,0,63,127,255,511,511,2047,4095,8191,16383,16383,65535,131071,262143,524287,1048575,2097151] [false,true,false,true,false,true,false,false,false,false,false,false,false,false,false,false,false,false,false,false,false,false] (.first 0 (.first 1 (.first 5 (.alt 2 (.first 3 (.first 4 (.first 6 (.first 7 (.first 8 (.first 9 (.first 10 (.first 11 (.first 12 (.first 13 (.first 14 (.first 15 (.first 16 (.first 17 (.first 18 (.first 19 (.first 20 (.first 21 .done)))))))))))))))))) (.alt 3 (.first 2 (.first 4 (.first 6 (.first 7 (.first 8 (.first 9 (.first 10 (.first 11 (.first 12 (.first 13 (.first 14 (.first 15 (.first 16 (.first 17 (.first 18 (.first 19 (.first 20 (.first 21 .done)))))))))))))))))) .no))))) (by kernel_rfl) ?_
     refine wK (fun K0 hK0=>?_)
     repeat' (first|(refine c39 (g.up (qU hs)) hh (fun _ hn=>?_);have hs:=vP hs hn;clear hn)|(refine c40 (g.up (qU hs)) hh (fun _ hn=>?_);have hs:=vP hs hn;clear hn)|(refine c16 (fun _ hn=>?_);have hs:=vP hs hn;clear hn)|refine wk13 _ (fun _ _=>?_)|refine c36n ?_|refine iS hs ?_|refine rS hs ?_|refine eI _ (aI rfl ?_)|refine qi ?_|refine qh ?_|refine nN hs (fun _ _ hs=>?_)|refine nS hs (fun _ _ hs=>?_)|refine And.intro (fun _=>?_) (fun h=>absurd h (by rw[decide_eq_true rfl];decide))|refine And.intro (fun h=>absurd h (by rw[decide_eq_true rfl];decide)) (fun _=>?_)|exact trivial|exact rfl|refine And.intro ?_ ?_|(refine hK0 _ _ ?_;clear hK0)|fail)
    ·exfalso
     refine hne ?_
     unfold spE
     rw[hsh]
     dsimp only
     rw[if_neg (by omega)]
   ·have hs:=hs.call hn rfl
    clear hn
    repeat' (first|refine nX ?_|refine nY (fun K0 hK0=>?_)|refine bH ?_|refine bM ?_|refine iS hs ?_|refine rS hs ?_|refine eI _ (aI rfl ?_)|refine qi ?_|refine qh ?_|refine qf ?_|refine oJ ?_|refine nN hs (fun _ _ hs=>?_)|refine nS hs (fun _ _ hs=>?_)|refine sX hs (fun _ hs=>?_)|(refine hK0 _ _ ?_;clear hK0)|fail)
    refine c38 ⟨_,zq (qU hs) hb0⟩ (fun hne=>?_) (fun s' n' hsh' hp' hle' H4 k' hn=>?_)
    ·exfalso
     refine hne ?_
     unfold spE
     rw[hsh]
     dsimp only
     rw[if_neg (by omega)]
    ·rw[hsh] at hsh'
     cases hsh'
     obtain rfl:n=n' := by omega
     have hs:=hs.call hn rfl
     clear hn
     repeat' (first|refine nX ?_|refine nY (fun K0 hK0=>?_)|refine bH ?_|refine bM ?_|refine iS hs ?_|refine rS hs ?_|refine eI _ (aI rfl ?_)|refine qi ?_|refine qh ?_|refine qf ?_|refine oJ ?_|refine nN hs (fun _ _ hs=>?_)|refine nS hs (fun _ _ hs=>?_)|refine sX hs (fun _ hs=>?_)|(refine hK0 _ _ ?_;clear hK0)|fail)
     have hn5:n<=1000000:=by
      have hho:=zB hsh
      have hbd:=sw_bd (wP hsh)
      have hm8:s.hm*m.ho<=65536*8:=Int.mul_le_mul hbd.2.2 hho.2 (by omega) (by decide)
      omega
     refine wC tok mx [0,0,3,0,15,0,63,127,255,511,511,2047,4095,8191,16383,16383,65535,131071,262143,524287,1048575,2097151] [false,true,false,true,false,true,false,false,false,false,false,false,false,false,false,false,false,false,false,false,false,false] (.first 0 (.first 1 (.first 5 (.alt 2 (.first 3 (.first 4 (.first 6 (.first 7 (.first 8 (.first 9 (.first 10 (.first 11 (.first 12 (.first 13 (.first 14 (.first 15 (.first 16 (.first 17 (.first 18 (.first 19 (.first 20 (.first 21 .done)))))))))))))))))) (.alt 3 (.first 2 (.first 4 (.first 6 (.first 7 (.first 8 (.first 9 (.first 10 (.first 11 (.first 12 (.first 13 (.first 14 (.first 15 (.first 16 (.first 17 (.first 18 (.first 19 (.first 20 (.first 21 .done)))))))))))))))))) .no))))) (by kernel_rfl) ?_
     refine wK (fun K0 hK0=>?_)
     repeat' (first|(refine c39 (g.up (qU hs)) hh (fun _ hn=>?_);have hs:=vP hs hn;clear hn)|(refine c40 (g.up (qU hs)) hh (fun _ hn=>?_);have hs:=vP hs hn;clear hn)|(refine c16 (fun _ hn=>?_);have hs:=vP hs hn;clear hn)|refine wk13 _ (fun _ _=>?_)|refine c36s (hs.get 1 rfl) (hs.get 0 rfl) hn5 ?_|refine iS hs ?_|refine rS hs ?_|refine eI _ (aI rfl ?_)|refine qi ?_|refine qh ?_|refine nN hs (fun _ _ hs=>?_)|refine nS hs (fun _ _ hs=>?_)|refine And.intro (fun _=>?_) (fun h=>absurd h (by rw[decide_eq_true rfl];decide))|refine And.intro (fun h=>absurd h (by rw[decide_eq_true rfl];decide)) (fun _=>?_)|exact trivial|exact rfl|refine And.intro ?_ ?_|(refine hK0 _ _ ?_;clear hK0)|fail)
theorem k8 (m:Mc) (procs:Int) (z0:m.hs.length<=9223372036854775807) {μ : LM} {argsR:Array Value} {w:World}
 (ha:LRel μ [mcV m 0 1, .int .i64 procs] argsR.toList) (hr:HRel μ [ro m.sd,ro m.hs] w) :
 Calls Tryz.prog 8 argsR w fun e w' => ∃ vR,e = .returned vR/\zU μ [ro m.sd,ro m.hs] w (fun v _=>v = .bool true) vR w' :=
 k8g (H := [ro m.sd,ro m.hs]) ⟨⟨_,rfl⟩,⟨_,rfl⟩⟩ z0 ha hr
end Go.Af.Tryz
namespace Go.Proofs.YtgdbclgcbbbenaaGreat
open Go Go.Af Go.ChangeShapes Go.WideShapes Go.ChangeAt Go.RowKit Go.Joins

set_option maxRecDepth 100000 in
theorem planChecks_lifted (os:Os) (started:os.Started) (H:Type) (enc:TypeId × Value->H) :
 ReturnsInHanded {} Tryz.checked os 8 .any (Rows.planChecksSpec.pre6 enc Tryz.prog Tryz.f8 Rows.planChecksRow.domain false) (Rows.planChecksSpec.post enc Tryz.prog Tryz.f8 false true false false):=by
 refine returnsInHanded_of_change (C:=Tryz.checked) Tryz.own started (by kernel_rfl) Tryz.func8
  (ChangeSpec.witness6 (enc:=enc) (C:=Tryz.checked) false ⟨#[], #[.agg #[.int .i64 0, .slice none 0 0, .int .i64 0, .slice none 0 0, .int .i64 0, .int .i64 0, .int .i64 0, .int .i64 0], .int .i64 0],[]⟩ 8 (by kernel_rfl) (by kernel_rfl) (by kernel_rfl) (by kernel_rfl)) ?_
 intro W base args ds gs before hval0 hW hcnd _
 have hval : ∀ (j:Nat) t v,Tryz.f8.params[j]? = some t->args[j]? = some v->Value.okWide Tryz.prog W .any base t v:=hval0
 have hW' := hW
 obtain ⟨p,q,hA0,hV,rfl,hfz,hnd⟩:=hW
 have hA:DataW.TrodAll enc Tryz.prog W 0 (fun _=>true) true Tryz.f8.params.toList args.toList ds p:=hA0
 rw[Tryz.params8] at hA hval
 obtain ⟨v0,v1,d0,d1,p0,p1,rfl,rfl,rfl,h0,h1⟩:=trodAll_two hA
 obtain ⟨rfl,rfl⟩:=trodVars_none hV
 have h0k:=h0
 have h1k:=h1
 obtain ⟨m,m1,m2,r1,r2,z0,_,hv⟩:=arg_mc (hval 0 26 v0 rfl rfl) h0
 obtain ⟨n,rfl,rfl,rfl,wn⟩:=open_int Tryz.underlying3 (hval 1 3 v1 rfl rfl) h1
 have hr:=hrel_many (yJ.cons r1 r2)
 have hlt : ∀ x∈p0 ++ [],x.block<W.heap.size:=fun x hx=>hW'.lt x (by simpa using hx)
 refine (Go.Af.Tryz.k8 m n z0.2 (μ := manyM [m1,m2]) (.cons (hv _ 0 1 rfl rfl) (.cons (.int _ _) (.nil _))) hr).mono fun e W' ⟨vR,he,v,H',m',hv1,hv2,_,hf⟩=>?_
 subst he;subst hv1
 cases hv2
 have hb:Below W.heap.size W W' := below_of rfl hf
 exact⟨_,rfl,post_below (pa:=p0 ++ []) (pv := []) hW' (fun _ _ _=>trodAll_mk1 (shut_bool Tryz.underlying4 true))
  (fun sp hsp=>trodAll_mk2 (below_trod Tryz.laidOut (by kernel_rfl) (of_decide_eq_true (by kernel_rfl)) h0k hb (fun x hx=>hlt x (by simp[hx])) (fun x hx=>hsp x (by simp[hx])))
    (shut_int Tryz.underlying3 wn))
  (fun _ _=>rfl) (by simp) hb (ok_one (by kernel_rfl) rfl (okWide_bool_mk Tryz.underlying4 true))⟩

set_option maxRecDepth 100000 in
theorem jInPlace:(Rows.planChecksRow.inPlace == Tryz.prog.inPlace 8)=true:=by kernel_rfl
set_option maxRecDepth 100000 in
theorem jUnf:(Rows.planChecksRow.unfollowed == Tryz.prog.unfollowed 8)=true:=by kernel_rfl
set_option maxRecDepth 100000 in
theorem jRec:(Rows.planChecksRow.recurses == Tryz.prog.recurses 8)=true:=by kernel_rfl
set_option maxRecDepth 100000 in
theorem jNam:(Rows.planChecksRow.named == Tryz.prog.varsNamed 8)=true:=by kernel_rfl
set_option maxRecDepth 100000 in
theorem jWf:Rows.planChecksRow.wf (OpenSpec.ofChange Rows.planChecksSpec)=true:=by kernel_rfl
set_option maxRecDepth 100000 in
theorem jLaid:laidOutB Tryz.prog=true:=by kernel_rfl
set_option maxRecDepth 100000 in
theorem jMaps:mapsRowed Tryz.prog=true:=by kernel_rfl
set_option maxRecDepth 100000 in
theorem joined:joinedFacts Tryz.prog 8 Tryz.f8 Rows.planChecksSpec Rows.planChecksRow=true:=by
 unfold joinedFacts
 rw[jInPlace,jUnf,jRec,jNam,jWf,jLaid,jMaps]
 kernel_rfl
set_option maxRecDepth 100000 in
theorem named:Tryz.pinned.checked.prog.funcNamed Rows.planChecksRow.func=some 8:=by kernel_rfl
set_option maxRecDepth 100000 in
theorem inst:Tryz.f8.isInstance Tryz.pinned.checked.prog Rows.planChecksRow.origin Rows.planChecksRow.targs:=of_decide_eq_true (by kernel_rfl)
theorem planChecks_holds:Rows.PlanChecksSaid :=
 OpenClaim.holds_of_wide 8 Tryz.f8 rfl rfl rfl rfl rfl rfl rfl ⟨rfl,rfl,rfl,rfl,rfl⟩ rfl rfl rfl rfl rfl named Tryz.func8 joined
  inst (by unfold Func.isWrapper;first | (rw[if_pos (by decide +kernel)];kernel_rfl) | (rw[if_neg (by decide +kernel)];exact⟨rfl,rfl⟩))
  (fun os started H enc _=>planChecks_lifted os started H enc)
end Go.Proofs.YtgdbclgcbbbenaaGreat
