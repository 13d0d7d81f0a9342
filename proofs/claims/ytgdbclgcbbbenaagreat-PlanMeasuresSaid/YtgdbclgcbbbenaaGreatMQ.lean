/-
  The law PlanMeasures returns true for every machine and every schedule: its given statement, with no condition of its own.
  Machines, tasks and schedules that are arguments, with many rows beside one another.
  A schedule that is an argument.
  Rows of bytes, and of pairs of bytes, as arguments; three rows beside one another. No program is in sight.
  Rows of truth values as arguments, and several rows beside one another. No program is in sight.
  From arguments that are read as data to the abstract heap, and back. No program is in sight.
-/
import Derived.Test.YtgdbclgcbbbenaaGreatMC
import Derived.ProofKit
import Derived.Lib.SmallJoins
import Derived.Deep.Grids
import Derived.OpenShut
import Derived.Test.YtgdbclgcbbbenaaGreatRows
import Derived.Test.YtgdbclgcbbbenaaGreatMPA
import Derived.Test.YtgdbclgcbbbenaaGreatMGC
import Derived.Test.YtgdbclgcbbbenaaGreatMPL
set_option linter.all false
namespace Go.Af
open Go Go.ChangeShapes Go.WideShapes Go.ChangeAt Go.RowKit

section
variable {H:Type} {enc:TypeId × Value->H} {P:Program}
theorem post_below {f:Func} {s:ChangeSpec} {apart fresh handsOn again:Bool} {W W' : World} {args:Array Value} {v:Value} {ds gs:List (DataW H)} {before pa pv:List MemPlace}
 (hW:DataW.Whole enc P f.params.toList s.vars apart W args.toList ds gs before)
 (hres : ∀ (b:Nat) (sp:Nat->Bool) (hd:Bool),DataW.TrodAll enc P W' b sp hd f.resultTypes.toList (v.resultList f.resultTypes.size) (s.fn H (ds++gs)).results [])
 (hargs : ∀ sp:Nat->Bool,(∀ p∈before,sp p.block=true)->DataW.TrodAll enc P W' 0 sp true f.params.toList args.toList (s.fn H (ds++gs)).args pa)
 (hvars : ∀ sp:Nat->Bool,(∀ p∈before,sp p.block=true)->DataW.TrodVars enc P W' sp s.vars (s.fn H (ds++gs)).vars pv)
 (hps:before=pa++pv) (hb:Below W.heap.size W W')
 (hok : ∀ (j:Nat) (t:TypeId) (r:Value),f.resultTypes[j]? = some t->(v.resultList f.resultTypes.size)[j]? = some r->Value.okWide P W' .any 0 t r) :
 s.post enc P f apart fresh handsOn again W args v W' := by
 have hlt : ∀ p∈before,p.block<W.heap.size:=fun p hp=>hW.lt p hp
 have hold : ∀ p∈before,(fun b=>decide (b<W.heap.size)) p.block=true:=fun p hp=>by simpa using hlt p hp
 refine⟨ds,gs,before,[],pa,pv,hW,hres _ _ _,hargs _ hold,hvars _ hold,World.keptBut_mono (fun p hp=>⟨hp, ?_⟩) (hb.frame (· ∈ before)),fun _=>?_⟩
 ·rw[hps,List.mem_append] at hp
  exact Or.inr hp
 ·obtain ⟨_,_,_,_,_,hz,hn⟩:=hW
  refine⟨hok,_,_,([]++pa)++pv,⟨[]++pa,pv,trodAll_append (hargs _ (fun _ _=>rfl)) (hres _ _ _),hvars _ (fun _ _=>rfl),rfl, ?_, ?_⟩, ?_⟩
  ·intro b off hp
   have hin:MemPlace.cell b off∈before:=by rw[hps];simpa using hp
   rw[hb.frozen (hlt _ hin)]
   exact hz b off hin
  ·intro ha
   have:=hn ha
   rw[hps] at this
   simpa using this
  ·intro p hp _
   rw[hps]
   simpa using hp
theorem below_trod {t:TypeId} (hl:laidOutB P=true) (hr:P.readableRec t=true) (hrow:t<P.types.size) {W W' : World} {v:Value} {d:DataW H} {ps:List MemPlace}
 (h:DataW.Trod enc P W 0 (fun _=>true) true t v d ps) (hb:Below W.heap.size W W') (hlt : ∀ x∈ps,x.block<W.heap.size) {sp:Nat->Bool} (hsp : ∀ x∈ps,sp x.block=true) :
 DataW.Trod enc P W' 0 sp true t v d ps :=
 WideElems.Trod_stays hl hr hrow h (fun x hx=>hb.same (hlt x hx)) hsp
end

theorem below_of {m m' : LM} {H H' : List Blk} {w w' : World} (hro:allRo H=true) (h:Fr H.length m H w m' H' w'):Below w.heap.size w w' :=
 ⟨h.out.os,h.out.tape,h.out.output,h.size,fun k hk=>(h.keep k hk fun ⟨i,b,_,h2,h3⟩=>by rw[allRo_get hro h2] at h3;cases h3).1⟩

def noLoc:LM:=fun _=>none
theorem hrel_no (H:List Blk) (w:World):HRel noLoc H w:=⟨fun i l h=>(by cases h),fun i l b h=>(by cases h),fun i h=>(by cases h),fun i j r b h=>(by cases h)⟩

theorem ints_arg {W:World} {v:Value} (h:v = .slice none 0 0\/∃ (a:Addr) (len cap:Nat) (zs:List Int),v = .slice (some a) len cap/\len<=cap/\zs.length=cap/\∀ i,i<zs.length->W.cell? (a.add i)=some (.int .i64 (zs.getD i 0))) :
 ∃ (xs:List Int) (m:LM),HRel m [ro xs] W/\VRel m (sv 0 xs.length) v:=by
 rcases h with rfl | ⟨a,len,cap,zs,rfl,hlc,hz,hc⟩
 ·exact⟨[],noLoc,hrel_no _ _, .sliceZero _ _ _⟩
 ·cases hcap:cap with
  | zero =>
    have:len=0:=by omega
    subst this
    exact⟨[],noLoc,hrel_no _ _, .sliceZero _ _ _⟩
  | succ k =>
    rw[<- hcap]
    have h0:=hc 0 (by omega)
    have ea:a.add 0=a:=by simp[Addr.add]
    rw[ea] at h0
    unfold World.cell? at h0
    cases hb:W.heap[a.block]? with
    | none=>rw[hb] at h0;cases h0
    | some o =>
      rw[hb] at h0
      cases o with
      | cells c e f =>
        simp only at h0
        have hs:a.spot=none:=by
         cases hsp:a.spot with
         | none=>rfl
         | some s=>rw[hsp] at h0;cases h0
        obtain ⟨blk,off,spot⟩:=a
        simp only at hs hb
        subst hs
        have hcell : ∀ i,i<zs.length->c[off+i]? = some (.int .i64 (zs.getD i 0)):=fun i hi=>by
         have:=hc i hi
         rw[addr_add] at this
         simpa [World.cell?,hb] using this
        refine⟨zs.take len,fun i=>if i=0 then some (.cel blk off 0 0) else none, ?_, ?_⟩
        ·refine⟨fun i l hl=>?_,fun i l b hl hd hb' => ?_,fun i hl=>?_,fun i j r b hl hb' hw=>?_⟩
         ·split at hl
          ·rename_i h;subst h;simp
          ·cases hl
         ·split at hl
          ·rename_i h;subst h;cases hl
           simp at hb'; subst hb'
           refine⟨c,e,f,hb,fun i x hx=>?_, .inl rfl,fun h=>by cases h⟩
           rw[qQ] at hx
           cases hy:(zs.take len)[i]? with
           | none=>rw[hy] at hx;cases hx
           | some y =>
             rw[hy] at hx;cases hx
             have hlt:i<(zs.take len).length:=(List.getElem?_eq_some_iff.1 hy).1
             simp only[List.length_take] at hlt
             rw[List.getElem?_take_of_lt (by omega)] at hy
             exact⟨_,hcell i (by omega),by rw[show zs.getD i 0=y by simp[List.getD,hy]];exact .int _ _⟩
          ·cases hl
         ·split at hl <;> cases hl
         ·cases i with
          | zero=>simp at hb'; subst hb'; cases hw
          | succ i=>simp at hb'
        ·have e1:(zs.take len).length=len:=by simp;omega
         rw[e1]
         have:=VRel.slice (m:=fun i=>if i=0 then some (.cel blk off 0 0) else none) 0 0 blk off 0 0 len len cap rfl hlc (.inl rfl)
         simpa using this
      | _=>cases h0

theorem i64_wf {n:Int} (h:(Lit.int .i64 n).wf=true):I64 n:=by
 simp[Lit.wf,IntKind.min,IntKind.max,IntKind.signed,IntKind.bits] at h
 unfold I64;omega
end Go.Af
namespace Go.Af
open Go Go.ChangeShapes Go.WideShapes Go.ChangeAt Go.RowKit

theorem vrel_at {m m' : LM} {b b' n:Nat} {v:Value} (h:m' b' = m b) (hv:VRel m (.slice (some ⟨b,0,none⟩) n n) v):VRel m' (.slice (some ⟨b',0,none⟩) n n) v:=by
 cases hv with
 | slice _ _ r sh tot esz _ _ c' h1 hc hl=>exact .slice b' 0 r sh tot esz n n c' (h.trans h1) hc hl
 | sliceZero _ _ a=>exact .sliceZero _ _ _
 | sliceDead _ _ _ _ c' a h1 hc=>exact .sliceDead _ _ _ _ c' a (h.trans h1) hc

theorem brel_plain {m m' : LM} {z:Nat} {vs:List Value} {l:Loc} {w:World} (hp:vs.all (wo 6)=true) (h:BRel m (.cells false z vs) l w):BRel m' (.cells false z vs) l w:=by
 cases l with
 | cel r sh tot esz =>
   obtain ⟨c,e,f,h1,h2,h3,h4⟩:=h
   refine⟨c,e,f,h1,fun i v hv=>?_,h3,h4⟩
   obtain ⟨v',h5,h6⟩:=h2 i v hv
   have hpv:=List.all_eq_true.1 hp v (List.mem_of_getElem? hv)
   have:=VRel.plain_eq 6 v hpv h6
   subst this
   exact⟨_,h5,VRel.plain _ 6 _ hpv⟩
 | obj r=>exact h
 | dead=>exact h
end Go.Af
namespace Go.Af
open Go Go.ChangeShapes Go.WideShapes Go.ChangeAt Go.RowKit

theorem cellsz_arg {W:World} {v:Value} {F:Nat->Value} (z:Nat) (hz:0<z) (hF : ∀ i,wo 6 (F i)=true) (h:v = .slice none 0 0\/∃ (a:Addr) (len cap:Nat),v = .slice (some a) len cap/\len<=cap/\∀ i,i<cap*z->W.cell? (a.add i)=some (F i)) :
 ∃ (n:Nat) (m:LM),HRel m [.cells false z ((List.range (n*z)).map F)] W/\VRel m (.slice (some ⟨0,0,none⟩) n n) v:=by
 rcases h with rfl | ⟨a,len,cap,rfl,hlc,hc⟩
 ·exact⟨0,noLoc,hrel_no _ _, .sliceZero _ _ _⟩
 ·cases hcap:cap with
  | zero =>
    have:len=0:=by omega
    subst this
    exact⟨0,noLoc,hrel_no _ _, .sliceZero _ _ _⟩
  | succ k =>
    rw[<- hcap]
    have h0:=hc 0 (Nat.mul_pos (by omega) hz)
    have ea:a.add 0=a:=by simp[Addr.add]
    rw[ea] at h0
    unfold World.cell? at h0
    cases hb:W.heap[a.block]? with
    | none=>rw[hb] at h0;cases h0
    | some o =>
      rw[hb] at h0
      cases o with
      | cells c e f =>
        simp only at h0
        have hs:a.spot=none:=by
         cases hsp:a.spot with
         | none=>rfl
         | some s=>rw[hsp] at h0;cases h0
        obtain ⟨blk,off,spot⟩:=a
        simp only at hs hb
        subst hs
        have hcell : ∀ i,i<cap*z->c[off+i]? = some (F i):=fun i hi=>by
         have:=hc i hi
         rw[addr_add] at this
         simpa [World.cell?,hb] using this
        have hle:len*z<=cap*z:=Nat.mul_le_mul_right z hlc
        refine⟨len,fun i=>if i=0 then some (.cel blk off 0 0) else none, ?_, ?_⟩
        ·refine⟨fun i l hl=>?_,fun i l b hl hd hb' => ?_,fun i hl=>?_,fun i j r b hl hb' hw=>?_⟩
         ·split at hl
          ·rename_i h;subst h;simp
          ·cases hl
         ·split at hl
          ·rename_i h;subst h;cases hl
           simp at hb'; subst hb'
           refine⟨c,e,f,hb,fun i x hx=>?_, .inl rfl,fun h=>by cases h⟩
           have hlt:i<len*z:=by have:=(List.getElem?_eq_some_iff.1 hx).1;simpa using this
           rw[List.getElem?_map,List.getElem?_range hlt] at hx
           cases hx
           exact⟨_,hcell i (by omega),VRel.plain _ 6 _ (hF i)⟩
          ·cases hl
         ·split at hl <;> cases hl
         ·cases i with
          | zero=>simp at hb'; subst hb'; cases hw
          | succ i=>simp at hb'
        ·have:=VRel.slice (m:=fun i=>if i=0 then some (.cel blk off 0 0) else none) 0 0 blk off 0 0 len len cap rfl hlc (.inl rfl)
         simpa using this
      | _=>cases h0

end Go.Af
namespace Go.Proofs.YtgdbclgcbbbenaaGreat
open Go Go.Af Go.ChangeShapes Go.WideShapes Go.ChangeAt Go.RowKit Go.Joins
open Go.Af.Tryz.Co (Tk stC stsC yE schV tkV bls)

theorem Tryz.own:ownKnob Tryz.prog.godebug=none:=by kernel_rfl
theorem Tryz.laidOut:laidOutB Tryz.prog=true:=by kernel_rfl
theorem Tryz.cells3:Tryz.prog.cellsOf 3=1:=by kernel_rfl
theorem Tryz.cells4:Tryz.prog.cellsOf 4=1:=by kernel_rfl
theorem Tryz.cells22:Tryz.prog.cellsOf 22=1:=by kernel_rfl
theorem Tryz.cells27:Tryz.prog.cellsOf 27=1:=by kernel_rfl
theorem Tryz.cells29:Tryz.prog.cellsOf 29=2:=by kernel_rfl
theorem Tryz.cells31:Tryz.prog.cellsOf 31=6:=by kernel_rfl
theorem Tryz.cells32:Tryz.prog.cellsOf 32=1:=by kernel_rfl
theorem Tryz.cells34:Tryz.prog.cellsOf 34=8:=by kernel_rfl
theorem Tryz.cells126:Tryz.prog.cellsOf 126=6:=by kernel_rfl
theorem array8 {α : Type} {cs:Array α} (h:cs.size=8) : ∃ c0 c1 c2 c3 c4 c5 c6 c7,cs = #[c0,c1,c2,c3,c4,c5,c6,c7]:=by
 obtain ⟨l⟩:=cs
 match l,h with
 | [c0,c1,c2,c3,c4,c5,c6,c7],_=>exact⟨c0,c1,c2,c3,c4,c5,c6,c7,rfl⟩
theorem list2 {α : Type} {cs:List α} (h:cs.length=2) : ∃ c0 c1,cs = [c0,c1]:=by
 match cs,h with
 | [c0,c1],_=>exact⟨c0,c1,rfl⟩
theorem list3 {α : Type} {cs:List α} (h:cs.length=3) : ∃ c0 c1 c2,cs = [c0,c1,c2]:=by
 match cs,h with
 | [c0,c1,c2],_=>exact⟨c0,c1,c2,rfl⟩
theorem list5 {α : Type} {cs:List α} (h:cs.length=5) : ∃ c0 c1 c2 c3 c4,cs = [c0,c1,c2,c3,c4]:=by
 match cs,h with
 | [c0,c1,c2,c3,c4],_=>exact⟨c0,c1,c2,c3,c4,rfl⟩
theorem list6 {α : Type} {cs:List α} (h:cs.length=6) : ∃ c0 c1 c2 c3 c4 c5,cs = [c0,c1,c2,c3,c4,c5]:=by
 match cs,h with
 | [c0,c1,c2,c3,c4,c5],_=>exact⟨c0,c1,c2,c3,c4,c5,rfl⟩
theorem addr_more {a:Addr} {i k:Nat}:(a.add i).add k=a.add (i+k):=by
 by_cases h:i=0
 ·subst h;simp[Addr.add]
 ·by_cases hk:k=0
  ·subst hk;simp[Addr.add,h]
  ·simp[Addr.add,h,hk,Nat.add_assoc]

def stepCell (S:Nat->Coll.St) (j:Nat):Value :=
 match j % 6 with
 | 0=>.int .i64 (S (j / 6)).rd
 | 1=>.int .i64 (S (j / 6)).fr
 | 2=>.int .i64 (S (j / 6)).to
 | 3=>.int .i64 (S (j / 6)).sr
 | 4=>.int .i64 (S (j / 6)).ds
 | _=>.int .i64 (S (j / 6)).jn
theorem stepCell_plain (S:Nat->Coll.St) (j:Nat):wo 6 (stepCell S j)=true:=by
 unfold stepCell
 split <;> rfl
theorem zt (S:Nat->Coll.St) (i q:Nat) (hq:q<6):some (stepCell S (i*6+q))=(stC (S i))[q]? := by
 have h1:(i*6+q) % 6=q:=by omega
 have h2:(i*6+q) / 6=i:=by omega
 unfold stepCell
 rw[h1,h2]
 match q,hq with
 | 0,_=>rfl
 | 1,_=>rfl
 | 2,_=>rfl
 | 3,_=>rfl
 | 4,_=>rfl
 | 5,_=>rfl
theorem steps_range (S:Nat->Coll.St) : ∀ k:Nat,(List.range (k*6)).map (stepCell S)=stsC ((List.range k).map S)
 | 0=>rfl
 | k+1=>by
   have h0:stepCell S (k*6) = .int .i64 (S k).rd:=by have:=zt S k 0 (by decide);simpa using this
   have h1:stepCell S (k*6+1) = .int .i64 (S k).fr:=by have:=zt S k 1 (by decide);simpa using this
   have h2:stepCell S (k*6+2) = .int .i64 (S k).to:=by have:=zt S k 2 (by decide);simpa using this
   have h3:stepCell S (k*6+3) = .int .i64 (S k).sr:=by have:=zt S k 3 (by decide);simpa using this
   have h4:stepCell S (k*6+4) = .int .i64 (S k).ds:=by have:=zt S k 4 (by decide);simpa using this
   have h5:stepCell S (k*6+5) = .int .i64 (S k).jn:=by have:=zt S k 5 (by decide);simpa using this
   rw[show (k+1)*6=k*6+1+1+1+1+1+1 by omega,List.range_succ,List.range_succ,List.range_succ,List.range_succ,List.range_succ,List.range_succ,List.range_succ]
   simp only[List.map_append,steps_range S k,List.map_cons,List.map_nil,yE,h0,List.append_assoc,List.cons_append,List.nil_append]
   simp only[Nat.add_assoc,Nat.reduceAdd,h1,h2,h3,h4,h5]

theorem arg_steps {H:Type} {enc:TypeId × Value->H} {W:World} {base fuel:Nat} {held:Bool} {c:Value} {y:DataW H × List MemPlace}
 (hf:DataW.trod enc Tryz.prog W base (fun _=>true) held fuel 32 [c]=some y) :
 ∃ S:Nat->Coll.St,(c = .slice none 0 0\/∃ (a:Addr) (len cap:Nat),c = .slice (some a) len cap/\len<=cap/\∀ i,i<cap*6->W.cell? (a.add i)=some (stepCell S i)):=by
 rcases Go.Deep.open_slice Tryz.underlying32 hf with ⟨h,_⟩ | ⟨a',len',cap',m,n,D,Pl,h,_,hl,_,hm,_,hx⟩
 ·exact⟨fun _=>⟨0,0,0,0,0,0⟩, .inl (by simpa using h)⟩
 ·simp only[if_true] at hm
  subst hm
  have key : ∀ i,i<m->∃ s:Coll.St, ∀ q,q<6->W.cell? (a'.add (i*6+q))=(stC s)[q]? := fun i hi=>by
   obtain ⟨cs',h1,h2⟩:=hx i hi
   rw[Tryz.cells126] at h1
   obtain ⟨_,hlen,hcell⟩:=World.cells?_some h1
   obtain ⟨e0,e1,e2,e3,e4,e5,rfl⟩:=list6 hlen
   obtain ⟨xs,k,_,_,_,hxl,hg⟩:=DataW.trod_struct Tryz.underlying126 h2
   obtain ⟨y0,y1,y2,y3,y4,y5,rfl⟩:=list6 hxl
   have g0:DataW.trod enc Tryz.prog W base (fun _=>true) held k 3 [e0]=some y0:=by have h:=hg 0 _ rfl;simpa [Tryz.cells3] using h
   have g1:DataW.trod enc Tryz.prog W base (fun _=>true) held k 3 [e1]=some y1:=by have h:=hg 1 _ rfl;simpa [Tryz.cells3] using h
   have g2:DataW.trod enc Tryz.prog W base (fun _=>true) held k 3 [e2]=some y2:=by have h:=hg 2 _ rfl;simpa [Tryz.cells3] using h
   have g3:DataW.trod enc Tryz.prog W base (fun _=>true) held k 3 [e3]=some y3:=by have h:=hg 3 _ rfl;simpa [Tryz.cells3] using h
   have g4:DataW.trod enc Tryz.prog W base (fun _=>true) held k 3 [e4]=some y4:=by have h:=hg 4 _ rfl;simpa [Tryz.cells3] using h
   have g5:DataW.trod enc Tryz.prog W base (fun _=>true) held k 3 [e5]=some y5:=by have h:=hg 5 _ rfl;simpa [Tryz.cells3] using h
   obtain ⟨n0,q0,_,_⟩:=DataW.trod_int Tryz.underlying3 g0
   obtain ⟨n1,q1,_,_⟩:=DataW.trod_int Tryz.underlying3 g1
   obtain ⟨n2,q2,_,_⟩:=DataW.trod_int Tryz.underlying3 g2
   obtain ⟨n3,q3,_,_⟩:=DataW.trod_int Tryz.underlying3 g3
   obtain ⟨n4,q4,_,_⟩:=DataW.trod_int Tryz.underlying3 g4
   obtain ⟨n5,q5,_,_⟩:=DataW.trod_int Tryz.underlying3 g5
   simp only[List.cons.injEq,and_true] at q0 q1 q2 q3 q4 q5
   subst q0;subst q1;subst q2;subst q3;subst q4;subst q5
   refine⟨⟨n0,n1,n2,n3,n4,n5⟩,fun q hq=>?_⟩
   have hc:=hcell q hq
   rw[addr_more] at hc
   exact hc
  have hex : ∃ S:Nat->Coll.St, ∀ i,i<m->∀ q,q<6->W.cell? (a'.add (i*6+q))=(stC (S i))[q]? := by
   refine Classical.axiomOfChoice (r:=fun i (s:Coll.St)=>i<m->∀ q,q<6->W.cell? (a'.add (i*6+q))=(stC s)[q]?) (fun i=>?_)
   by_cases hi:i<m
   ·obtain ⟨s,hs⟩:=key i hi
    exact⟨s,fun _=>hs⟩
   ·exact⟨⟨0,0,0,0,0,0⟩,fun h=>absurd h hi⟩
  obtain ⟨S,hS⟩:=hex
  refine⟨S, .inr ⟨a',len',m,by simpa using h,hl,fun i hi=>?_⟩⟩
  have:=hS (i / 6) (by omega) (i % 6) (by omega)
  rw[<- zt S (i / 6) (i % 6) (by omega),show i / 6*6+i % 6=i by omega] at this
  exact this
end Go.Proofs.YtgdbclgcbbbenaaGreat
namespace Go.Af
open Go
def manyM (ms:List LM):LM:=fun i=>match ms[i]? with
 | some m=>m 0
 | none=>none
def zk (W:World):List LM->List Blk->Prop
 | [],[]=>True
 | m::ms,b::bs=>(∃ z vs,b = .cells false z vs/\vs.all (wo 6)=true)/\HRel m [b] W/\zk W ms bs
 | _,_=>False
theorem zk.pos {W:World} : ∀ {ms:List LM} {bs:List Blk},zk W ms bs->ms.length=bs.length/\∀ (i:Nat) (m:LM),ms[i]? = some m->∃ b z vs,bs[i]? = some b/\b = .cells false z vs/\vs.all (wo 6)=true/\HRel m [b] W
 | [],[],_=>⟨rfl,fun i m h=>by simp at h⟩
 | m::ms,b::bs,⟨⟨z,vs,h1,h2⟩,h3,h4⟩=>by
   obtain ⟨e,h5⟩:=zk.pos h4
   refine⟨by simp[e],fun i m' h=>?_⟩
   cases i with
   | zero=>simp at h;subst h;exact⟨b,z,vs,rfl,h1,h2,h3⟩
   | succ i=>exact h5 i m' (by simpa using h)
 | [],_::_,h=>h.elim
 | _::_,[],h=>h.elim
theorem zk.cons {W:World} {m:LM} {b:Blk} {ms:List LM} {bs:List Blk} (h:zk W [m] [b]) (h' : zk W ms bs):zk W (m::ms) (b::bs):=⟨h.1,h.2.1,h'⟩
theorem hrel_many {W:World} {ms:List LM} {bs:List Blk} (h:zk W ms bs):HRel (manyM ms) bs W:=by
 obtain ⟨hlen,hat⟩:=h.pos
 have cs : ∀ {i:Nat} {l:Loc},manyM ms i=some l->∃ m,ms[i]? = some m/\m 0=some l:=fun {i l} hl=>by
  unfold manyM at hl
  split at hl
  ·rename_i m hm;exact⟨m,hm,hl⟩
  ·cases hl
 refine⟨fun i l hl=>?_,fun i l b hl hd hb=>?_,fun i hl=>?_,fun i j r b hl hb hw=>?_⟩
 ·obtain ⟨m,hm,_⟩:=cs hl
  obtain ⟨b,z,vs,h1,_⟩:=hat i m hm
  exact (List.getElem?_eq_some_iff.1 h1).1
 ·obtain ⟨m,hm,h0⟩:=cs hl
  obtain ⟨b',z,vs,h1,h2,h3,h4⟩:=hat i m hm
  rw[hb] at h1
  cases h1
  subst h2
  exact brel_plain h3 (h4.blk 0 l _ h0 hd rfl)
 ·obtain ⟨m,hm,h0⟩:=cs hl
  obtain ⟨b',z,vs,h1,h2,h3,h4⟩:=hat i m hm
  have:=h4.dd 0 h0
  subst h2
  simp at this
 ·exfalso
  have hi:i<ms.length:=by rw[hlen];exact (List.getElem?_eq_some_iff.1 hb).1
  obtain ⟨b',z,vs,h1,h2,h3,h4⟩:=hat i _ (List.getElem?_eq_getElem hi)
  rw[hb] at h1
  cases h1
  subst h2
  cases hw
end Go.Af
namespace Go.Proofs.YtgdbclgcbbbenaaGreat
open Go Go.Af Go.ChangeShapes Go.WideShapes Go.ChangeAt Go.RowKit Go.Joins
open Go.Af.Tryz (Mc mcV)
open Go.Af.Tryz.Co (Tk stC stsC yE schV tkV bls)
theorem sts_plain : ∀ l:List Coll.St,(stsC l).all (wo 6)=true
 | []=>rfl
 | x::l=>by
   rw[stsC,List.all_append,sts_plain l]
   rfl
theorem bls_plain (l:List Bool):(bls l).all (wo 6)=true:=by
 unfold bls
 rw[List.all_map,List.all_eq_true]
 exact fun x _=>rfl
theorem vlen {m:LM} {b n c:Nat} {v:Value} (h:VRel m (.slice (some ⟨b,0,none⟩) n c) v) (hb:v = .slice none 0 0\/∃ (a:Addr) (len cap:Nat),v = .slice (some a) len cap/\len<=cap/\cap<=maxLen):n<=9223372036854775807:=by
 have e:maxLen=9223372036854775807:=by decide
 rw[e] at hb
 rcases hb with rfl | ⟨a,len,cap,rfl,h1,h2⟩
 ·cases h <;> omega
 ·cases h <;> omega
set_option maxRecDepth 100000
section
variable {H:Type} {enc:TypeId × Value->H} {W:World} {held:Bool} {base fuel:Nat}
theorem row_ints {c:Value} {y:DataW H × List MemPlace} (hf:DataW.trod enc Tryz.prog W base (fun _=>true) held fuel 22 [c]=some y) :
 ∃ (xs:List Int) (m1:LM),zk W [m1] [ro xs]/\xs.length<=9223372036854775807/\∀ (M:LM) (b:Nat),M b=m1 0->VRel M (sv b xs.length) c:=by
 have hs:=open_ints Tryz.underlying22 Tryz.underlying3 Tryz.cells3 hf
 have hsl:c = .slice none 0 0\/∃ (a:Addr) (len cap:Nat) (zs:List Int),c = .slice (some a) len cap/\len<=cap/\zs.length=cap/\∀ i,i<zs.length->W.cell? (a.add i)=some (.int .i64 (zs.getD i 0)):=by
  rcases hs with ⟨e1,_⟩ | ⟨a,len,cap,zs,e1,_,h3,_,h5,_,h7,_⟩
  ·exact .inl (by simpa using e1)
  ·exact .inr ⟨a,len,cap,zs,by simpa using e1,h3,by simpa using h5,h7⟩
 have hz1:c = .slice none 0 0\/∃ (a:Addr) (len cap:Nat),c = .slice (some a) len cap/\len<=cap/\cap<=maxLen:=by
  rcases hs with ⟨e1,_⟩ | ⟨a,len,cap,zs,e1,_,h3,h4,_⟩
  ·exact .inl (by simpa using e1)
  ·exact .inr ⟨a,len,cap,by simpa using e1,h3,h4⟩
 obtain ⟨xs,m1,hm1,hv1⟩:=ints_arg hsl
 exact⟨xs,m1,⟨⟨1,_,rfl,ints_plain xs⟩,hm1,trivial⟩,vlen hv1 hz1,fun M b e=>vrel_at e hv1⟩
theorem row_bools {c:Value} {y:DataW H × List MemPlace} (hf:DataW.trod enc Tryz.prog W base (fun _=>true) held fuel 27 [c]=some y) :
 ∃ (xs:List Bool) (m1:LM),zk W [m1] [.cells false 1 (bls xs)]/\xs.length<=9223372036854775807/\∀ (M:LM) (b:Nat),M b=m1 0->VRel M (sv b xs.length) c:=by
 have hz2:c = .slice none 0 0\/∃ (a:Addr) (len cap:Nat),c = .slice (some a) len cap/\len<=cap/\cap<=maxLen:=by
  rcases Go.Deep.open_bools Tryz.underlying27 Tryz.underlying4 Tryz.cells4 hf with ⟨h,_⟩ | ⟨a',len',cap',B,h,_,hl,h4,_⟩
  ·exact .inl (by simpa using h)
  ·exact .inr ⟨a',len',cap',by simpa using h,hl,h4⟩
 have hbl : ∃ B:Nat->Bool,c = .slice none 0 0\/∃ (a:Addr) (len cap:Nat),c = .slice (some a) len cap/\len<=cap/\∀ i,i<cap*1->W.cell? (a.add i)=some (.bool (B i)):=by
  rcases Go.Deep.open_bools Tryz.underlying27 Tryz.underlying4 Tryz.cells4 hf with ⟨h,_⟩ | ⟨a',len',cap',B,h,_,hl,_,_,hB⟩
  ·exact⟨fun _=>false, .inl (by simpa using h)⟩
  ·exact⟨B, .inr ⟨a',len',cap',by simpa using h,hl,by simpa using hB⟩⟩
 obtain ⟨B,hB⟩:=hbl
 obtain ⟨q2,m2,hm2,hv2⟩:=cellsz_arg (F:=fun i=>Value.bool (B i)) 1 (by decide) (fun _=>rfl) hB
 have eb:(List.range (q2*1)).map (fun i=>Value.bool (B i))=bls ((List.range q2).map B):=by simp[bls]
 rw[eb] at hm2
 have hk2:q2=((List.range q2).map B).length:=by simp
 rw[hk2] at hv2
 exact⟨(List.range q2).map B,m2,⟨⟨1,_,rfl,bls_plain _⟩,hm2,trivial⟩,vlen hv2 hz2,fun M b e=>vrel_at e hv2⟩
theorem row_steps {c:Value} {y:DataW H × List MemPlace} (hf:DataW.trod enc Tryz.prog W base (fun _=>true) held fuel 32 [c]=some y) :
 ∃ (l:List Coll.St) (m1:LM),zk W [m1] [.cells false 6 (stsC l)]/\l.length<=9223372036854775807/\∀ (M:LM) (b:Nat),M b=m1 0->VRel M (sv b l.length) c:=by
 have hz3:c = .slice none 0 0\/∃ (a:Addr) (len cap:Nat),c = .slice (some a) len cap/\len<=cap/\cap<=maxLen:=by
  rcases Go.Deep.open_slice Tryz.underlying32 hf with ⟨h,_⟩ | ⟨a',len',cap',m,n,D,Pl,h,_,hl,h4,_⟩
  ·exact .inl (by simpa using h)
  ·exact .inr ⟨a',len',cap',by simpa using h,hl,h4⟩
 obtain ⟨S,hS⟩:=arg_steps hf
 obtain ⟨q3,m3,hm3,hv3⟩:=cellsz_arg (F:=stepCell S) 6 (by decide) (stepCell_plain S) hS
 rw[steps_range] at hm3
 have hk3:q3=((List.range q3).map S).length:=by simp
 rw[hk3] at hv3
 exact⟨(List.range q3).map S,m3,⟨⟨6,_,rfl,sts_plain _⟩,hm3,trivial⟩,vlen hv3 hz3,fun M b e=>vrel_at e hv3⟩
theorem Tryz.cells24:Tryz.prog.cellsOf 24=3:=by kernel_rfl
theorem Tryz.cells26:Tryz.prog.cellsOf 26=8:=by kernel_rfl
theorem arg_mc {r:Reach} {b0:Nat} {v:Value} {d:DataW H} {ps:List MemPlace}
 (hval:Value.okWide Tryz.prog W r b0 26 v) (hd:DataW.Trod enc Tryz.prog W base (fun _=>true) held 26 v d ps) :
 ∃ (m:Mc) (m1 m2:LM),zk W [m1] [ro m.sd]/\zk W [m2] [ro m.hs]/\(m.sd.length<=9223372036854775807/\m.hs.length<=9223372036854775807)/\(I64 m.kd/\I64 m.ho/\I64 m.st/\I64 m.hp/\I64 m.wd/\I64 m.jn)/\∀ (M:LM) (b c:Nat),M b=m1 0->M c=m2 0->VRel M (mcV m b c) v:=by
 obtain ⟨cs,rfl,hsz⟩:=okWide_struct Tryz.underlying26 hval
 obtain ⟨c0,c1,c2,c3,c4,c5,c6,c7,rfl⟩:=array8 (hsz.trans Tryz.cells26)
 obtain ⟨fuel,hf⟩:=hd
 obtain ⟨ys,n,_,hx,hl,hlen,hF⟩:=DataW.trod_struct Tryz.underlying26 hf
 obtain ⟨y0,y1,y2,y3,y4,y5,rfl⟩:=list6 hlen
 have h0:DataW.trod enc Tryz.prog W base (fun _=>true) held n 24 [c0,c1,c2]=some y0:=by have h:=hF 0 _ rfl;simpa [Value.cells,Tryz.cells24] using h
 have h1:DataW.trod enc Tryz.prog W base (fun _=>true) held n 22 [c3]=some y1:=by have h:=hF 1 _ rfl;simpa [Value.cells,Tryz.cells22] using h
 have h2:DataW.trod enc Tryz.prog W base (fun _=>true) held n 3 [c4]=some y2:=by have h:=hF 2 _ rfl;simpa [Value.cells,Tryz.cells3] using h
 have h3:DataW.trod enc Tryz.prog W base (fun _=>true) held n 3 [c5]=some y3:=by have h:=hF 3 _ rfl;simpa [Value.cells,Tryz.cells3] using h
 have h4:DataW.trod enc Tryz.prog W base (fun _=>true) held n 3 [c6]=some y4:=by have h:=hF 4 _ rfl;simpa [Value.cells,Tryz.cells3] using h
 have h5:DataW.trod enc Tryz.prog W base (fun _=>true) held n 3 [c7]=some y5:=by have h:=hF 5 _ rfl;simpa [Value.cells,Tryz.cells3] using h
 obtain ⟨st,e4,_,w4⟩:=DataW.trod_int Tryz.underlying3 h2
 obtain ⟨hp,e5,_,w5⟩:=DataW.trod_int Tryz.underlying3 h3
 obtain ⟨wd,e6,_,w6⟩:=DataW.trod_int Tryz.underlying3 h4
 obtain ⟨jn,e7,_,w7⟩:=DataW.trod_int Tryz.underlying3 h5
 obtain ⟨zs,n2,_,_,_,hlen2,hG⟩:=DataW.trod_struct Tryz.underlying24 h0
 obtain ⟨z0,z1,z2,rfl⟩:=list3 hlen2
 have g0:DataW.trod enc Tryz.prog W base (fun _=>true) held n2 3 [c0]=some z0:=by have h:=hG 0 _ rfl;simpa [Tryz.cells3] using h
 have g1:DataW.trod enc Tryz.prog W base (fun _=>true) held n2 22 [c1]=some z1:=by have h:=hG 1 _ rfl;simpa [Tryz.cells22] using h
 have g2:DataW.trod enc Tryz.prog W base (fun _=>true) held n2 3 [c2]=some z2:=by have h:=hG 2 _ rfl;simpa [Tryz.cells3] using h
 obtain ⟨kd,e0,_,w0⟩:=DataW.trod_int Tryz.underlying3 g0
 obtain ⟨ho,e2,_,w2⟩:=DataW.trod_int Tryz.underlying3 g2
 obtain ⟨sd,m1,r1,z1,v1⟩:=row_ints g1
 obtain ⟨hs,m2,r2,z2,v2⟩:=row_ints h1
 simp only[List.cons.injEq,and_true] at e0 e2 e4 e5 e6 e7
 subst e0;subst e2;subst e4;subst e5;subst e6;subst e7
 refine⟨⟨kd,sd,ho,hs,st,hp,wd,jn⟩,m1,m2,r1,r2,⟨z1,z2⟩,⟨i64_wf w0,i64_wf w2,i64_wf w4,i64_wf w5,i64_wf w6,i64_wf w7⟩,fun M b c h1 h2=>?_⟩
 exact .agg' (.cons (.int _ _) (.cons (v1 M b h1) (.cons (.int _ _) (.cons (v2 M c h2) (.cons (.int _ _) (.cons (.int _ _) (.cons (.int _ _) (.cons (.int _ _) (.nil _)))))))))
theorem trod_tk {c0 c1 c2 c3 c4 c5:Value} {y:DataW H × List MemPlace} (hf:DataW.trod enc Tryz.prog W base (fun _=>true) held fuel 31 [c0,c1,c2,c3,c4,c5]=some y) :
 ∃ (t:Tk) (m1 m2:LM),(c0 = .int .i64 t.op/\c1 = .int .i64 t.pr/\c2 = .int .i64 t.ro/\c3 = .int .i64 t.pa)/\zk W [m1] [ro t.sz]/\zk W [m2] [.cells false 1 (bls t.ws)]/\(t.sz.length<=9223372036854775807/\t.ws.length<=9223372036854775807)/\(I64 t.op/\I64 t.pr/\I64 t.ro/\I64 t.pa)/\∀ (M:LM) (b c:Nat),M b=m1 0->M c=m2 0->VRel M (sv b t.sz.length) c4/\VRel M (sv c t.ws.length) c5:=by
 obtain ⟨zs,n2,_,_,_,hlen2,hG⟩:=DataW.trod_struct Tryz.underlying31 hf
 obtain ⟨z0,z1,z2,z3,z4,rfl⟩:=list5 hlen2
 have g0:DataW.trod enc Tryz.prog W base (fun _=>true) held n2 3 [c0]=some z0:=by have h:=hG 0 _ rfl;simpa [Tryz.cells3] using h
 have g1:DataW.trod enc Tryz.prog W base (fun _=>true) held n2 3 [c1]=some z1:=by have h:=hG 1 _ rfl;simpa [Tryz.cells3] using h
 have g2:DataW.trod enc Tryz.prog W base (fun _=>true) held n2 3 [c2]=some z2:=by have h:=hG 2 _ rfl;simpa [Tryz.cells3] using h
 have g3:DataW.trod enc Tryz.prog W base (fun _=>true) held n2 3 [c3]=some z3:=by have h:=hG 3 _ rfl;simpa [Tryz.cells3] using h
 have g4:DataW.trod enc Tryz.prog W base (fun _=>true) held n2 29 [c4,c5]=some z4:=by have h:=hG 4 _ rfl;simpa [Tryz.cells29] using h
 obtain ⟨op,e0,_,w0⟩:=DataW.trod_int Tryz.underlying3 g0
 obtain ⟨pr,e1,_,w1⟩:=DataW.trod_int Tryz.underlying3 g1
 obtain ⟨ro2,e2,_,w2⟩:=DataW.trod_int Tryz.underlying3 g2
 obtain ⟨pa,e3,_,w3⟩:=DataW.trod_int Tryz.underlying3 g3
 obtain ⟨us,n3,_,_,_,hlen3,hK⟩:=DataW.trod_struct Tryz.underlying29 g4
 obtain ⟨u0,u1,rfl⟩:=list2 hlen3
 have k0:DataW.trod enc Tryz.prog W base (fun _=>true) held n3 22 [c4]=some u0:=by have h:=hK 0 _ rfl;simpa [Tryz.cells22] using h
 have k1:DataW.trod enc Tryz.prog W base (fun _=>true) held n3 27 [c5]=some u1:=by have h:=hK 1 _ rfl;simpa [Tryz.cells27] using h
 obtain ⟨sz,m1,r1,z1,v1⟩:=row_ints k0
 obtain ⟨ws,m2,r2,z2,v2⟩:=row_bools k1
 simp only[List.cons.injEq,and_true] at e0 e1 e2 e3
 exact⟨⟨op,pr,ro2,pa,sz,ws⟩,m1,m2,⟨e0,e1,e2,e3⟩,r1,r2,⟨z1,z2⟩,⟨i64_wf w0,i64_wf w1,i64_wf w2,i64_wf w3⟩,fun M b c h1 h2=>⟨v1 M b h1,v2 M c h2⟩⟩
theorem arg_sch {r:Reach} {b0:Nat} {v:Value} {d:DataW H} {ps:List MemPlace}
 (hval:Value.okWide Tryz.prog W r b0 34 v) (hd:DataW.Trod enc Tryz.prog W base (fun _=>true) held 34 v d ps) :
 ∃ (t:Tk) (alg:Int) (l:List Coll.St) (m1 m2 m3:LM),zk W [m1] [ro t.sz]/\zk W [m2] [.cells false 1 (bls t.ws)]/\zk W [m3] [.cells false 6 (stsC l)]/\(t.sz.length<=9223372036854775807/\t.ws.length<=9223372036854775807/\l.length<=9223372036854775807)/\(I64 t.op/\I64 t.pr/\I64 t.ro/\I64 t.pa)/\∀ (M:LM) (b c d:Nat),M b=m1 0->M c=m2 0->M d=m3 0->VRel M (schV t alg b c d l.length) v:=by
 obtain ⟨cs,rfl,hsz⟩:=okWide_struct Tryz.underlying34 hval
 obtain ⟨c0,c1,c2,c3,c4,c5,c6,c7,rfl⟩:=array8 (hsz.trans Tryz.cells34)
 obtain ⟨fuel,hf⟩:=hd
 obtain ⟨ys,n,_,hx,hl,hlen,hF⟩:=DataW.trod_struct Tryz.underlying34 hf
 obtain ⟨y0,y1,y2,rfl⟩:=list3 hlen
 have h0:DataW.trod enc Tryz.prog W base (fun _=>true) held n 31 [c0,c1,c2,c3,c4,c5]=some y0:=by have h:=hF 0 _ rfl;simpa [Value.cells,Tryz.cells31] using h
 have h1:DataW.trod enc Tryz.prog W base (fun _=>true) held n 3 [c6]=some y1:=by have h:=hF 1 _ rfl;simpa [Value.cells,Tryz.cells3] using h
 have h2:DataW.trod enc Tryz.prog W base (fun _=>true) held n 32 [c7]=some y2:=by have h:=hF 2 _ rfl;simpa [Value.cells,Tryz.cells32] using h
 obtain ⟨alg,e6,_,_⟩:=DataW.trod_int Tryz.underlying3 h1
 obtain ⟨t,m1,m2,⟨rfl,rfl,rfl,rfl⟩,r1,r2,z,w,hv⟩:=trod_tk h0
 obtain ⟨l,m3,r3,z3,v3⟩:=row_steps h2
 simp only[List.cons.injEq,and_true] at e6
 subst e6
 exact⟨t,alg,l,m1,m2,m3,r1,r2,r3,⟨z.1,z.2,z3⟩,w,fun M b c d h1 h2 h3=>.agg' (.cons (.int _ _) (.cons (.int _ _) (.cons (.int _ _) (.cons (.int _ _) (.cons (hv M b c h1 h2).1 (.cons (hv M b c h1 h2).2 (.cons (.int _ _) (.cons (v3 M d h3) (.nil _)))))))))⟩
end
end Go.Proofs.YtgdbclgcbbbenaaGreat
namespace Go.Proofs.YtgdbclgcbbbenaaGreat
open Go Go.Af Go.ChangeShapes Go.WideShapes Go.ChangeAt Go.RowKit Go.Joins

set_option maxRecDepth 100000 in
theorem planMeasures_lifted (os:Os) (started:os.Started) (H:Type) (enc:TypeId × Value->H) :
 ReturnsInHanded {} Tryz.checked os 3 .any (Rows.planMeasuresSpec.pre6 enc Tryz.prog Tryz.f3 Rows.planMeasuresRow.domain false) (Rows.planMeasuresSpec.post enc Tryz.prog Tryz.f3 false true false false):=by
 refine returnsInHanded_of_change (C:=Tryz.checked) Tryz.own started (by kernel_rfl) Tryz.func3
  (ChangeSpec.witness6 (enc:=enc) (C:=Tryz.checked) false ⟨#[], #[.agg #[.int .i64 0, .slice none 0 0, .int .i64 0, .slice none 0 0, .int .i64 0, .int .i64 0, .int .i64 0, .int .i64 0], .agg #[.int .i64 0, .int .i64 0, .int .i64 0, .int .i64 0, .slice none 0 0, .slice none 0 0, .int .i64 0, .slice none 0 0]],[]⟩ 8 (by kernel_rfl) (by kernel_rfl) (by kernel_rfl) (by kernel_rfl)) ?_
 intro W base args ds gs before hval0 hW hcnd _
 have hval : ∀ (j:Nat) t v,Tryz.f3.params[j]? = some t->args[j]? = some v->Value.okWide Tryz.prog W .any base t v:=hval0
 have hW' := hW
 obtain ⟨p,q,hA0,hV,rfl,hfz,hnd⟩:=hW
 have hA:DataW.TrodAll enc Tryz.prog W 0 (fun _=>true) true Tryz.f3.params.toList args.toList ds p:=hA0
 rw[Tryz.params3] at hA hval
 obtain ⟨v0,v1,d0,d1,p0,p1,rfl,rfl,rfl,h0,h1⟩:=trodAll_two hA
 obtain ⟨rfl,rfl⟩:=trodVars_none hV
 have h0k:=h0
 have h1k:=h1
 obtain ⟨m,m1,m2,r1,r2,z0,_,hv⟩:=arg_mc (hval 0 26 v0 rfl rfl) h0
 obtain ⟨t,alg,l,m3,m4,m5,r3,r4,r5,z1,_,hv'⟩:=arg_sch (hval 1 34 v1 rfl rfl) h1
 have hr:=hrel_many (zk.cons r1 (zk.cons r2 (zk.cons r3 (zk.cons r4 r5))))
 have hlt : ∀ x∈p0++p1,x.block<W.heap.size:=fun x hx=>hW'.lt x (by simpa using hx)
 refine (Go.Af.Tryz.k3 m t alg l z0.2 z1.1 z1.2.1 z1.2.2 (μ := manyM [m1,m2,m3,m4,m5]) (.cons (hv _ 0 1 rfl rfl) (.cons (hv' _ 2 3 4 rfl rfl rfl) (.nil _))) hr).mono fun e W' ⟨vR,he,v,H',m',hv1,hv2,_,hf⟩=>?_
 subst he;subst hv1
 cases hv2
 have hb:Below W.heap.size W W' := below_of rfl hf
 exact⟨_,rfl,post_below (pa:=p0++p1) (pv := []) hW' (fun _ _ _=>trodAll_mk1 (shut_bool Tryz.underlying4 true))
  (fun sp hsp=>trodAll_mk2 (below_trod Tryz.laidOut (by kernel_rfl) (of_decide_eq_true (by kernel_rfl)) h0k hb (fun x hx=>hlt x (by simp[hx])) (fun x hx=>hsp x (by simp[hx])))
    (below_trod Tryz.laidOut (by kernel_rfl) (of_decide_eq_true (by kernel_rfl)) h1k hb (fun x hx=>hlt x (by simp[hx])) (fun x hx=>hsp x (by simp[hx]))))
  (fun _ _=>rfl) (by simp) hb (ok_one (by kernel_rfl) rfl (okWide_bool_mk Tryz.underlying4 true))⟩

set_option maxRecDepth 100000 in
theorem jInPlace:(Rows.planMeasuresRow.inPlace == Tryz.prog.inPlace 3)=true:=by kernel_rfl
set_option maxRecDepth 100000 in
theorem jUnf:(Rows.planMeasuresRow.unfollowed == Tryz.prog.unfollowed 3)=true:=by kernel_rfl
set_option maxRecDepth 100000 in
theorem jRec:(Rows.planMeasuresRow.recurses == Tryz.prog.recurses 3)=true:=by kernel_rfl
set_option maxRecDepth 100000 in
theorem jNam:(Rows.planMeasuresRow.named == Tryz.prog.varsNamed 3)=true:=by kernel_rfl
set_option maxRecDepth 100000 in
theorem jWf:Rows.planMeasuresRow.wf (OpenSpec.ofChange Rows.planMeasuresSpec)=true:=by kernel_rfl
set_option maxRecDepth 100000 in
theorem jLaid:laidOutB Tryz.prog=true:=by kernel_rfl
set_option maxRecDepth 100000 in
theorem jMaps:mapsRowed Tryz.prog=true:=by kernel_rfl
set_option maxRecDepth 100000 in
theorem joined:joinedFacts Tryz.prog 3 Tryz.f3 Rows.planMeasuresSpec Rows.planMeasuresRow=true:=by
 unfold joinedFacts
 rw[jInPlace,jUnf,jRec,jNam,jWf,jLaid,jMaps]
 kernel_rfl
set_option maxRecDepth 100000 in
theorem named:Tryz.pinned.checked.prog.funcNamed Rows.planMeasuresRow.func=some 3:=by kernel_rfl
set_option maxRecDepth 100000 in
theorem inst:Tryz.f3.isInstance Tryz.pinned.checked.prog Rows.planMeasuresRow.origin Rows.planMeasuresRow.targs:=of_decide_eq_true (by kernel_rfl)
theorem planMeasures_holds:Rows.PlanMeasuresSaid :=
 OpenClaim.holds_of_wide 3 Tryz.f3 rfl rfl rfl rfl rfl rfl rfl ⟨rfl,rfl,rfl,rfl,rfl⟩ rfl rfl rfl rfl rfl named Tryz.func3 joined
  inst (by unfold Func.isWrapper;first | (rw[if_pos (by decide +kernel)];kernel_rfl) | (rw[if_neg (by decide +kernel)];exact⟨rfl,rfl⟩))
  (fun os started H enc _=>planMeasures_lifted os started H enc)
end Go.Proofs.YtgdbclgcbbbenaaGreat
