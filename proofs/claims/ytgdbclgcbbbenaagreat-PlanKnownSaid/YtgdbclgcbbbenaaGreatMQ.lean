/-
  The law PlanKnown returns true: its given statement, with no condition of its own.
  From arguments that are read as data to the abstract heap, and back. No program is in sight.
  The examples of the chapter on plans hold: the law, computed.
-/
import Derived.Test.YtgdbclgcbbbenaaGreatMWD
import Derived.Test.YtgdbclgcbbbenaaGreatMC
import Derived.ProofKit
import Derived.Lib.SmallJoins
import Derived.Test.YtgdbclgcbbbenaaGreatRows
set_option linter.all false
namespace Go.Af.Tryz.W
open Go Go.Proofs Go.Af.Tryz
set_option maxRecDepth 100000
theorem known_run:plC EE10 11 [] (.bool true)=true:=by kernel_rfl
end Go.Af.Tryz.W
namespace Go.Af
open Go Go.ChangeShapes Go.WideShapes Go.ChangeAt Go.RowKit

section
variable {H:Type} {enc:TypeId × Value->H} {P:Program}
theorem post_below {f:Func} {s:ChangeSpec} {apart fresh handsOn again:Bool} {W W' : World} {args:Array Value} {v:Value} {ds gs:List (DataW H)} {before pa pv:List MemPlace}
 (hW:DataW.Whole enc P f.params.toList s.vars apart W args.toList ds gs before)
 (hres : ∀ (b:Nat) (sp:Nat->Bool) (hd:Bool),DataW.TrodAll enc P W' b sp hd f.resultTypes.toList (v.resultList f.resultTypes.size) (s.fn H (ds++gs)).results [])
 (hargs : ∀ sp:Nat->Bool,(∀ p∈before,sp p.block=true)->DataW.TrodAll enc P W' 0 sp true f.params.toList args.toList (s.fn H (ds++gs)).args pa)
 (hvars : ∀ sp:Nat->Bool,(∀ p∈before,sp p.block=true)->DataW.TrodVars enc P W' sp s.vars (s.fn H (ds++gs)).vars pv)
 (hps:before=pa++pv) (hb:Below W.heap.size W W')
 (hok : ∀ (j:Nat) (t:TypeId) (r:Value),f.resultTypes[j]? = some t->(v.resultList f.resultTypes.size)[j]? = some r->Value.okWide P W' .any 0 t r) :
 s.post enc P f apart fresh handsOn again W args v W' := by
 have hlt : ∀ p∈before,p.block<W.heap.size:=fun p hp=>hW.lt p hp
 have hold : ∀ p∈before,(fun b=>decide (b<W.heap.size)) p.block=true:=fun p hp=>by simpa using hlt p hp
 refine⟨ds,gs,before,[],pa,pv,hW,hres _ _ _,hargs _ hold,hvars _ hold,World.keptBut_mono (fun p hp=>⟨hp, ?_⟩) (hb.frame (· ∈ before)),fun _=>?_⟩
 ·rw[hps,List.mem_append] at hp
  exact Or.inr hp
 ·obtain ⟨_,_,_,_,_,hz,hn⟩:=hW
  refine⟨hok,_,_,([]++pa)++pv,⟨[]++pa,pv,trodAll_append (hargs _ (fun _ _=>rfl)) (hres _ _ _),hvars _ (fun _ _=>rfl),rfl, ?_, ?_⟩, ?_⟩
  ·intro b off hp
   have hin:MemPlace.cell b off∈before:=by rw[hps];simpa using hp
   rw[hb.frozen (hlt _ hin)]
   exact hz b off hin
  ·intro ha
   have:=hn ha
   rw[hps] at this
   simpa using this
  ·intro p hp _
   rw[hps]
   simpa using hp
end

theorem below_of {m m' : LM} {H H' : List Blk} {w w' : World} (hro:allRo H=true) (h:Fr H.length m H w m' H' w'):Below w.heap.size w w' :=
 ⟨h.out.os,h.out.tape,h.out.output,h.size,fun k hk=>(h.keep k hk fun ⟨i,b,_,h2,h3⟩=>by rw[allRo_get hro h2] at h3;cases h3).1⟩

def noLoc:LM:=fun _=>none
theorem hrel_no (H:List Blk) (w:World):HRel noLoc H w:=⟨fun i l h=>(by cases h),fun i l b h=>(by cases h),fun i h=>(by cases h),fun i j r b h=>(by cases h)⟩

end Go.Af
namespace Go.Proofs.YtgdbclgcbbbenaaGreat
open Go Go.Af Go.ChangeShapes Go.WideShapes Go.ChangeAt Go.RowKit Go.Joins

theorem Tryz.own:ownKnob Tryz.prog.godebug=none:=by kernel_rfl

theorem known_calls {argsR:Array Value} {w:World} (ha:LRel noLoc [] argsR.toList):Calls Tryz.prog 11 argsR w fun e w' => ∃ vR,e = .returned vR/\zA noLoc [] w (fun v _=>v = .bool true) vR w' := by
 refine (run_calls (d:=99) Go.Af.Tryz.W.fok Go.Af.Tryz.W.eok10 Go.Af.Tryz.W.mx (by kernel_rfl) Go.Af.Tryz.W.known_run ha (hrel_no [] w)).mono fun e w' ⟨vR,he,v,H',m',h1,h2,h3,h4⟩=>⟨vR,he,v,H',m', ?_,h2,h3,h4⟩
 exact Go.Af.pveq_ok _ _ _ h1

set_option maxRecDepth 100000 in
theorem planKnown_lifted (os:Os) (started:os.Started) (H:Type) (enc:TypeId × Value->H) :
 ReturnsInHanded {} Tryz.checked os 11 .any (Rows.planKnownSpec.pre6 enc Tryz.prog Tryz.f11 Rows.planKnownRow.domain false) (Rows.planKnownSpec.post enc Tryz.prog Tryz.f11 false true false false):=by
 refine returnsInHanded_of_change (C:=Tryz.checked) Tryz.own started (by kernel_rfl) Tryz.func11
  (ChangeSpec.witness6 (enc:=enc) (C:=Tryz.checked) false ⟨#[], #[],[]⟩ 8 (by kernel_rfl) (by kernel_rfl) (by kernel_rfl) (by kernel_rfl)) ?_
 intro W base args ds gs before hval0 hW hcnd _
 have hW' := hW
 obtain ⟨p,q,hA0,hV,rfl,hfz,hnd⟩:=hW
 have hA:DataW.TrodAll enc Tryz.prog W 0 (fun _=>true) true Tryz.f11.params.toList args.toList ds p:=hA0
 rw[Tryz.params11] at hA
 obtain ⟨rfl,rfl,rfl⟩:=trodAll_none hA
 obtain ⟨rfl,rfl⟩:=trodVars_none hV
 refine (known_calls (.nil _)).mono fun e W' ⟨vR,he,v,H',m',hv1,hv2,_,hf⟩=>?_
 subst he;subst hv1
 cases hv2
 have hb:Below W.heap.size W W' := below_of rfl hf
 exact⟨_,rfl,post_below (pa := []) (pv := []) hW' (fun _ _ _=>trodAll_mk1 (shut_bool Tryz.underlying4 true))
  (fun sp hsp=>trodAll_mk0) (fun _ _=>rfl) (by simp) hb (ok_one (by kernel_rfl) rfl (okWide_bool_mk Tryz.underlying4 true))⟩

set_option maxRecDepth 100000 in
theorem jInPlace:(Rows.planKnownRow.inPlace == Tryz.prog.inPlace 11)=true:=by kernel_rfl
set_option maxRecDepth 100000 in
theorem jUnf:(Rows.planKnownRow.unfollowed == Tryz.prog.unfollowed 11)=true:=by kernel_rfl
set_option maxRecDepth 100000 in
theorem jRec:(Rows.planKnownRow.recurses == Tryz.prog.recurses 11)=true:=by kernel_rfl
set_option maxRecDepth 100000 in
theorem jNam:(Rows.planKnownRow.named == Tryz.prog.varsNamed 11)=true:=by kernel_rfl
set_option maxRecDepth 100000 in
theorem jWf:Rows.planKnownRow.wf (OpenSpec.ofChange Rows.planKnownSpec)=true:=by kernel_rfl
set_option maxRecDepth 100000 in
theorem jLaid:laidOutB Tryz.prog=true:=by kernel_rfl
set_option maxRecDepth 100000 in
theorem jMaps:mapsRowed Tryz.prog=true:=by kernel_rfl
set_option maxRecDepth 100000 in
theorem joined:joinedFacts Tryz.prog 11 Tryz.f11 Rows.planKnownSpec Rows.planKnownRow=true:=by
 unfold joinedFacts
 rw[jInPlace,jUnf,jRec,jNam,jWf,jLaid,jMaps]
 kernel_rfl
set_option maxRecDepth 100000 in
theorem named:Tryz.pinned.checked.prog.funcNamed Rows.planKnownRow.func=some 11:=by kernel_rfl
set_option maxRecDepth 100000 in
theorem inst:Tryz.f11.isInstance Tryz.pinned.checked.prog Rows.planKnownRow.origin Rows.planKnownRow.targs:=of_decide_eq_true (by kernel_rfl)
theorem planKnown_holds:Rows.PlanKnownSaid :=
 OpenClaim.holds_of_wide 11 Tryz.f11 rfl rfl rfl rfl rfl rfl rfl ⟨rfl,rfl,rfl,rfl,rfl⟩ rfl rfl rfl rfl rfl named Tryz.func11 joined
  inst (by unfold Func.isWrapper;first | (rw[if_pos (by decide +kernel)];kernel_rfl) | (rw[if_neg (by decide +kernel)];exact⟨rfl,rfl⟩))
  (fun os started H enc _=>planKnown_lifted os started H enc)
end Go.Proofs.YtgdbclgcbbbenaaGreat
