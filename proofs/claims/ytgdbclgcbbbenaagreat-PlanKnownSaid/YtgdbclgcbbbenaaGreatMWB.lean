/-
  What an exchange of four processes asks for: the walk of demands, its calls computed.
-/
import Derived.Test.YtgdbclgcbbbenaaGreatMWA
import Derived.Test.YtgdbclgcbbbenaaGreatMPX
import Derived.Test.YtgdbclgcbbbenaaGreatMCA
set_option linter.all false
noncomputable section
namespace Go.Af.Tryz.W
open Go Go.Proofs Go.Af.Tryz Go.Af.Pl Co
set_option maxRecDepth 100000
attribute [local irreducible] awp qi qw qH qy
theorem al_run:(evN FNt EE 100).call 0 44 [tkQ 8 4 0 1] .e 0 (fun v M _=>isFn [8,9,10] v M)=true:=by kernel_rfl
def stA:List Coll.St := [⟨0,0,0,0,4,0⟩,⟨0,0,0,1,5,0⟩,⟨0,0,0,2,6,0⟩,⟨0,0,0,3,7,0⟩,⟨0,1,1,0,7,0⟩,⟨0,1,1,1,4,0⟩,⟨0,1,1,2,5,0⟩,⟨0,1,1,3,6,0⟩,⟨0,2,2,0,6,0⟩,⟨0,2,2,1,7,0⟩,⟨0,2,2,2,4,0⟩,⟨0,2,2,3,5,0⟩,⟨0,3,3,0,5,0⟩,⟨0,3,3,1,6,0⟩,⟨0,3,3,2,7,0⟩,⟨0,3,3,3,4,0⟩,⟨1,0,1,5,5,0⟩,⟨1,0,1,7,7,0⟩,⟨1,1,2,5,5,0⟩,⟨1,1,2,7,7,0⟩,⟨1,2,3,5,5,0⟩,⟨1,2,3,7,7,0⟩,⟨1,3,0,5,5,0⟩,⟨1,3,0,7,7,0⟩,⟨2,0,2,6,6,0⟩,⟨2,0,2,7,7,0⟩,⟨2,1,3,6,6,0⟩,⟨2,1,3,7,7,0⟩,⟨2,2,0,6,6,0⟩,⟨2,2,0,7,7,0⟩,⟨2,3,1,6,6,0⟩,⟨2,3,1,7,7,0⟩,⟨3,0,0,4,4,0⟩,⟨3,0,0,5,7,0⟩,⟨3,0,0,6,6,0⟩,⟨3,0,0,7,5,0⟩,⟨3,1,1,4,5,0⟩,⟨3,1,1,5,4,0⟩,⟨3,1,1,6,7,0⟩,⟨3,1,1,7,6,0⟩,⟨3,2,2,4,6,0⟩,⟨3,2,2,5,5,0⟩,⟨3,2,2,6,4,0⟩,⟨3,2,2,7,7,0⟩,⟨3,3,3,4,7,0⟩,⟨3,3,3,5,6,0⟩,⟨3,3,3,6,5,0⟩,⟨3,3,3,7,4,0⟩]
def stI:List Int:=stA.flatMap (fun s=>[s.rd,s.fr,s.to,s.sr,s.ds,s.jn])
def scQ (a b c d e:Int) (s:Value):Value := .tuple ⟨[.agg ⟨[.int .i64 a, .int .i64 b, .int .i64 c, .int .i64 d, .slice none 0 0, .slice none 0 0, .int .i64 e,s]⟩, .int .i64 0]⟩
def isS (v:Value) (M:Tr EB):Bool:=match v with
 | .tuple xs=>(match xs.toList with
   | [.agg ys, .int .i64 z]=>ieq z 0&&(match ys.toList with
     | [.int .i64 a, .int .i64 b, .int .i64 c, .int .i64 d, .slice none 0 0, .slice none 0 0, .int .i64 e,s]=>isI [a,b,c,d,e] [8,4,0,1,8]&&isR 6 48 stI s M
     | _=>false)
   | _=>false)
 | _=>false
theorem isS_ok {v:Value} {M:Tr EB} (h:isS v M=true) : ∃ b,v=scQ 8 4 0 1 8 (.slice (some ⟨b,0,none⟩) 48 48)/\M.get (psOf b)=some (.cells 6 (ints stI)):=by
 unfold isS at h
 split at h
 ·rename_i xs
  split at h
  ·rename_i ys z e
   simp only[ieq_eq,Bool.and_eq_true,decide_eq_true_eq] at h
   obtain ⟨rfl,h⟩:=h
   split at h
   ·rename_i e2
    simp only[Bool.and_eq_true] at h
    have h1:=isI_ok h.1
    cases h1
    obtain ⟨b,e3,e4⟩:=isR_ok h.2
    refine⟨b, ?_,e4⟩
    rw[show xs=⟨xs.toList⟩ from rfl,e,show ys=⟨ys.toList⟩ from rfl,e2,e3];rfl
   ·cases h
  ·cases h
 ·cases h
theorem mk_run:(evN FNt EE 100).call 0 85 [tkQ 8 4 0 1, .int .i64 8] .e 0 (fun v M _=>isS v M)=true:=by kernel_rfl
theorem l85 (H:List Blk):qi Tryz.prog 85 [tkQ 8 4 0 1, .int .i64 8] H (fun v' H' => v' = scQ 8 4 0 1 8 (sv H.length 48)/\H' = H ++ [.cells true 6 (ints stI)]) :=
 run_row fok eok mx (F:=scQ 8 4 0 1 8) (zf _) (fun _ _ h=>isS_ok h)
  (fun h=>VRen.tuple (.cons (.agg (.cons (.int _ _) (.cons (.int _ _) (.cons (.int _ _) (.cons (.int _ _) (.cons (VRen.plain rfl) (.cons (VRen.plain rfl) (.cons (.int _ _) (.cons h .nil))))))))) (.cons (.int _ _) .nil)))
  (fun h=>qY.tuple (.cons (qY.agg (.cons (qY.plain rfl) (.cons (qY.plain rfl) (.cons (qY.plain rfl) (.cons (qY.plain rfl) (.cons (qY.plain rfl) (.cons (qY.plain rfl) (.cons (qY.plain rfl) (.cons h .nil))))))))) (.cons (qY.plain rfl) .nil)))
  (.cons (ren_tkQ 8 4 0 1) (.cons (.int _ _) .nil)) mk_run H
def tA:Tk:=⟨8,4,0,1,[],[]⟩
def XA:List (List (List Co.Og)):=(Co.trcF tA stA).getD []
def dem3:List Int := [1,0,0,5,2,0,0,6,3,0,0,7,0,1,1,4,2,1,1,6,3,1,1,7,0,2,2,4,1,2,2,5,3,2,2,7,0,3,3,4,1,3,3,5,2,3,3,6]
theorem sndA:Co.sndF tA stA=0:=by kernel_rfl
theorem trcA:(Co.trcF tA stA).isSome=true:=by kernel_rfl
theorem trcA' : Co.trcF tA stA=some XA:=by
 have h:=trcA
 unfold XA
 cases e:Co.trcF tA stA with
 | none=>rw[e] at h;cases h
 | some x=>rfl
theorem XA_len:XA.length=4:=by kernel_rfl
theorem demA:flC (demX XA fun _=>[4,5,6,7])=ints dem3:=by kernel_rfl
theorem demA_len:(demX XA fun _=>[4,5,6,7]).length=12:=by kernel_rfl
theorem sltA:(Co.sltF tA).toNat=8:=by kernel_rfl
theorem stsA:Co.stsC stA=ints stI:=by kernel_rfl
theorem l63a (H:List Blk):qi Tryz.prog 63 [tkQ 8 4 0 1] H (fun v' H' => v' = sv H.length 12/\H' = H ++ [.cells true 4 (ints dem3)]):=by
 refine row_of (F:=fun x=>x) (zf dem3) (fun h=>h) (fun h=>h) (.cons (ren_tkQ 8 4 0 1) .nil) ?_ H
 refine c63 (a0:=8) (ar := [9,10]) (L:=stA) (X:=XA) (fin:=fun _=>[4,5,6,7]) (p:=4) (n:=8) (by decide) XA_len (fun _ _=>by decide) (fun r _ s hs=>by simp at hs;omega)
  (fun H' R _ k=>(run_fin eok .nil al_run H').mono fun v H2 h=>?_) (fun H' R _ k=>(l85 H').mono fun v H2 h=>?_) (fun H' R d _ hst k=>?_)
  (fun H' R r hr _ k=>(run_fin eok (.cons (.int _ _) .nil) (fn_all (f:=fnC 8 4 0 1 [4,5,6,7]) fn3 at3 (by omega:(r:Int)<4)) H').mono fun v H2 h=>?_) (fun H' k hs=>?_)
 ·obtain ⟨rfl,rfl⟩:=h
  exact k _ _ ((HS.start H' none').virt _)
 ·obtain ⟨rfl,rfl⟩:=h
  exact k _ _ (by rw[stsA];exact (HS.start H' none').virt _)
 ·have hv:=(HS.start H' none').virt (rw' [])
  have hb:bget (H' ++ [rw' []]) H'.length=some (rw' []):=hv.get 0 rfl
  refine acall_seen (args' := [Co.schV tA 8 H'.length H'.length d stA.length]) (Hs:=H' ++ [rw' []]) (Co.c48 ⟨⟨_,hb⟩⟩ ⟨hst.s.imp fun _ g=>(bget_app_lt (wW g)).trans g⟩ (by decide) (by decide) (by decide) (fun H2 z _ hz hcs=>?_) (fun H2 ob rows M hn hlf hdm _ htr=>?_)) ?_ (WkH.rfl.app _)
  ·rcases hcs with h1 | ⟨_,h1,_⟩
   ·rw[sndA] at h1;exact absurd h1 hz
   ·rw[trcA'] at h1;cases h1
  ·have hs:=(hv.call hn (by rw[List.all_cons,List.all_append,Co.rwL_all,Co.lfL_all];rfl)).left
   rw[trcA'] at htr
   rw[sltA] at hdm
   exact k _ ob rows M hs hlf hdm (Option.some.inj htr).symm
  ·exact LUp.cons (VUp.agg (LUp.cons VUp.rfl (LUp.cons VUp.rfl (LUp.cons VUp.rfl (LUp.cons VUp.rfl (LUp.cons (VUp.nil _) (LUp.cons (VUp.nil _) (LUp.cons VUp.rfl (LUp.cons VUp.rfl LUp.nil))))))))) LUp.nil
 ·obtain ⟨rfl,rfl⟩:=h
  exact k _ _ ((HS.start H' none').virt _)
 ·refine⟨k,by rw[demA_len], ?_⟩
  have g:=hs.get 0 rfl
  rw[deB,demA] at g
  exact g
def orcMs:=orE (orcM 1 4 0 2 6 dem0) (orE (orcM 3 4 0 1 12 dem1) (orE (orcM 4 3 0 1 3 dem2) (orcM 8 4 0 1 12 dem3)))
def EE4:Env := { EE2 with ors:=(63,orcMs)::EE2.ors }
theorem eok4:EOk Tryz.prog EE4 :=
 eok_add eok2 (orE_ok (orcM_ok (l63 dem_run0)) (orE_ok (orcM_ok (l63 dem_run1)) (orE_ok (orcM_ok (l63 dem_run2)) (orcM_ok l63a))))
end Go.Af.Tryz.W
