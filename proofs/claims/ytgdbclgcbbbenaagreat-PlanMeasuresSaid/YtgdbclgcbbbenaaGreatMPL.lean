/-
  The law PlanChecks, as a call.
  The law PlanMeasures, as a call.
-/
import Derived.Test.YtgdbclgcbbbenaaGreatMPK
import Derived.Test.YtgdbclgcbbbenaaGreatMWA
import Derived.Test.YtgdbclgcbbbenaaGreatMCA
import Derived.Test.YtgdbclgcbbbenaaGreatMPJ
set_option linter.all false
namespace Go.Af.Tryz
open Go Go.Proofs Go.Af.Pl Co
open Ne
set_option maxRecDepth 100000
set_option maxHeartbeats 4000000
attribute [local irreducible] awp qj qm qP qH qJ isCells qA qx qZ qX qI roundEnd wZ wO keyK vZ wP wW
theorem wk13 (H:List Blk) {R:Value->List Blk->Prop} (h : ∀ H',HS H none' [] H' -> R (.bool true) H'):qj Tryz.prog 13 [] H R:=(W.worksX H (h H (HS.start H none'))).call
end Go.Af.Tryz
namespace Go.Af.Tryz
open Go Go.Proofs Go.Af.Pl Co
open Ne
open Go.Af.Coll (St)
set_option maxRecDepth 100000
set_option maxHeartbeats 4000000
attribute [local irreducible] awp qj qm qP qH qJ isCells qA qx qZ qX qI roundEnd wZ wO keyK vZ wP wW
theorem aggEq42:AggEq Tryz.prog 42 [.i64, .i64, .i64, .i64, .i64]:=aggEq_struct (by kernel_rfl) (by kernel_rfl) (by kernel_rfl) (xZ (by kernel_rfl))
theorem l16 (m:Mc):qj Tryz.prog 16 [mcV m 0 1] [ro m.sd,ro m.hs] (fun v H=>v=mcV m 0 1/\H = [ro m.sd,ro m.hs]):=by
 refine qy (c16 (b:=0) (c:=1) (fun H' hs=>?_))
 have e0:=vK hs (b:=0) (B:=ro m.sd) rfl
 have e1:=vK hs (b:=1) (B:=ro m.hs) rfl
 refine⟨[(0,0),(1,0)],mcV m 0 1,[ro m.sd,ro m.hs],by simp, ?_,⟨⟨_,e0,BRen.ints _ _ _⟩,⟨_,e1,BRen.ints _ _ _⟩,trivial⟩,rfl, ?_,rfl,rfl⟩
 ·intro i hi
  match i,hi with
  | 0,_=>rfl
  | 1,_=>rfl
 ·exact .agg (.cons (.int _ _) (.cons (VRen.slice rfl rfl (Nat.le_refl _)) (.cons (.int _ _) (.cons (VRen.slice rfl rfl (Nat.le_refl _)) (.cons (.int _ _) (.cons (.int _ _) (.cons (.int _ _) (.cons (.int _ _) .nil))))))))
theorem c16x {H:List Blk} {m:Mc} {b c:Nat} {R:Value->List Blk->Prop} (g:Mr H m b c) (h:R (mcV m b c) H):qm Tryz.prog 16 [mcV m b c] H R:=by
 obtain ⟨w,hb⟩:=g.s
 obtain ⟨w2,hc⟩:=g.h
 refine yj (l16 m) [(b,0),(c,0)] rfl ?_ ⟨⟨_,hb,BRen.seg fun i x hx=>by rw[Nat.zero_add,qQ,hx];rfl⟩,⟨_,hc,BRen.seg fun i x hx=>by rw[Nat.zero_add,qQ,hx];rfl⟩,trivial⟩ ?_
 ·exact .cons (.agg (.cons (.int _ _) (.cons (VRen.slice rfl rfl (Nat.le_refl _)) (.cons (.int _ _) (.cons (VRen.slice rfl rfl (Nat.le_refl _)) (.cons (.int _ _) (.cons (.int _ _) (.cons (.int _ _) (.cons (.int _ _) .nil))))))))) .nil
 ·rintro v2 H2' ⟨rfl,rfl⟩
  refine⟨mcV m b c,[],[],by simp,rfl,fun k b2 hk=>by simp at hk, ?_,by simpa using h⟩
  exact vP.agg (.cons (.int _ _) (.cons (vback_sv rfl) (.cons (.int _ _) (.cons (vback_sv rfl) (.cons (.int _ _) (.cons (.int _ _) (.cons (.int _ _) (.cons (.int _ _) .nil))))))))
theorem k3g {H:List Blk} {m:Mc} {t:Tk} {alg:Int} {l:List Coll.St} {b c e f d:Nat} (g:Mr H m b c) (gr:Gr H t.sz e) (hst:Sts H l d) (hh:m.hs.length<=9223372036854775807) (hl:t.sz.length<=9223372036854775807) (hw:t.ws.length<=9223372036854775807) (hll:l.length<=9223372036854775807)
 {μ : LM} {argsR:Array Value} {w:World} (ha:LRel μ [mcV m b c,schV t alg e f d l.length] argsR.toList) (hr:HRel μ H w) :
 Calls Tryz.prog 3 argsR w fun e w' => ∃ vR,e = .returned vR/\zV μ H w (fun v _=>v = .bool true) vR w' := by
 refine calls_vcg tok Tryz.func3 rfl Tryz.ntmps3 rfl (by simp) ?_ ha hr
 clear ha hr
 have hs:=HS.start H none'
 repeat' (first|refine nX ?_|refine nY (fun K0 hK0=>?_)|refine zSt hs ?_|refine nN hs (fun _ _ hs=>?_)|refine nS hs (fun _ _ hs=>?_)|refine sX hs (fun _ hs=>?_)|(refine hK0 _ _ ?_;clear hK0)|fail)
 refine c12 (g.up (qf hs)) (gr.up (qf hs)) hl hw (fun H2 u hn hu=>?_)
 have hs:=qR hs hn
 clear hn
 cases u with
 | false =>
   repeat' (first|refine nX ?_|refine nY (fun K0 hK0=>?_)|refine zSt hs ?_|refine nN hs (fun _ _ hs=>?_)|refine nS hs (fun _ _ hs=>?_)|refine sX hs (fun _ hs=>?_)|(refine dI (fun hc=>?_) (fun hc=>?_) <;> try (exfalso;omega))|(refine hK0 _ _ ?_;clear hK0)|fail)
   all_goals (
    refine wk13 _ (fun H3 hn=>?_)
    have hs:=qR hs hn
    repeat' (first|refine nX ?_|refine nY (fun K0 hK0=>?_)|refine zSt hs ?_|refine nN hs (fun _ _ hs=>?_)|refine nS hs (fun _ _ hs=>?_)|refine sX hs (fun _ hs=>?_)|(refine dI (fun hc=>?_) (fun hc=>?_) <;> try (exfalso;omega))|(refine hK0 _ _ ?_;clear hK0)|fail)
    rfl)
 | true =>
   have hf:=hu rfl
   have hf1:m.sd.length<=10:=hf.1
   have hf2:m.hs.length<=100:=hf.2.1
   have hf3:t.sz.length<=10:=hf.2.2.1
   have hf4:t.ws.length<=10:=hf.2.2.2.1
   clear hf hu
   by_cases hl2:l.length<=200
   rotate_left
   ·skip
    repeat' (first|refine nX ?_|refine nY (fun K0 hK0=>?_)|refine zSt hs ?_|refine nN hs (fun _ _ hs=>?_)|refine nS hs (fun _ _ hs=>?_)|refine sX hs (fun _ hs=>?_)|(refine dI (fun hc=>?_) (fun hc=>?_) <;> try (exfalso;omega))|(refine hK0 _ _ ?_;clear hK0)|fail)
    all_goals try (exfalso;omega)
    refine wk13 _ (fun H3 hn=>?_)
    have hs:=qR hs hn
    repeat' (first|refine nX ?_|refine nY (fun K0 hK0=>?_)|refine zSt hs ?_|refine nN hs (fun _ _ hs=>?_)|refine nS hs (fun _ _ hs=>?_)|refine sX hs (fun _ hs=>?_)|(refine dI (fun hc=>?_) (fun hc=>?_) <;> try (exfalso;omega))|(refine hK0 _ _ ?_;clear hK0)|fail)
    rfl
   repeat' (first|refine nX ?_|refine nY (fun K0 hK0=>?_)|refine zSt hs ?_|refine nN hs (fun _ _ hs=>?_)|refine nS hs (fun _ _ hs=>?_)|refine sX hs (fun _ hs=>?_)|(refine dI (fun hc=>?_) (fun hc=>?_) <;> try (exfalso;omega))|(refine hK0 _ _ ?_;clear hK0)|fail)
   all_goals try (exfalso;omega)
   by_cases hG:sndF t l=0/\chkM m t.pr=0
   ·refine c14 (g.up (qf hs)) (gr.up (qf hs)) (hst.up (qf hs)) hh hl hw (by omega) (fun H4 z hn hz hv=>absurd hv (by omega)) (fun H4 s hn hS hC mk=>?_)
    have hs:=qR hs hn
    clear hn
    obtain ⟨z0,z1,z2,z3,z4,hz⟩ : ∃ z0 z1 z2 z3 z4,msrF s m t l = [z0,z1,z2,z3,z4]:=⟨_,_,_,_,_,rfl⟩
    rw[hz]
    obtain ⟨hck,hsd⟩:=snd_in hS
    obtain ⟨n,hN,hn256,hrl⟩:=rnd_nat hsd hS
    have h5 : ∀ x∈(List.range n).map (totR s m l),x.length=5:=fun x hx=>by
     obtain ⟨r,_,rfl⟩:=List.mem_map.1 hx;rfl
    have hOl:((List.range n).map (totR s m l)).length=n:=by simp
    obtain ⟨O,hO⟩ : ∃ O,(List.range n).map (totR s m l)=O:=⟨_,rfl⟩
    rw[hO] at h5 hOl
    repeat' (first|refine nX ?_|refine nY (fun K0 hK0=>?_)|refine zSt hs ?_|refine nN hs (fun _ _ hs=>?_)|refine nS hs (fun _ _ hs=>?_)|refine sX hs (fun _ hs=>?_)|(refine hK0 _ _ ?_;clear hK0)|fail)
    refine vk tok mx [0,1,0,7,15,31,63,63,0,383,1023] [false,true,true,false,false,false,false,false,true,false,false] (.first 0 (.first 2 (.alt 1 (.alt 3 (.alt 4 (.first 5 (.first 6 (.first 7 (.first 8 (.first 9 (.first 10 .done)))))) (.alt 8 (.first 4 (.first 5 (.first 6 (.first 7 (.first 9 (.first 10 .done)))))) .no)) (.alt 8 (.first 3 (.first 4 (.first 5 (.first 6 (.first 7 (.first 9 (.first 10 .done))))))) .no)) (.alt 8 (.first 1 (.first 3 (.first 4 (.first 5 (.first 6 (.first 7 (.first 9 (.first 10 .done)))))))) .no)))) (by kernel_rfl) ?_
    refine vz (fun K0 hK0=>?_)
    repeat' (first|refine c16x (g.up (qf hs)) ?_|(refine c23 (hst.up (qf hs)) (by omega) (fun _ ks hn=>?_);have hs:=hs.call hn rfl;clear hn)|refine iS hs ?_|refine rS hs ?_|refine eI _ (aI rfl ?_)|refine qp ?_|refine qo ?_|refine nN hs (fun _ _ hs=>?_)|refine nS hs (fun _ _ hs=>?_)|refine sX hs (fun _ hs=>?_)|(refine hK0 _ _ ?_;clear hK0)|exact trivial|refine And.intro ?_ ?_|fail)
    all_goals (
     refine c15 (g.up (qf hs)) (gr.up (qf hs)) ⟨true,hs.mem (by repeat (first | exact mH | refine mT ?_))⟩ hh hf3 hf4 (by omega) (fun H4 z hn hz hv=>absurd hv (by omega)) (fun H4 s' hn _ _ mk' => ?_)
     have es:s' = s:=by
      have h1:=mk'.sh
      rw[mk.sh] at h1
      exact (Option.some.inj h1).symm
     rw[es,hz]
     have hs:=qR hs hn
     clear hn mk' es
     repeat' (first|refine c16x (g.up (qf hs)) ?_|(refine c23 (hst.up (qf hs)) (by omega) (fun _ ks hn=>?_);have hs:=hs.call hn rfl;clear hn)|refine iS hs ?_|refine rS hs ?_|refine eI _ (aI rfl ?_)|refine qp ?_|refine qo ?_|refine nN hs (fun _ _ hs=>?_)|refine nS hs (fun _ _ hs=>?_)|refine sX hs (fun _ hs=>?_)|(refine hK0 _ _ ?_;clear hK0)|exact trivial|refine And.intro ?_ ?_|fail)
     refine c18 (g.up (qf hs)) (gr.up (qf hs)) (hst.up (qf hs)) hh hl hw (by omega) (fun H4 z hn hz hv=>absurd hv (by omega)) (fun H5 k s2 hn _ _ mk2=>?_)
     have es:s2=s:=by
      have h1:=mk2.sh
      rw[mk.sh] at h1
      exact (Option.some.inj h1).symm
     rw[es,hN,Int.toNat_natCast,hO] at hn
     rw[hN,Int.toNat_natCast]
     have hs:=hs.call hn rfl
     clear hn mk2 es
     repeat' (first|refine nX ?_|refine nY (fun K0 hK0=>?_)|refine zSt hs ?_|refine nN hs (fun _ _ hs=>?_)|refine nS hs (fun _ _ hs=>?_)|refine sX hs (fun _ hs=>?_)|(refine hK0 _ _ ?_;clear hK0)|fail)
     refine vk tok mx [0,1,0,7,15,31,63,63,127,511] [false,true,true,false,false,false,false,false,false,false] (.first 0 (.first 2 (.first 1 (.first 3 (.first 4 (.first 5 (.first 6 (.first 7 (.first 8 (.first 9 .done)))))))))) (by kernel_rfl) ?_
     refine vz (fun K0 hK0=>?_)
     repeat' (first|refine c16x (g.up (qf hs)) ?_|(refine c23 (hst.up (qf hs)) (by omega) (fun _ ks hn=>?_);have hs:=hs.call hn rfl;clear hn)|refine iS hs ?_|refine rS hs ?_|refine eI _ (aI rfl ?_)|refine qp ?_|refine qo ?_|refine nN hs (fun _ _ hs=>?_)|refine nS hs (fun _ _ hs=>?_)|refine sX hs (fun _ hs=>?_)|(refine hK0 _ _ ?_;clear hK0)|exact trivial|refine And.intro ?_ ?_|fail)
     refine c19 (g.up (qf hs)) (gr.up (qf hs)) ⟨true,hs.mem (by repeat (first | exact mH | refine mT ?_))⟩ hh hf3 hf4 (by omega) (fun H4 z hn hz hv=>absurd hv (by omega)) (fun H5 k2 s2 hn _ _ mk2=>?_)
     have es:s2=s:=by
      have h1:=mk2.sh
      rw[mk.sh] at h1
      exact (Option.some.inj h1).symm
     rw[es,hN,Int.toNat_natCast,hO] at hn
     rw[hN,Int.toNat_natCast]
     have hs:=hs.call hn rfl
     clear hn mk2 es
     repeat' (first|refine nX ?_|refine nY (fun K0 hK0=>?_)|refine zSt hs ?_|refine nN hs (fun _ _ hs=>?_)|refine nS hs (fun _ _ hs=>?_)|refine sX hs (fun _ hs=>?_)|(refine hK0 _ _ ?_;clear hK0)|fail)
     refine⟨_,aggEq42, ?_⟩
     repeat' (first|refine nX ?_|refine nY (fun K0 hK0=>?_)|refine zSt hs ?_|refine nN hs (fun _ _ hs=>?_)|refine nS hs (fun _ _ hs=>?_)|refine sX hs (fun _ hs=>?_)|(refine dI (fun hc=>?_) (fun hc=>?_) <;> try (exfalso;omega))|(refine hK0 _ _ ?_;clear hK0)|fail)
     all_goals try (exfalso;first | omega | (simp at hc;done))
     have hs:=hs.pick [0,2] (by decide) rfl (L' := [(true,k2, .cells true 5 (totC O)),(true,k, .cells true 5 (totC O))])
     refine qF (α := List Blk × Nat) tok (fun z=>HS H none' [(true,k2, .cells true 5 (totC O)),(true,k, .cells true 5 (totC O))] z.1/\z.2<=n)
      (fun z=>[(9,sv k n),(11,sv k2 n),(13, .int .i64 z.2)]) (fun z=>z.1) (fun z=>n-z.2)
      (_,0) ⟨hs,Nat.zero_le _⟩ (Or.inl ⟨⟨rfl,rfl,rfl,trivial⟩,rfl⟩) ?_
     clear hs
     rintro ⟨H6,i⟩ ⟨hs,hi⟩
     dsimp only at hs hi ⊢
     repeat' (first|refine nX ?_|refine nY (fun K0 hK0=>?_)|refine zSt hs ?_|refine nN hs (fun _ _ hs=>?_)|refine nS hs (fun _ _ hs=>?_)|refine sX hs (fun _ hs=>?_)|(refine hK0 _ _ ?_;clear hK0)|fail)
     refine aI (fun hc=>?_) (fun hc=>?_)
     ·have hlt:i<n:=by simp at hc;omega
      clear hc
      have hx5:=h5 O[i]! (by rw[getElem!_pos O i (by omega)];exact List.getElem_mem _)
      obtain ⟨a0,a1,a2,a3,a4,hx⟩ : ∃ a0 a1 a2 a3 a4,O[i]! = [a0,a1,a2,a3,a4]:=by
       match ho:O[i]!,hx5 with
       | [a0,a1,a2,a3,a4],_=>exact⟨_,_,_,_,_,rfl⟩
      repeat' (first|refine nX ?_|refine nY (fun K0 hK0=>?_)|refine zSt hs ?_|refine nN hs (fun _ _ hs=>?_)|refine nS hs (fun _ _ hs=>?_)|refine sX hs (fun _ hs=>?_)|(refine hK0 _ _ ?_;clear hK0)|fail)
      refine vk tok mx [0,0,3,7,0,0,48,112,255] [false,false,false,false,true,true,true,true,false] (.first 0 (.first 1 (.first 2 (.first 3 (.first 4 (.first 5 (.first 6 (.first 7 (.first 8 .done))))))))) (by kernel_rfl) ?_
      refine vz (fun K0 hK0=>?_)
      repeat' (first|refine nX ?_|refine nY (fun K0 hK0=>?_)|refine zSt hs ?_|refine nN hs (fun _ _ hs=>?_)|refine nS hs (fun _ _ hs=>?_)|refine sX hs (fun _ hs=>?_)|(refine hK0 _ _ ?_;clear hK0)|fail)
      refine seg_tot h5 (by omega) hx ?_
      repeat' (first|refine nX ?_|refine nY (fun K0 hK0=>?_)|refine zSt hs ?_|refine nN hs (fun _ _ hs=>?_)|refine nS hs (fun _ _ hs=>?_)|refine sX hs (fun _ hs=>?_)|(refine hK0 _ _ ?_;clear hK0)|fail)
      refine seg_tot h5 (by omega) hx ?_
      repeat' (first|refine nX ?_|refine nY (fun K0 hK0=>?_)|refine zSt hs ?_|refine nN hs (fun _ _ hs=>?_)|refine nS hs (fun _ _ hs=>?_)|refine sX hs (fun _ hs=>?_)|(refine hK0 _ _ ?_;clear hK0)|fail)
      refine⟨_,aggEq42, ?_⟩
      repeat' (first|refine nX ?_|refine nY (fun K0 hK0=>?_)|refine zSt hs ?_|refine nN hs (fun _ _ hs=>?_)|refine nS hs (fun _ _ hs=>?_)|refine sX hs (fun _ hs=>?_)|(refine dI (fun hc=>?_) (fun hc=>?_) <;> try (exfalso;omega))|(refine hK0 _ _ ?_;clear hK0)|fail)
      all_goals try (exfalso;first | omega | (simp at hc;done))
      exact⟨(_,i+1),⟨hs,hlt⟩,by dsimp only;omega,Or.inl ⟨⟨rfl,rfl,rfl,trivial⟩,rfl⟩⟩
     ·have hie:i=n:=by simp at hc;omega
      subst hie
      clear hc
      repeat' (first|refine nX ?_|refine nY (fun K0 hK0=>?_)|refine zSt hs ?_|refine nN hs (fun _ _ hs=>?_)|refine nS hs (fun _ _ hs=>?_)|refine sX hs (fun _ hs=>?_)|(refine hK0 _ _ ?_;clear hK0)|fail)
      refine wk13 _ (fun H7 hn=>?_)
      repeat' (first|refine nX ?_|refine nY (fun K0 hK0=>?_)|refine zSt hs ?_|refine nN hs (fun _ _ hs=>?_)|refine nS hs (fun _ _ hs=>?_)|refine sX hs (fun _ hs=>?_)|(refine hK0 _ _ ?_;clear hK0)|fail)
      rfl
     )
   ·obtain ⟨ze,hze,hz0⟩ : ∃ ze:Int,(∀ z:Int,z≠0->(z=sndF t l\/(sndF t l=0/\z=chkM m t.pr))->z=ze)/\ze≠0:=by
     by_cases h1:sndF t l=0
     ·exact⟨chkM m t.pr,fun z _ h=>by omega,fun h=>hG ⟨h1,h⟩⟩
     ·exact⟨sndF t l,fun z _ h=>by omega,h1⟩
    refine c14 (g.up (qf hs)) (gr.up (qf hs)) (hst.up (qf hs)) hh hl hw (by omega) (fun H4 z hn hz hv=>?_) (fun H4 s hn hS hC mk=>absurd ⟨hS,hC⟩ hG)
    rw[hze z hz hv]
    have hs:=qR hs hn
    clear hn hz hv
    repeat' (first|refine nX ?_|refine nY (fun K0 hK0=>?_)|refine zSt hs ?_|refine nN hs (fun _ _ hs=>?_)|refine nS hs (fun _ _ hs=>?_)|refine sX hs (fun _ hs=>?_)|(refine hK0 _ _ ?_;clear hK0)|fail)
    refine vk tok mx [0,1,0,7,15,31,63,63,0,383,1023] [false,true,true,false,false,false,false,false,true,false,false] (.first 0 (.first 2 (.alt 1 (.alt 3 (.alt 4 (.first 5 (.first 6 (.first 7 (.first 8 (.first 9 (.first 10 .done)))))) (.alt 8 (.first 4 (.first 5 (.first 6 (.first 7 (.first 9 (.first 10 .done)))))) .no)) (.alt 8 (.first 3 (.first 4 (.first 5 (.first 6 (.first 7 (.first 9 (.first 10 .done))))))) .no)) (.alt 8 (.first 1 (.first 3 (.first 4 (.first 5 (.first 6 (.first 7 (.first 9 (.first 10 .done)))))))) .no)))) (by kernel_rfl) ?_
    refine vz (fun K0 hK0=>?_)
    repeat' (first|refine c16x (g.up (qf hs)) ?_|(refine c23 (hst.up (qf hs)) (by omega) (fun _ ks hn=>?_);have hs:=hs.call hn rfl;clear hn)|refine iS hs ?_|refine rS hs ?_|refine eI _ (aI rfl ?_)|refine qp ?_|refine qo ?_|refine nN hs (fun _ _ hs=>?_)|refine nS hs (fun _ _ hs=>?_)|refine sX hs (fun _ hs=>?_)|(refine hK0 _ _ ?_;clear hK0)|exact trivial|refine And.intro ?_ ?_|fail)
    all_goals (
     refine c15 (g.up (qf hs)) (gr.up (qf hs)) ⟨true,hs.mem (by repeat (first | exact mH | refine mT ?_))⟩ hh hf3 hf4 (by omega) (fun H4 z hn hz hv=>?_) (fun H4 s' hn hS hC mk' => absurd ⟨hS,hC⟩ hG)
     rw[hze z hz hv]
     have hs:=qR hs hn
     clear hn hz hv
     repeat' (first|refine c16x (g.up (qf hs)) ?_|(refine c23 (hst.up (qf hs)) (by omega) (fun _ ks hn=>?_);have hs:=hs.call hn rfl;clear hn)|refine iS hs ?_|refine rS hs ?_|refine eI _ (aI rfl ?_)|refine qp ?_|refine qo ?_|refine nN hs (fun _ _ hs=>?_)|refine nS hs (fun _ _ hs=>?_)|refine sX hs (fun _ hs=>?_)|(refine hK0 _ _ ?_;clear hK0)|exact trivial|refine And.intro ?_ ?_|fail)
     refine c18 (g.up (qf hs)) (gr.up (qf hs)) (hst.up (qf hs)) hh hl hw (by omega) (fun H4 z hn hz hv=>?_) (fun H4 _ s' hn hS hC mk' => absurd ⟨hS,hC⟩ hG)
     rw[hze z hz hv]
     have hs:=qR hs hn
     clear hn hz hv
     repeat' (first|refine nX ?_|refine nY (fun K0 hK0=>?_)|refine zSt hs ?_|refine nN hs (fun _ _ hs=>?_)|refine nS hs (fun _ _ hs=>?_)|refine sX hs (fun _ hs=>?_)|(refine hK0 _ _ ?_;clear hK0)|fail)
     refine vk tok mx [0,1,0,7,15,31,63,63,127,511] [false,true,true,false,false,false,false,false,false,false] (.first 0 (.first 2 (.first 1 (.first 3 (.first 4 (.first 5 (.first 6 (.first 7 (.first 8 (.first 9 .done)))))))))) (by kernel_rfl) ?_
     refine vz (fun K0 hK0=>?_)
     repeat' (first|refine c16x (g.up (qf hs)) ?_|(refine c23 (hst.up (qf hs)) (by omega) (fun _ ks hn=>?_);have hs:=hs.call hn rfl;clear hn)|refine iS hs ?_|refine rS hs ?_|refine eI _ (aI rfl ?_)|refine qp ?_|refine qo ?_|refine nN hs (fun _ _ hs=>?_)|refine nS hs (fun _ _ hs=>?_)|refine sX hs (fun _ hs=>?_)|(refine hK0 _ _ ?_;clear hK0)|exact trivial|refine And.intro ?_ ?_|fail)
     refine c19 (g.up (qf hs)) (gr.up (qf hs)) ⟨true,hs.mem (by repeat (first | exact mH | refine mT ?_))⟩ hh hf3 hf4 (by omega) (fun H4 z hn hz hv=>?_) (fun H4 _ s' hn hS hC mk' => absurd ⟨hS,hC⟩ hG)
     rw[hze z hz hv]
     have hs:=qR hs hn
     clear hn hz hv
     repeat' (first|refine nX ?_|refine nY (fun K0 hK0=>?_)|refine zSt hs ?_|refine nN hs (fun _ _ hs=>?_)|refine nS hs (fun _ _ hs=>?_)|refine sX hs (fun _ hs=>?_)|(refine hK0 _ _ ?_;clear hK0)|fail)
     refine⟨_,aggEq42, ?_⟩
     repeat' (first|refine nX ?_|refine nY (fun K0 hK0=>?_)|refine zSt hs ?_|refine nN hs (fun _ _ hs=>?_)|refine nS hs (fun _ _ hs=>?_)|refine sX hs (fun _ hs=>?_)|(refine dI (fun hc=>?_) (fun hc=>?_) <;> try (exfalso;omega))|(refine hK0 _ _ ?_;clear hK0)|fail)
     all_goals try (exfalso;first | omega | (simp at hc;done))
     have hs:=qf hs
     refine qF (α := List Blk) tok (fun z=>HS H none' [] z)
      (fun z=>[(9, .slice none 0 0),(11, .slice none 0 0),(13, .int .i64 0)]) (fun z=>z) (fun z=>0)
      _ hs (Or.inl ⟨⟨rfl,rfl,rfl,trivial⟩,rfl⟩) ?_
     clear hs
     rintro H6 hs
     try dsimp only at hs ⊢
     repeat' (first|refine nX ?_|refine nY (fun K0 hK0=>?_)|refine zSt hs ?_|refine nN hs (fun _ _ hs=>?_)|refine nS hs (fun _ _ hs=>?_)|refine sX hs (fun _ hs=>?_)|(refine dI (fun hc=>?_) (fun hc=>?_) <;> try (exfalso;omega))|(refine hK0 _ _ ?_;clear hK0)|fail)
     all_goals try (exfalso;omega)
     refine wk13 _ (fun H7 hn=>?_)
     repeat' (first|refine nX ?_|refine nY (fun K0 hK0=>?_)|refine zSt hs ?_|refine nN hs (fun _ _ hs=>?_)|refine nS hs (fun _ _ hs=>?_)|refine sX hs (fun _ hs=>?_)|(refine hK0 _ _ ?_;clear hK0)|fail)
     rfl
     )
theorem k3 (m:Mc) (t:Tk) (alg:Int) (l:List Coll.St) (z0:m.hs.length<=9223372036854775807) (z1:t.sz.length<=9223372036854775807) (z2:t.ws.length<=9223372036854775807) (z3:l.length<=9223372036854775807) {μ : LM} {argsR:Array Value} {w:World}
 (ha:LRel μ [mcV m 0 1,schV t alg 2 3 4 l.length] argsR.toList) (hr:HRel μ [ro m.sd,ro m.hs,ro t.sz, .cells false 1 (bls t.ws), .cells false 6 (stsC l)] w) :
 Calls Tryz.prog 3 argsR w fun e w' => ∃ vR,e = .returned vR/\zV μ [ro m.sd,ro m.hs,ro t.sz, .cells false 1 (bls t.ws), .cells false 6 (stsC l)] w (fun v _=>v = .bool true) vR w' :=
 k3g (H := [ro m.sd,ro m.hs,ro t.sz, .cells false 1 (bls t.ws), .cells false 6 (stsC l)]) ⟨⟨_,rfl⟩,⟨_,rfl⟩⟩ ⟨_,rfl⟩ ⟨_,rfl⟩ z0 z1 z2 z3 ha hr
end Go.Af.Tryz
