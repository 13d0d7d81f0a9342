/-
  Prices, totals, and the error of a machine.
  The error of a machine (plan.Check).
  Two rows are equal (equal); the error of a machine, as the reference has it (armadaref10.Check).
-/
import Derived.Test.YtgdbclgcbbbenaaGreatMPB
set_option linter.all false
namespace Go.Af.Tryz
open Go Go.Proofs Go.Af.Pl Co Ne
open Go.Af.Coll (St)
set_option maxRecDepth 100000
set_option maxHeartbeats 4000000
attribute [local irreducible] awp qo qA qN qI qG isCells qC qw qY ve qM roundEnd xK zN keyK wY zS xA

def prL (m:Mc):List Int := [m.st,m.hp,m.wd,m.jn]
theorem c78 {H:List Blk} {m:Mc} {b c:Nat} {R:Value->List Blk->Prop} (h : ∀ H',HS H none' [] H' -> R (.agg ⟨ints (prL m)⟩) H'):qo Tryz.prog 78 [mcV m b c] H R:=by
 refine qj tok Tryz.call78 Tryz.func78 rfl Tryz.ntmps78 rfl (by simp) ?_
 have hs:=HS.start H none'
 repeat' (first|refine nX ?_|refine nY (fun K0 hK0=>?_)|refine bH ?_|refine bM ?_|refine iS hs ?_|refine rS hs ?_|refine eI _ (aI rfl ?_)|refine qi ?_|refine qh ?_|refine qf ?_|refine oJ ?_|refine nN hs (fun _ _ hs=>?_)|refine nS hs (fun _ _ hs=>?_)|refine sX hs (fun _ hs=>?_)|(refine hK0 _ _ ?_;clear hK0)|fail)
 change resK T _ _ _ _
 refine resK_agg (by rfl) (by rfl) (hs.get 0 rfl) (by rfl) ?_
 refine⟨_,rfl,_,rfl,_,rfl,_,rfl, ?_⟩
 exact h _ (qU hs)
end Go.Af.Tryz
namespace Go.Af.Tryz
open Go Go.Proofs Go.Af.Pl Co Ne
open Go.Af.Coll (St)
set_option maxRecDepth 100000
set_option maxHeartbeats 4000000

def entS (W:List Int):List MapEntry:=W.mapIdx fun i z=>⟨.int .i64 z, .bool true,i⟩
abbrev mpS (W:List Int):Blk := .map true (entS W) W.length
theorem entS_get {W:List Int} {j:Nat} {e:MapEntry} (h:(entS W)[j]? = some e) : ∃ z,W[j]? = some z/\e=⟨.int .i64 z, .bool true,j⟩:=by
 unfold entS at h
 rw[List.getElem?_mapIdx] at h
 cases hw:W[j]? with
 | none=>rw[hw] at h;cases h
 | some p=>rw[hw] at h;cases h;exact⟨p,rfl,rfl⟩
theorem entS_at {W:List Int} {j:Nat} {z:Int} (h:W[j]? = some z):(entS W)[j]? = some ⟨.int .i64 z, .bool true,j⟩:=by
 unfold entS
 rw[List.getElem?_mapIdx,h];rfl
theorem entS_snoc (W:List Int) (a:Int):entS W ++ [⟨.int .i64 a, .bool true,W.length⟩]=entS (W ++ [a]):=by unfold entS;rw[List.mapIdx_append];simp
theorem mfind_S {H:List Blk} {W:List Int} {a:Int} {K:Option Nat->Prop} (h1 : ∀ j,W[j]? = some a->K (some j)) (h0:a ∉ W->K none):wY Tryz.prog T H 3 (.int .i64 a) (entS W) 0 K:=by
 refine mfind_l (fun e=>match e.key with | .int _ z=>decide (a=z) | _=>false) _ _ (fun e he K' hk=>?_) (fun j e hj ht _=>?_) (fun hn=>h0 (fun hm=>?_))
 ·obtain ⟨j,hj⟩:=List.getElem?_of_mem he
  obtain ⟨p,_,rfl⟩:=entS_get hj
  exact keq3 hk
 ·obtain ⟨p,hp,rfl⟩:=entS_get hj
  have hap:a=p:=of_decide_eq_true ht
  rw[Nat.zero_add]
  exact h1 j (by rw[hp,hap])
 ·obtain ⟨j,hj⟩:=List.getElem?_of_mem hm
  have:=hn _ (List.mem_of_getElem? (entS_at hj))
  exact of_decide_eq_false this rfl
theorem look_S {H:List Blk} {m n:Nat} {wr:Bool} {W:List Int} {a:Int} {K:Value->Prop} (hm:bget H m=some (.map wr (entS W) n)) (h:K (.bool (decide (a∈W)))) :
 xK H m (fun es=>keyK Tryz.prog T 3 (.int .i64 a) (wY Tryz.prog T H 3 (.int .i64 a) es 0 (fun r=>lkK false (.bool false) es r K))):=by
 refine rdMap_of hm (keyK3 (mfind_S (fun j hj=>?_) (fun hn=>?_)))
 ·refine⟨_,entS_at hj, ?_⟩
  rw[decide_eq_true (List.mem_of_getElem? hj)] at h
  exact h
 ·rw[decide_eq_false hn] at h
  exact h
theorem upd_S {H0 H:List Blk} {o:Nat->Prop} {L:List (Bool × Nat × Blk)} (hs:HS H0 o L H) (i:Nat) {m:Nat} {W:List Int} {a:Int} {K:List Blk->Prop} (hi:L[i]? = some (true,m,mpS W)) (hn:a ∉ W) (k : ∀ H',HS H0 o (L.set i (true,m,mpS (W ++ [a]))) H' -> K H') :
 zN H m (fun es clock=>keyK Tryz.prog T 3 (.int .i64 a) (wY Tryz.prog T H 3 (.int .i64 a) es 0 (fun r=>match r with
  | some p=>wR H m (.map true (es.modify p (fun e=>{ e with key := .int .i64 a,val := .bool true })) clock) K
  | none=>wR H m (.map true (es ++ [⟨.int .i64 a, .bool true,clock⟩]) (clock+1)) K))):=by
 refine wrMap_of (hs.get i hi) (keyK3 (mfind_S (fun j hj=>absurd (List.mem_of_getElem? hj) hn) (fun _=>?_)))
 refine yB (hs.lt i hi) (fun H' h1 h2 h3=>k H' ?_)
 rw[entS_snoc] at h2
 refine hs.set i hi h1 ?_ h3
 rw[h2];simp
def hostE (n:Int):List Int->List Int->Int
 | _,[]=>0
 | W,h::r=>if h<0\/n<=h then 3 else if h∈W then 5 else hostE n (W ++ [h]) r
def prE (m:Mc):Prop:=(m.st<0\/1000000<m.st)\/(m.hp<0\/1000000<m.hp)\/(m.wd<0\/1000000<m.wd)\/(m.jn<0\/1000000<m.jn)
instance (m:Mc):Decidable (prE m):=by unfold prE;infer_instance
def chkM (m:Mc) (procs:Int):Int:=match qp m.kd m.sd m.ho with
 | none=>2
 | some s=>if prE m then 3 else if (m.hs.length:Int)≠procs then 26 else hostE (s.hm*m.ho) [] m.hs
attribute [local irreducible] awp qo qA qN qI qG isCells qC qw qY ve qM roundEnd xK zN keyK wY zS xA
structure K1 where
 H:List Blk
 i:Nat
theorem Ld_at' {xs:List Int} {i:Nat} {K:Value->Prop} (hi:i<xs.length) (h:K (.int .i64 xs[i]!)):Ld (ints xs) (i*1) K:=⟨.int .i64 xs[i]!,by rw[Nat.mul_one,vF,List.getElem?_eq_getElem hi,getElem!_pos xs i hi];rfl,h⟩
theorem c39 {H:List Blk} {m:Mc} {b c:Nat} {procs:Int} {R:Value->List Blk->Prop} (g:Mr H m b c) (hsd:m.hs.length<=9223372036854775807) (h : ∀ H',HS H none' [] H' -> R (.int .i64 (chkM m procs)) H'):qo Tryz.prog 39 [mcV m b c, .int .i64 procs] H R:=by
 obtain ⟨w1,hc0⟩:=g.h
 obtain ⟨w0,hb0⟩:=g.s
 refine qj tok Tryz.call39 Tryz.func39 rfl Tryz.ntmps39 rfl (by simp) ?_
 refine vO (HS.start H none') (fun H1 b2 e1 l1 hs=>?_)
 refine qZ (fun _ hKs=>hKs _ _ ?_);clear hKs
 clear e1 l1
 repeat' (first|refine nX ?_|refine nY (fun K0 hK0=>?_)|refine bH ?_|refine bM ?_|refine iS hs ?_|refine rS hs ?_|refine eI _ (aI rfl ?_)|refine qi ?_|refine qh ?_|refine qf ?_|refine oJ ?_|refine nN hs (fun _ _ hs=>?_)|refine nS hs (fun _ _ hs=>?_)|refine sX hs (fun _ hs=>?_)|(refine hK0 _ _ ?_;clear hK0)|fail)
 have hb:=zq (qU hs) hb0
 (first | refine c22 hb (Nat.le_refl _) ?_ | refine (c22 hb (Nat.le_refl _) ?_).call)
 unfold chkM at h
 cases hsh:qp m.kd m.sd m.ho with
 | none =>
   rw[hsh] at h
   unfold sizeV
   repeat' (first|refine nX ?_|refine nY (fun K0 hK0=>?_)|refine bH ?_|refine bM ?_|refine iS hs ?_|refine rS hs ?_|refine eI _ (aI rfl ?_)|refine qi ?_|refine qh ?_|refine qf ?_|refine oJ ?_|refine nN hs (fun _ _ hs=>?_)|refine nS hs (fun _ _ hs=>?_)|refine sX hs (fun _ hs=>?_)|(refine dI (fun hc=>?_) (fun hc=>?_) <;> try (exfalso;omega))|(refine hK0 _ _ ?_;clear hK0)|fail)
   exact h _ (qU hs)
 | some s =>
   rw[hsh] at h
   unfold sizeV
   dsimp only at h
   have hhm:=(McOk.of (m := { m with hs := [] }) hsh (fun h hh=>by cases hh)).hm
   have hho:=(McOk.of (m := { m with hs := [] }) hsh (fun h hh=>by cases hh)).ho
   dsimp only at hho
   repeat' (first|refine nX ?_|refine nY (fun K0 hK0=>?_)|refine bH ?_|refine bM ?_|refine iS hs ?_|refine rS hs ?_|refine eI _ (aI rfl ?_)|refine qi ?_|refine qh ?_|refine qf ?_|refine oJ ?_|refine nN hs (fun _ _ hs=>?_)|refine nS hs (fun _ _ hs=>?_)|refine sX hs (fun _ hs=>?_)|(refine dI (fun hc=>?_) (fun hc=>?_) <;> try (exfalso;omega))|(refine hK0 _ _ ?_;clear hK0)|fail)
   refine c78 (fun H2 hn=>?_)
   have hs:=vP hs hn
   clear hn
   repeat' (first|refine nX ?_|refine nY (fun K0 hK0=>?_)|refine bH ?_|refine bM ?_|refine iS hs ?_|refine rS hs ?_|refine eI _ (aI rfl ?_)|refine qi ?_|refine qh ?_|refine qf ?_|refine oJ ?_|refine nN hs (fun _ _ hs=>?_)|refine nS hs (fun _ _ hs=>?_)|refine sX hs (fun _ hs=>?_)|(refine dI (fun hc=>?_) (fun hc=>?_) <;> try (exfalso;omega))|(refine hK0 _ _ ?_;clear hK0)|fail)
   -- the prices
   refine qJ (α := List Blk × Nat) tok (fun z=>HS H none' [(true,b2, .cells true 1 (mcC m b c))] z.1/\z.2<=4/\∀ j,j<z.2->0<=(prL m)[j]! /\ (prL m)[j]! <= 1000000)
    (fun z=>[(1, .int .i64 procs),(2, .pointer (some ⟨b2,0,none⟩)),(6, .int .i64 (s.hm*m.ho)),(23, .agg ⟨ints (prL m)⟩),(24, .int .i64 (z.2:Int))]) (fun z=>z.1) (fun z=>4-z.2)
    (_,0) ⟨hs,Nat.zero_le _,fun j hj=>absurd hj (Nat.not_lt_zero _)⟩ (Or.inl ⟨⟨rfl,rfl,rfl,rfl,rfl,trivial⟩,rfl⟩) ?_
   clear hs
   rintro ⟨H3,i⟩ ⟨hs,hi,hj⟩
   dsimp only at hs hi hj ⊢
   repeat' (first|refine nX ?_|refine nY (fun K0 hK0=>?_)|refine bH ?_|refine bM ?_|refine iS hs ?_|refine rS hs ?_|refine eI _ (aI rfl ?_)|refine qi ?_|refine qh ?_|refine qf ?_|refine oJ ?_|refine nN hs (fun _ _ hs=>?_)|refine nS hs (fun _ _ hs=>?_)|refine sX hs (fun _ hs=>?_)|(refine hK0 _ _ ?_;clear hK0)|fail)
   refine aI (fun hc=>?_) (fun hc=>?_)
   ·have hi4:i<4:=by simp at hc;omega
    clear hc
    repeat' (first|refine nX ?_|refine nY (fun K0 hK0=>?_)|refine bH ?_|refine bM ?_|refine iS hs ?_|refine rS hs ?_|refine eI _ (aI rfl ?_)|refine qi ?_|refine qh ?_|refine qf ?_|refine oJ ?_|refine nN hs (fun _ _ hs=>?_)|refine nS hs (fun _ _ hs=>?_)|refine sX hs (fun _ hs=>?_)|(refine hK0 _ _ ?_;clear hK0)|fail)
    refine eI i (aI ⟨rfl,hi4⟩ ?_)
    have hl:(prL m).length=4:=rfl
    refine Ld_at' (xs:=prL m) (by omega) ?_
    have pj : ∀ j:Nat,j<4->(prL m)[j]! < (0:Int)\/(1000000:Int)<(prL m)[j]! -> prE m:=fun j hj4 hj=>by
     obtain rfl | rfl | rfl | rfl:j=0\/j=1\/j=2\/j=3:=by omega
     ·exact .inl hj
     ·exact .inr (.inl hj)
     ·exact .inr (.inr (.inl hj))
     ·exact .inr (.inr (.inr hj))
    have pi:=pj i hi4
    generalize hp:(prL m)[i]! = p at pi ⊢
    clear pj
    by_cases hbad:p<0\/1000000<p
    ·have hv:=h
     rw[if_pos (pi hbad)] at hv
     clear h
     repeat' (first|refine nX ?_|refine nY (fun K0 hK0=>?_)|refine bH ?_|refine bM ?_|refine iS hs ?_|refine rS hs ?_|refine eI _ (aI rfl ?_)|refine qi ?_|refine qh ?_|refine qf ?_|refine oJ ?_|refine nN hs (fun _ _ hs=>?_)|refine nS hs (fun _ _ hs=>?_)|refine sX hs (fun _ hs=>?_)|(refine dI (fun hc=>?_) (fun hc=>?_) <;> try (exfalso;omega))|(refine hK0 _ _ ?_;clear hK0)|fail)
     all_goals first | exact hv _ (qU hs) | (exfalso;omega)
    ·skip
     repeat' (first|refine nX ?_|refine nY (fun K0 hK0=>?_)|refine bH ?_|refine bM ?_|refine iS hs ?_|refine rS hs ?_|refine eI _ (aI rfl ?_)|refine qi ?_|refine qh ?_|refine qf ?_|refine oJ ?_|refine nN hs (fun _ _ hs=>?_)|refine nS hs (fun _ _ hs=>?_)|refine sX hs (fun _ hs=>?_)|(refine dI (fun hc=>?_) (fun hc=>?_) <;> try (exfalso;omega))|(refine hK0 _ _ ?_;clear hK0)|fail)
     all_goals try (exfalso;omega)
     refine⟨(_,i+1),⟨hs,hi4,fun j hj2=>?_⟩,by dsimp only;omega,Or.inl ⟨⟨rfl,rfl,rfl,rfl,rfl,trivial⟩,rfl⟩⟩
     rcases Nat.lt_or_ge j i with h1 | h1
     ·exact hj j h1
     ·have:j=i:=by dsimp only at hj2;omega
      subst this
      rw[hp]
      omega
   ·have hi4:i=4:=by simp at hc;omega
    subst hi4
    clear hc
    have hnp : ¬ prE m:=by
     have h0:0<=m.st/\m.st<=1000000:=hj 0 (by decide)
     have h1:0<=m.hp/\m.hp<=1000000:=hj 1 (by decide)
     have h2:0<=m.wd/\m.wd<=1000000:=hj 2 (by decide)
     have h3:0<=m.jn/\m.jn<=1000000:=hj 3 (by decide)
     unfold prE
     omega
    rw[if_neg hnp] at h
    clear hj hi hnp
    by_cases hlen:(m.hs.length:Int)=procs
    ·rw[if_neg (fun e=>e hlen)] at h
     repeat' (first|refine nX ?_|refine nY (fun K0 hK0=>?_)|refine bH ?_|refine bM ?_|refine iS hs ?_|refine rS hs ?_|refine eI _ (aI rfl ?_)|refine qi ?_|refine qh ?_|refine qf ?_|refine oJ ?_|refine nN hs (fun _ _ hs=>?_)|refine nS hs (fun _ _ hs=>?_)|refine sX hs (fun _ hs=>?_)|(refine dI (fun hc=>?_) (fun hc=>?_) <;> try (exfalso;omega))|(refine hK0 _ _ ?_;clear hK0)|fail)
     all_goals try (exfalso;omega)
     rename_i mp H5
     refine qJ (α := K1) tok (fun z=>HS H none' [(true,mp,mpS (m.hs.take z.i)),(true,b2, .cells true 1 (mcC m b c))] z.H/\z.i<=m.hs.length/\hostE (s.hm*m.ho) [] m.hs=hostE (s.hm*m.ho) (m.hs.take z.i) (m.hs.drop z.i))
      (fun z=>[(2, .pointer (some ⟨b2,0,none⟩)),(6, .int .i64 (s.hm*m.ho)),(10, .map (some mp)),(41,sv c m.hs.length),(42, .int .i64 (m.hs.length:Int)),(43, .int .i64 (z.i:Int))]) (fun z=>z.H) (fun z=>m.hs.length-z.i)
      ⟨_,0⟩ ⟨hs,Nat.zero_le _,rfl⟩ (Or.inl ⟨⟨rfl,rfl,rfl,rfl,rfl,rfl,trivial⟩,rfl⟩) ?_
     clear hs
     rintro ⟨H6,i⟩ ⟨hs,hi,hE⟩
     dsimp only at hs hi hE ⊢
     have hcw:=zq (qU hs) hc0
     repeat' (first|refine nX ?_|refine nY (fun K0 hK0=>?_)|refine bH ?_|refine bM ?_|refine iS hs ?_|refine rS hs ?_|refine eI _ (aI rfl ?_)|refine qi ?_|refine qh ?_|refine qf ?_|refine oJ ?_|refine nN hs (fun _ _ hs=>?_)|refine nS hs (fun _ _ hs=>?_)|refine sX hs (fun _ hs=>?_)|(refine hK0 _ _ ?_;clear hK0)|fail)
     refine aI (fun hc=>?_) (fun hc=>?_)
     ·have hlt:i<m.hs.length:=by simp at hc;omega
      clear hc
      have hdr:m.hs.drop i=m.hs[i]! :: m.hs.drop (i+1):=by rw[getElem!_pos m.hs i hlt];exact List.drop_eq_getElem_cons hlt
      have htk:m.hs.take (i+1)=m.hs.take i ++ [m.hs[i]!]:=by rw[List.take_succ_eq_append_getElem hlt,getElem!_pos m.hs i hlt]
      rw[hdr,hostE,<- htk] at hE
      repeat' (first|refine nX ?_|refine nY (fun K0 hK0=>?_)|refine bH ?_|refine bM ?_|refine iS hs ?_|refine rS hs ?_|refine eI _ (aI rfl ?_)|refine qi ?_|refine qh ?_|refine qf ?_|refine oJ ?_|refine nN hs (fun _ _ hs=>?_)|refine nS hs (fun _ _ hs=>?_)|refine sX hs (fun _ hs=>?_)|(refine hK0 _ _ ?_;clear hK0)|fail)
      refine qg hcw ⟨i,rfl,hlt, ?_⟩
      repeat' (first|refine nX ?_|refine nY (fun K0 hK0=>?_)|refine bH ?_|refine bM ?_|refine iS hs ?_|refine rS hs ?_|refine eI _ (aI rfl ?_)|refine qi ?_|refine qh ?_|refine qf ?_|refine oJ ?_|refine nN hs (fun _ _ hs=>?_)|refine nS hs (fun _ _ hs=>?_)|refine sX hs (fun _ hs=>?_)|(refine hK0 _ _ ?_;clear hK0)|fail)
      refine qc hcw (Ld_at hlt ?_)
      generalize m.hs[i]! = x at hE htk ⊢
      by_cases hx:x<0\/s.hm*m.ho<=x
      ·rw[if_pos hx] at hE
       rw[hE] at h
       repeat' (first|refine nX ?_|refine nY (fun K0 hK0=>?_)|refine bH ?_|refine bM ?_|refine iS hs ?_|refine rS hs ?_|refine eI _ (aI rfl ?_)|refine qi ?_|refine qh ?_|refine qf ?_|refine oJ ?_|refine nN hs (fun _ _ hs=>?_)|refine nS hs (fun _ _ hs=>?_)|refine sX hs (fun _ hs=>?_)|(refine dI (fun hc=>?_) (fun hc=>?_) <;> try (exfalso;omega))|(refine hK0 _ _ ?_;clear hK0)|fail)
       all_goals first | exact h _ (qU hs) | (exfalso;omega)
      ·rw[if_neg hx] at hE
       repeat' (first|refine nX ?_|refine nY (fun K0 hK0=>?_)|refine bH ?_|refine bM ?_|refine iS hs ?_|refine rS hs ?_|refine eI _ (aI rfl ?_)|refine qi ?_|refine qh ?_|refine qf ?_|refine oJ ?_|refine nN hs (fun _ _ hs=>?_)|refine nS hs (fun _ _ hs=>?_)|refine sX hs (fun _ hs=>?_)|(refine dI (fun hc=>?_) (fun hc=>?_) <;> try (exfalso;omega))|(refine hK0 _ _ ?_;clear hK0)|fail)
       all_goals try (exfalso;omega)
       refine look_S (hs.get 0 rfl) ?_
       by_cases hin:x∈m.hs.take i
       ·rw[if_pos hin] at hE
        rw[hE] at h
        rw[decide_eq_true hin]
        repeat' (first|refine nX ?_|refine nY (fun K0 hK0=>?_)|refine bH ?_|refine bM ?_|refine iS hs ?_|refine rS hs ?_|refine eI _ (aI rfl ?_)|refine qi ?_|refine qh ?_|refine qf ?_|refine oJ ?_|refine nN hs (fun _ _ hs=>?_)|refine nS hs (fun _ _ hs=>?_)|refine sX hs (fun _ hs=>?_)|(refine dI (fun hc=>?_) (fun hc=>?_) <;> try (exfalso;omega))|(refine hK0 _ _ ?_;clear hK0)|fail)
        exact h _ (qU hs)
       ·rw[if_neg hin] at hE
        rw[decide_eq_false hin]
        repeat' (first|refine nX ?_|refine nY (fun K0 hK0=>?_)|refine bH ?_|refine bM ?_|refine iS hs ?_|refine rS hs ?_|refine eI _ (aI rfl ?_)|refine qi ?_|refine qh ?_|refine qf ?_|refine oJ ?_|refine nN hs (fun _ _ hs=>?_)|refine nS hs (fun _ _ hs=>?_)|refine sX hs (fun _ hs=>?_)|(refine dI (fun hc=>?_) (fun hc=>?_) <;> try (exfalso;omega))|(refine hK0 _ _ ?_;clear hK0)|fail)
        refine upd_S hs 0 rfl hin (fun H7 hs=>?_)
        rw[<- htk] at hs
        repeat' (first|refine nX ?_|refine nY (fun K0 hK0=>?_)|refine bH ?_|refine bM ?_|refine iS hs ?_|refine rS hs ?_|refine eI _ (aI rfl ?_)|refine qi ?_|refine qh ?_|refine qf ?_|refine oJ ?_|refine nN hs (fun _ _ hs=>?_)|refine nS hs (fun _ _ hs=>?_)|refine sX hs (fun _ hs=>?_)|(refine dI (fun hc=>?_) (fun hc=>?_) <;> try (exfalso;omega))|(refine hK0 _ _ ?_;clear hK0)|fail)
        exact⟨⟨_,i+1⟩,⟨hs,hlt,hE⟩,by dsimp only;omega,Or.inl ⟨⟨rfl,rfl,rfl,rfl,rfl,rfl,trivial⟩,rfl⟩⟩
     ·have hie:i=m.hs.length:=by simp at hc;omega
      subst hie
      rw[List.drop_length] at hE
      rw[hE] at h
      repeat' (first|refine nX ?_|refine nY (fun K0 hK0=>?_)|refine bH ?_|refine bM ?_|refine iS hs ?_|refine rS hs ?_|refine eI _ (aI rfl ?_)|refine qi ?_|refine qh ?_|refine qf ?_|refine oJ ?_|refine nN hs (fun _ _ hs=>?_)|refine nS hs (fun _ _ hs=>?_)|refine sX hs (fun _ hs=>?_)|(refine dI (fun hc=>?_) (fun hc=>?_) <;> try (exfalso;omega))|(refine hK0 _ _ ?_;clear hK0)|fail)
      exact h _ (qU hs)
    ·rw[if_pos hlen] at h
     repeat' (first|refine nX ?_|refine nY (fun K0 hK0=>?_)|refine bH ?_|refine bM ?_|refine iS hs ?_|refine rS hs ?_|refine eI _ (aI rfl ?_)|refine qi ?_|refine qh ?_|refine qf ?_|refine oJ ?_|refine nN hs (fun _ _ hs=>?_)|refine nS hs (fun _ _ hs=>?_)|refine sX hs (fun _ hs=>?_)|(refine dI (fun hc=>?_) (fun hc=>?_) <;> try (exfalso;omega))|(refine hK0 _ _ ?_;clear hK0)|fail)
     all_goals first | exact h _ (qU hs) | (exfalso;omega)
end Go.Af.Tryz
namespace Go.Af.Tryz
open Go Go.Proofs Go.Af.Pl Co Ne
open Go.Af.Coll (St)
set_option maxRecDepth 100000
set_option maxHeartbeats 4000000
attribute [local irreducible] awp qo qA qN qI qG isCells qC qw qY ve qM roundEnd xK zN keyK wY zS xA
theorem c36 {H:List Blk} {xs ys:List Int} {a b:Nat} {wa wb:Bool} {R:Value->List Blk->Prop} (ha:bget H a=some (.cells wa 1 (ints xs))) (hb:bget H b=some (.cells wb 1 (ints ys))) (hl:xs.length<=1000000) (h:R (.bool (decide (xs=ys))) H):qo Tryz.prog 36 [sv a xs.length,sv b ys.length] H R:=by
 refine qj tok Tryz.call36 Tryz.func36 rfl Tryz.ntmps36 rfl (by simp) ?_
 refine qZ (fun _ hKs=>hKs _ _ ?_);clear hKs
 have hs:=HS.start H none'
 by_cases hq:xs.length=ys.length
 ·skip
  repeat' (first|refine nX ?_|refine nY (fun K0 hK0=>?_)|refine bH ?_|refine bM ?_|refine iS hs ?_|refine rS hs ?_|refine eI _ (aI rfl ?_)|refine qi ?_|refine qh ?_|refine qf ?_|refine oJ ?_|refine nN hs (fun _ _ hs=>?_)|refine nS hs (fun _ _ hs=>?_)|refine sX hs (fun _ hs=>?_)|(refine dI (fun hc=>?_) (fun hc=>?_) <;> try (exfalso;omega))|(refine hK0 _ _ ?_;clear hK0)|fail)
  refine xG (α := Nat) tok (fun i=>i<=xs.length/\∀ j,j<i->xs[j]? = ys[j]?) (fun i=>[(0,sv a xs.length),(1,sv b ys.length),(5, .int .i64 i)]) (fun _=>H) (fun i=>xs.length-i)
   0 ⟨Nat.zero_le _,fun j hj=>absurd hj (by omega)⟩ ⟨⟨_,rfl, .rfl⟩,⟨_,rfl, .rfl⟩,⟨_,rfl, .rfl⟩,trivial⟩ WkH.rfl ?_
  rintro i ⟨hi,he⟩
  try dsimp only at hi he ⊢
  repeat' (first|refine nX ?_|refine nY (fun K0 hK0=>?_)|refine bH ?_|refine bM ?_|refine iS hs ?_|refine rS hs ?_|refine eI _ (aI rfl ?_)|refine qi ?_|refine qh ?_|refine qf ?_|refine oJ ?_|refine nN hs (fun _ _ hs=>?_)|refine nS hs (fun _ _ hs=>?_)|refine sX hs (fun _ hs=>?_)|(refine hK0 _ _ ?_;clear hK0)|fail)
  refine And.intro (fun hc=>?_) (fun hc=>?_)
  ·have hlt:i<xs.length:=by simp at hc;omega
   clear hc
   repeat' (first|refine nX ?_|refine nY (fun K0 hK0=>?_)|refine bH ?_|refine bM ?_|refine iS hs ?_|refine rS hs ?_|refine eI _ (aI rfl ?_)|refine qi ?_|refine qh ?_|refine qf ?_|refine oJ ?_|refine nN hs (fun _ _ hs=>?_)|refine nS hs (fun _ _ hs=>?_)|refine sX hs (fun _ hs=>?_)|(refine hK0 _ _ ?_;clear hK0)|fail)
   refine wC tok mx [0,0,3,7,0,0,48,112,255] [false,false,false,false,true,true,true,true,false] (.first 0 (.first 1 (.first 2 (.first 3 (.first 4 (.first 5 (.first 6 (.first 7 (.first 8 .done))))))))) (by kernel_rfl) ?_
   refine wK (fun K0 hK0=>?_)
   have hlt2:i<ys.length:=by omega
   repeat' (first|refine iS hs ?_|refine rS hs ?_|refine eI _ (aI rfl ?_)|refine eI 0 (aI (by decide) ?_)|refine eI 1 (aI (by decide) ?_)|refine eI 2 (aI (by decide) ?_)|refine eI 3 (aI (by decide) ?_)|refine qi ?_|refine qh ?_|refine qf ?_|refine oJ ?_|refine vO hs (fun _ _ _ _ hs=>?_)|refine xx hs (fun _ _ _ _ hs=>?_)|refine sS hs 0 (fun _ _ hs=>?_)|refine sS hs 1 (fun _ _ hs=>?_)|refine sS hs 2 (fun _ _ hs=>?_)|refine sS hs 3 (fun _ _ hs=>?_)|refine sS hs 4 (fun _ _ hs=>?_)|refine sS hs 5 (fun _ _ hs=>?_)|refine vK tok (hs.get 0 rfl) ?_|refine qP hs 0 rfl (fun _ hs=>?_)|refine vk hs 0 rfl (fun _ hs=>?_)|refine qW hs 0 rfl (by intro h;cases h) (fun _ hs=>?_)|refine vK tok (hs.get 1 rfl) ?_|refine qP hs 1 rfl (fun _ hs=>?_)|refine vk hs 1 rfl (fun _ hs=>?_)|refine qW hs 1 rfl (by intro h;cases h) (fun _ hs=>?_)|refine vK tok (hs.get 2 rfl) ?_|refine qP hs 2 rfl (fun _ hs=>?_)|refine vk hs 2 rfl (fun _ hs=>?_)|refine qW hs 2 rfl (by intro h;cases h) (fun _ hs=>?_)|refine vK tok (hs.get 3 rfl) ?_|refine qP hs 3 rfl (fun _ hs=>?_)|refine vk hs 3 rfl (fun _ hs=>?_)|refine qW hs 3 rfl (by intro h;cases h) (fun _ hs=>?_)|refine vK tok (hs.get 4 rfl) ?_|refine qP hs 4 rfl (fun _ hs=>?_)|refine vk hs 4 rfl (fun _ hs=>?_)|refine qW hs 4 rfl (by intro h;cases h) (fun _ hs=>?_)|refine vK tok (hs.get 5 rfl) ?_|refine qP hs 5 rfl (fun _ hs=>?_)|refine vk hs 5 rfl (fun _ hs=>?_)|refine qW hs 5 rfl (by intro h;cases h) (fun _ hs=>?_)|first|(refine qg ha ?_)|(refine qg hb ?_)|(refine qc ha ?_)|(refine qc hb ?_)|(refine Ld_at hlt ?_)|(refine Ld_at hlt2 ?_)|(refine And.intro ?_ ?_)|exact trivial|refine hK0 _ _ ?_|fail)
   ·intro hc
    have hne:xs[i]! ≠ ys[i]! := by
     intro e
     rw[e] at hc
     simp at hc
    rw[decide_eq_false (fun e=>hne (by rw[e]))] at h
    repeat' (first|refine nX ?_|refine nY (fun K0 hK0=>?_)|refine bH ?_|refine bM ?_|refine iS hs ?_|refine rS hs ?_|refine eI _ (aI rfl ?_)|refine qi ?_|refine qh ?_|refine qf ?_|refine oJ ?_|refine nN hs (fun _ _ hs=>?_)|refine nS hs (fun _ _ hs=>?_)|refine sX hs (fun _ hs=>?_)|(refine hK0 _ _ ?_;clear hK0)|fail)
    exact h
   ·intro hc
    have heq:xs[i]! = ys[i]! := by
     by_cases e:xs[i]! = ys[i]!
     ·exact e
     ·rw[decide_eq_false e] at hc
      simp at hc
    have he2 : ∀ j,j<i+1->xs[j]? = ys[j]? := fun j hj=>by
     by_cases hji:j=i
     ·subst hji
      rw[getElem!_pos xs j hlt,getElem!_pos ys j hlt2] at heq
      rw[List.getElem?_eq_getElem hlt,List.getElem?_eq_getElem hlt2,heq]
     ·exact he j (by omega)
    repeat' (first|refine nX ?_|refine nY (fun K0 hK0=>?_)|refine bH ?_|refine bM ?_|refine iS hs ?_|refine rS hs ?_|refine eI _ (aI rfl ?_)|refine qi ?_|refine qh ?_|refine qf ?_|refine oJ ?_|refine nN hs (fun _ _ hs=>?_)|refine nS hs (fun _ _ hs=>?_)|refine sX hs (fun _ hs=>?_)|(refine hK0 _ _ ?_;clear hK0)|fail)
    exact⟨i+1,⟨hlt,he2⟩,by omega,Or.inl ⟨⟨rfl,rfl,rfl,trivial⟩,rfl⟩⟩
  ·have hie:i=xs.length:=by simp at hc;omega
   subst hie
   have he2:xs=ys:=by
    apply List.ext_getElem?
    intro j
    by_cases hj:j<xs.length
    ·exact he j hj
    ·rw[List.getElem?_eq_none (by omega),List.getElem?_eq_none (by omega)]
   rw[decide_eq_true he2] at h
   repeat' (first|refine nX ?_|refine nY (fun K0 hK0=>?_)|refine bH ?_|refine bM ?_|refine iS hs ?_|refine rS hs ?_|refine eI _ (aI rfl ?_)|refine qi ?_|refine qh ?_|refine qf ?_|refine oJ ?_|refine nN hs (fun _ _ hs=>?_)|refine nS hs (fun _ _ hs=>?_)|refine sX hs (fun _ hs=>?_)|(refine hK0 _ _ ?_;clear hK0)|fail)
   exact h
 ·rw[decide_eq_false (fun e=>hq (by rw[e]))] at h
  repeat' (first|refine nX ?_|refine nY (fun K0 hK0=>?_)|refine bH ?_|refine bM ?_|refine iS hs ?_|refine rS hs ?_|refine eI _ (aI rfl ?_)|refine qi ?_|refine qh ?_|refine qf ?_|refine oJ ?_|refine nN hs (fun _ _ hs=>?_)|refine nS hs (fun _ _ hs=>?_)|refine sX hs (fun _ hs=>?_)|(refine dI (fun hc=>?_) (fun hc=>?_) <;> try (exfalso;omega))|(refine hK0 _ _ ?_;clear hK0)|fail)
  exact h
theorem c16 {H:List Blk} {m:Mc} {b c:Nat} {R:Value->List Blk->Prop} (h : ∀ H',HS H none' [] H' -> R (mcV m b c) H'):qo Tryz.prog 16 [mcV m b c] H R:=by
 refine qj tok Tryz.call16 Tryz.func16 rfl Tryz.ntmps16 rfl (by simp) ?_
 refine vO (HS.start H none') (fun H1 b1 e1 l1 hs=>?_)
 refine vO hs (fun H2 b2 e2 l2 hs=>?_)
 refine qZ (fun _ hKs=>hKs _ _ ?_);clear hKs
 clear e1 l1 e2 l2
 repeat' (first|refine nX ?_|refine nY (fun K0 hK0=>?_)|refine bH ?_|refine bM ?_|refine iS hs ?_|refine rS hs ?_|refine eI _ (aI rfl ?_)|refine qi ?_|refine qh ?_|refine qf ?_|refine oJ ?_|refine nN hs (fun _ _ hs=>?_)|refine nS hs (fun _ _ hs=>?_)|refine sX hs (fun _ hs=>?_)|(refine hK0 _ _ ?_;clear hK0)|fail)
 change resK T _ _ _ _
 refine resK_agg (by rfl) (by rfl) (hs.get 0 rfl) (by rfl) ?_
 refine⟨_,rfl,_,rfl,_,rfl,_,rfl,_,rfl,_,rfl,_,rfl,_,rfl, ?_⟩
 exact h _ (qU hs)
theorem c90 {H:List Blk} {n:Int} {R:Value->List Blk->Prop} (h:R (.bool (decide (0<=n/\n<=1000000))) H):qo Tryz.prog 90 [.int .i64 n] H R:=by
 refine qj tok Tryz.call90 Tryz.func90 rfl Tryz.ntmps90 rfl (by simp) ?_
 refine qZ (fun _ hKs=>hKs _ _ ?_);clear hKs
 have hs:=HS.start H none'
 by_cases h0:0<=n
 ·by_cases h1:n<=1000000
  ·rw[decide_eq_true ⟨h0,h1⟩] at h
   repeat' (first|refine nX ?_|refine nY (fun K0 hK0=>?_)|refine bH ?_|refine bM ?_|refine iS hs ?_|refine rS hs ?_|refine eI _ (aI rfl ?_)|refine qi ?_|refine qh ?_|refine qf ?_|refine oJ ?_|refine nN hs (fun _ _ hs=>?_)|refine nS hs (fun _ _ hs=>?_)|refine sX hs (fun _ hs=>?_)|(refine dI (fun hc=>?_) (fun hc=>?_) <;> try (exfalso;omega))|(refine hK0 _ _ ?_;clear hK0)|fail)
   all_goals first | exact h | (exfalso;omega) | (rw[decide_eq_true h1];exact h)
  ·rw[decide_eq_false (by omega)] at h
   repeat' (first|refine nX ?_|refine nY (fun K0 hK0=>?_)|refine bH ?_|refine bM ?_|refine iS hs ?_|refine rS hs ?_|refine eI _ (aI rfl ?_)|refine qi ?_|refine qh ?_|refine qf ?_|refine oJ ?_|refine nN hs (fun _ _ hs=>?_)|refine nS hs (fun _ _ hs=>?_)|refine sX hs (fun _ hs=>?_)|(refine dI (fun hc=>?_) (fun hc=>?_) <;> try (exfalso;omega))|(refine hK0 _ _ ?_;clear hK0)|fail)
   all_goals first | exact h | (exfalso;omega) | (rw[decide_eq_false h1];exact h)
 ·rw[decide_eq_false (by omega)] at h
  repeat' (first|refine nX ?_|refine nY (fun K0 hK0=>?_)|refine bH ?_|refine bM ?_|refine iS hs ?_|refine rS hs ?_|refine eI _ (aI rfl ?_)|refine qi ?_|refine qh ?_|refine qf ?_|refine oJ ?_|refine nN hs (fun _ _ hs=>?_)|refine nS hs (fun _ _ hs=>?_)|refine sX hs (fun _ hs=>?_)|(refine dI (fun hc=>?_) (fun hc=>?_) <;> try (exfalso;omega))|(refine hK0 _ _ ?_;clear hK0)|fail)
  all_goals first | exact h | (exfalso;omega)
theorem c40 {H:List Blk} {m:Mc} {b c:Nat} {procs:Int} {R:Value->List Blk->Prop} (g:Mr H m b c) (hsd:m.hs.length<=9223372036854775807) (h : ∀ H',HS H none' [] H' -> R (.int .i64 (chkM m procs)) H'):qo Tryz.prog 40 [mcV m b c, .int .i64 procs] H R:=by
 obtain ⟨w1,hc0⟩:=g.h
 obtain ⟨w0,hb0⟩:=g.s
 refine qj tok Tryz.call40 Tryz.func40 rfl Tryz.ntmps40 rfl (by simp) ?_
 refine vO (HS.start H none') (fun H1 b2 e1 l1 hs=>?_)
 refine qZ (fun _ hKs=>hKs _ _ ?_);clear hKs
 clear e1 l1
 repeat' (first|refine nX ?_|refine nY (fun K0 hK0=>?_)|refine bH ?_|refine bM ?_|refine iS hs ?_|refine rS hs ?_|refine eI _ (aI rfl ?_)|refine qi ?_|refine qh ?_|refine qf ?_|refine oJ ?_|refine nN hs (fun _ _ hs=>?_)|refine nS hs (fun _ _ hs=>?_)|refine sX hs (fun _ hs=>?_)|(refine hK0 _ _ ?_;clear hK0)|fail)
 have hb:=zq (qU hs) hb0
 (first | refine Ne.c23 hb (Nat.le_refl _) ?_ | refine (Ne.c23 hb (Nat.le_refl _) ?_).call)
 unfold chkM at h
 cases hsh:qp m.kd m.sd m.ho with
 | none =>
   rw[hsh] at h
   unfold sizeV
   repeat' (first|refine nX ?_|refine nY (fun K0 hK0=>?_)|refine bH ?_|refine bM ?_|refine iS hs ?_|refine rS hs ?_|refine eI _ (aI rfl ?_)|refine qi ?_|refine qh ?_|refine qf ?_|refine oJ ?_|refine nN hs (fun _ _ hs=>?_)|refine nS hs (fun _ _ hs=>?_)|refine sX hs (fun _ hs=>?_)|(refine dI (fun hc=>?_) (fun hc=>?_) <;> try (exfalso;omega))|(refine hK0 _ _ ?_;clear hK0)|fail)
   exact h _ (qU hs)
 | some s =>
   rw[hsh] at h
   unfold sizeV
   dsimp only at h
   repeat' (first|refine nX ?_|refine nY (fun K0 hK0=>?_)|refine bH ?_|refine bM ?_|refine iS hs ?_|refine rS hs ?_|refine eI _ (aI rfl ?_)|refine qi ?_|refine qh ?_|refine qf ?_|refine oJ ?_|refine nN hs (fun _ _ hs=>?_)|refine nS hs (fun _ _ hs=>?_)|refine sX hs (fun _ hs=>?_)|(refine dI (fun hc=>?_) (fun hc=>?_) <;> try (exfalso;omega))|(refine hK0 _ _ ?_;clear hK0)|fail)
   (first | refine c90 ?_ | refine (c90 ?_).call)
   by_cases p1:0<=m.st/\m.st<=1000000
   rotate_left
   ·rw[decide_eq_false p1]
    rw[if_pos (by unfold prE;omega)] at h
    repeat' (first|refine nX ?_|refine nY (fun K0 hK0=>?_)|refine bH ?_|refine bM ?_|refine iS hs ?_|refine rS hs ?_|refine eI _ (aI rfl ?_)|refine qi ?_|refine qh ?_|refine qf ?_|refine oJ ?_|refine nN hs (fun _ _ hs=>?_)|refine nS hs (fun _ _ hs=>?_)|refine sX hs (fun _ hs=>?_)|(refine dI (fun hc=>?_) (fun hc=>?_) <;> try (exfalso;omega))|(refine hK0 _ _ ?_;clear hK0)|fail)
    exact h _ (qU hs)
   rw[decide_eq_true p1]
   repeat' (first|refine nX ?_|refine nY (fun K0 hK0=>?_)|refine bH ?_|refine bM ?_|refine iS hs ?_|refine rS hs ?_|refine eI _ (aI rfl ?_)|refine qi ?_|refine qh ?_|refine qf ?_|refine oJ ?_|refine nN hs (fun _ _ hs=>?_)|refine nS hs (fun _ _ hs=>?_)|refine sX hs (fun _ hs=>?_)|(refine dI (fun hc=>?_) (fun hc=>?_) <;> try (exfalso;omega))|(refine hK0 _ _ ?_;clear hK0)|fail)
   (first | refine c90 ?_ | refine (c90 ?_).call)
   by_cases p2:0<=m.hp/\m.hp<=1000000
   rotate_left
   ·rw[decide_eq_false p2]
    rw[if_pos (by unfold prE;omega)] at h
    repeat' (first|refine nX ?_|refine nY (fun K0 hK0=>?_)|refine bH ?_|refine bM ?_|refine iS hs ?_|refine rS hs ?_|refine eI _ (aI rfl ?_)|refine qi ?_|refine qh ?_|refine qf ?_|refine oJ ?_|refine nN hs (fun _ _ hs=>?_)|refine nS hs (fun _ _ hs=>?_)|refine sX hs (fun _ hs=>?_)|(refine dI (fun hc=>?_) (fun hc=>?_) <;> try (exfalso;omega))|(refine hK0 _ _ ?_;clear hK0)|fail)
    exact h _ (qU hs)
   rw[decide_eq_true p2]
   repeat' (first|refine nX ?_|refine nY (fun K0 hK0=>?_)|refine bH ?_|refine bM ?_|refine iS hs ?_|refine rS hs ?_|refine eI _ (aI rfl ?_)|refine qi ?_|refine qh ?_|refine qf ?_|refine oJ ?_|refine nN hs (fun _ _ hs=>?_)|refine nS hs (fun _ _ hs=>?_)|refine sX hs (fun _ hs=>?_)|(refine dI (fun hc=>?_) (fun hc=>?_) <;> try (exfalso;omega))|(refine hK0 _ _ ?_;clear hK0)|fail)
   (first | refine c90 ?_ | refine (c90 ?_).call)
   by_cases p3:0<=m.wd/\m.wd<=1000000
   rotate_left
   ·rw[decide_eq_false p3]
    rw[if_pos (by unfold prE;omega)] at h
    repeat' (first|refine nX ?_|refine nY (fun K0 hK0=>?_)|refine bH ?_|refine bM ?_|refine iS hs ?_|refine rS hs ?_|refine eI _ (aI rfl ?_)|refine qi ?_|refine qh ?_|refine qf ?_|refine oJ ?_|refine nN hs (fun _ _ hs=>?_)|refine nS hs (fun _ _ hs=>?_)|refine sX hs (fun _ hs=>?_)|(refine dI (fun hc=>?_) (fun hc=>?_) <;> try (exfalso;omega))|(refine hK0 _ _ ?_;clear hK0)|fail)
    exact h _ (qU hs)
   rw[decide_eq_true p3]
   repeat' (first|refine nX ?_|refine nY (fun K0 hK0=>?_)|refine bH ?_|refine bM ?_|refine iS hs ?_|refine rS hs ?_|refine eI _ (aI rfl ?_)|refine qi ?_|refine qh ?_|refine qf ?_|refine oJ ?_|refine nN hs (fun _ _ hs=>?_)|refine nS hs (fun _ _ hs=>?_)|refine sX hs (fun _ hs=>?_)|(refine dI (fun hc=>?_) (fun hc=>?_) <;> try (exfalso;omega))|(refine hK0 _ _ ?_;clear hK0)|fail)
   (first | refine c90 ?_ | refine (c90 ?_).call)
   by_cases p4:0<=m.jn/\m.jn<=1000000
   rotate_left
   ·rw[decide_eq_false p4]
    rw[if_pos (by unfold prE;omega)] at h
    repeat' (first|refine nX ?_|refine nY (fun K0 hK0=>?_)|refine bH ?_|refine bM ?_|refine iS hs ?_|refine rS hs ?_|refine eI _ (aI rfl ?_)|refine qi ?_|refine qh ?_|refine qf ?_|refine oJ ?_|refine nN hs (fun _ _ hs=>?_)|refine nS hs (fun _ _ hs=>?_)|refine sX hs (fun _ hs=>?_)|(refine dI (fun hc=>?_) (fun hc=>?_) <;> try (exfalso;omega))|(refine hK0 _ _ ?_;clear hK0)|fail)
    exact h _ (qU hs)
   rw[decide_eq_true p4]
   rw[if_neg (by unfold prE;omega)] at h
   repeat' (first|refine nX ?_|refine nY (fun K0 hK0=>?_)|refine bH ?_|refine bM ?_|refine iS hs ?_|refine rS hs ?_|refine eI _ (aI rfl ?_)|refine qi ?_|refine qh ?_|refine qf ?_|refine oJ ?_|refine nN hs (fun _ _ hs=>?_)|refine nS hs (fun _ _ hs=>?_)|refine sX hs (fun _ hs=>?_)|(refine hK0 _ _ ?_;clear hK0)|fail)
   by_cases hlen:(m.hs.length:Int)=procs
   rotate_left
   ·rw[if_pos hlen] at h
    repeat' (first|refine nX ?_|refine nY (fun K0 hK0=>?_)|refine bH ?_|refine bM ?_|refine iS hs ?_|refine rS hs ?_|refine eI _ (aI rfl ?_)|refine qi ?_|refine qh ?_|refine qf ?_|refine oJ ?_|refine nN hs (fun _ _ hs=>?_)|refine nS hs (fun _ _ hs=>?_)|refine sX hs (fun _ hs=>?_)|(refine dI (fun hc=>?_) (fun hc=>?_) <;> try (exfalso;omega))|(refine hK0 _ _ ?_;clear hK0)|fail)
    all_goals first | exact h _ (qU hs) | (exfalso;omega)
   rw[if_neg (fun e=>e hlen)] at h
   repeat' (first|refine nX ?_|refine nY (fun K0 hK0=>?_)|refine bH ?_|refine bM ?_|refine iS hs ?_|refine rS hs ?_|refine eI _ (aI rfl ?_)|refine qi ?_|refine qh ?_|refine qf ?_|refine oJ ?_|refine nN hs (fun _ _ hs=>?_)|refine nS hs (fun _ _ hs=>?_)|refine sX hs (fun _ hs=>?_)|(refine dI (fun hc=>?_) (fun hc=>?_) <;> try (exfalso;omega))|(refine hK0 _ _ ?_;clear hK0)|fail)
   all_goals try (exfalso;omega)
   refine qJ (α := K1) tok (fun z=>HS H none' [(true,b2, .cells true 1 (mcC m b c))] z.H/\z.i<=m.hs.length/\hostE (s.hm*m.ho) [] m.hs=hostE (s.hm*m.ho) (m.hs.take z.i) (m.hs.drop z.i))
    (fun z=>[(2, .pointer (some ⟨b2,0,none⟩)),(6, .int .i64 (s.hm*m.ho)),(8, .int .i64 (z.i:Int))]) (fun z=>z.H) (fun z=>m.hs.length-z.i)
    ⟨_,0⟩ ⟨hs,Nat.zero_le _,rfl⟩ (Or.inl ⟨⟨rfl,rfl,rfl,trivial⟩,rfl⟩) ?_
   clear hs
   rintro ⟨H6,i⟩ ⟨hs,hi,hE⟩
   dsimp only at hs hi hE ⊢
   have hcw:=zq (qU hs) hc0
   repeat' (first|refine nX ?_|refine nY (fun K0 hK0=>?_)|refine bH ?_|refine bM ?_|refine iS hs ?_|refine rS hs ?_|refine eI _ (aI rfl ?_)|refine qi ?_|refine qh ?_|refine qf ?_|refine oJ ?_|refine nN hs (fun _ _ hs=>?_)|refine nS hs (fun _ _ hs=>?_)|refine sX hs (fun _ hs=>?_)|(refine hK0 _ _ ?_;clear hK0)|fail)
   refine aI (fun hc=>?_) (fun hc=>?_)
   ·have hlt:i<m.hs.length:=by simp at hc;omega
    clear hc
    have hdr:m.hs.drop i=m.hs[i]! :: m.hs.drop (i+1):=by rw[getElem!_pos m.hs i hlt];exact List.drop_eq_getElem_cons hlt
    have htk:m.hs.take (i+1)=m.hs.take i ++ [m.hs[i]!]:=by rw[List.take_succ_eq_append_getElem hlt,getElem!_pos m.hs i hlt]
    rw[hdr,hostE,<- htk] at hE
    repeat' (first|refine nX ?_|refine nY (fun K0 hK0=>?_)|refine bH ?_|refine bM ?_|refine iS hs ?_|refine rS hs ?_|refine eI _ (aI rfl ?_)|refine qi ?_|refine qh ?_|refine qf ?_|refine oJ ?_|refine nN hs (fun _ _ hs=>?_)|refine nS hs (fun _ _ hs=>?_)|refine sX hs (fun _ hs=>?_)|(refine hK0 _ _ ?_;clear hK0)|fail)
    refine qg hcw ⟨i,rfl,hlt, ?_⟩
    repeat' (first|refine nX ?_|refine nY (fun K0 hK0=>?_)|refine bH ?_|refine bM ?_|refine iS hs ?_|refine rS hs ?_|refine eI _ (aI rfl ?_)|refine qi ?_|refine qh ?_|refine qf ?_|refine oJ ?_|refine nN hs (fun _ _ hs=>?_)|refine nS hs (fun _ _ hs=>?_)|refine sX hs (fun _ hs=>?_)|(refine hK0 _ _ ?_;clear hK0)|fail)
    refine qc hcw (Ld_at hlt ?_)
    by_cases hx0:m.hs[i]! < 0
    ·rw[if_pos (.inl hx0)] at hE
     rw[hE] at h
     repeat' (first|refine nX ?_|refine nY (fun K0 hK0=>?_)|refine bH ?_|refine bM ?_|refine iS hs ?_|refine rS hs ?_|refine eI _ (aI rfl ?_)|refine qi ?_|refine qh ?_|refine qf ?_|refine oJ ?_|refine nN hs (fun _ _ hs=>?_)|refine nS hs (fun _ _ hs=>?_)|refine sX hs (fun _ hs=>?_)|(refine dI (fun hc=>?_) (fun hc=>?_) <;> try (exfalso;omega))|(refine hK0 _ _ ?_;clear hK0)|fail)
     all_goals first | exact h _ (qU hs) | (exfalso;omega)
    repeat' (first|refine nX ?_|refine nY (fun K0 hK0=>?_)|refine bH ?_|refine bM ?_|refine iS hs ?_|refine rS hs ?_|refine eI _ (aI rfl ?_)|refine qi ?_|refine qh ?_|refine qf ?_|refine oJ ?_|refine nN hs (fun _ _ hs=>?_)|refine nS hs (fun _ _ hs=>?_)|refine sX hs (fun _ hs=>?_)|(refine dI (fun hc=>?_) (fun hc=>?_) <;> try (exfalso;omega))|(refine hK0 _ _ ?_;clear hK0)|fail)
    all_goals try (exfalso;omega)
    refine qg hcw ⟨i,rfl,hlt, ?_⟩
    repeat' (first|refine nX ?_|refine nY (fun K0 hK0=>?_)|refine bH ?_|refine bM ?_|refine iS hs ?_|refine rS hs ?_|refine eI _ (aI rfl ?_)|refine qi ?_|refine qh ?_|refine qf ?_|refine oJ ?_|refine nN hs (fun _ _ hs=>?_)|refine nS hs (fun _ _ hs=>?_)|refine sX hs (fun _ hs=>?_)|(refine hK0 _ _ ?_;clear hK0)|fail)
    refine qc hcw (Ld_at hlt ?_)
    by_cases hx:s.hm*m.ho<=m.hs[i]!
    ·rw[if_pos (.inr hx)] at hE
     rw[hE] at h
     repeat' (first|refine nX ?_|refine nY (fun K0 hK0=>?_)|refine bH ?_|refine bM ?_|refine iS hs ?_|refine rS hs ?_|refine eI _ (aI rfl ?_)|refine qi ?_|refine qh ?_|refine qf ?_|refine oJ ?_|refine nN hs (fun _ _ hs=>?_)|refine nS hs (fun _ _ hs=>?_)|refine sX hs (fun _ hs=>?_)|(refine dI (fun hc=>?_) (fun hc=>?_) <;> try (exfalso;omega))|(refine hK0 _ _ ?_;clear hK0)|fail)
     all_goals first | exact h _ (qU hs) | (exfalso;omega)
    rw[if_neg (by omega)] at hE
    repeat' (first|refine nX ?_|refine nY (fun K0 hK0=>?_)|refine bH ?_|refine bM ?_|refine iS hs ?_|refine rS hs ?_|refine eI _ (aI rfl ?_)|refine qi ?_|refine qh ?_|refine qf ?_|refine oJ ?_|refine nN hs (fun _ _ hs=>?_)|refine nS hs (fun _ _ hs=>?_)|refine sX hs (fun _ hs=>?_)|(refine dI (fun hc=>?_) (fun hc=>?_) <;> try (exfalso;omega))|(refine hK0 _ _ ?_;clear hK0)|fail)
    all_goals try (exfalso;omega)
    refine qJ (α := K1) tok (fun z=>HS H none' [(true,b2, .cells true 1 (mcC m b c))] z.H/\z.i<=i/\m.hs[i]! ∉ m.hs.take z.i)
     (fun z=>[(2, .pointer (some ⟨b2,0,none⟩)),(6, .int .i64 (s.hm*m.ho)),(8, .int .i64 (i:Int)),(9, .int .i64 (z.i:Int))]) (fun z=>z.H) (fun z=>i-z.i)
     ⟨_,0⟩ ⟨hs,Nat.zero_le _,by simp⟩ (Or.inl ⟨⟨rfl,rfl,rfl,rfl,trivial⟩,rfl⟩) ?_
    clear hs hcw
    rintro ⟨H7,k⟩ ⟨hs,hk,hN⟩
    dsimp only at hs hk hN ⊢
    have hcw:=zq (qU hs) hc0
    repeat' (first|refine nX ?_|refine nY (fun K0 hK0=>?_)|refine bH ?_|refine bM ?_|refine iS hs ?_|refine rS hs ?_|refine eI _ (aI rfl ?_)|refine qi ?_|refine qh ?_|refine qf ?_|refine oJ ?_|refine nN hs (fun _ _ hs=>?_)|refine nS hs (fun _ _ hs=>?_)|refine sX hs (fun _ hs=>?_)|(refine hK0 _ _ ?_;clear hK0)|fail)
    refine aI (fun hc=>?_) (fun hc=>?_)
    ·have hlt2:k<i:=by simp at hc;omega
     have hlt3:k<m.hs.length:=by omega
     clear hc
     have htk2:m.hs.take (k+1)=m.hs.take k ++ [m.hs[k]!]:=by rw[List.take_succ_eq_append_getElem hlt3,getElem!_pos m.hs k hlt3]
     repeat' (first|refine nX ?_|refine nY (fun K0 hK0=>?_)|refine bH ?_|refine bM ?_|refine iS hs ?_|refine rS hs ?_|refine eI _ (aI rfl ?_)|refine qi ?_|refine qh ?_|refine qf ?_|refine oJ ?_|refine nN hs (fun _ _ hs=>?_)|refine nS hs (fun _ _ hs=>?_)|refine sX hs (fun _ hs=>?_)|(refine hK0 _ _ ?_;clear hK0)|fail)
     refine wC tok mx [0,1,0,7,15,0,32,0,224,480,1023] [false,false,true,false,false,true,true,true,true,true,false] (.first 0 (.first 1 (.first 2 (.first 3 (.first 4 (.first 5 (.first 6 (.first 7 (.first 8 (.first 9 (.first 10 .done))))))))))) (by kernel_rfl) ?_
     refine wK (fun K0 hK0=>?_)
     repeat' (first|refine iS hs ?_|refine rS hs ?_|refine eI _ (aI rfl ?_)|refine eI 0 (aI (by decide) ?_)|refine eI 1 (aI (by decide) ?_)|refine eI 2 (aI (by decide) ?_)|refine eI 3 (aI (by decide) ?_)|refine qi ?_|refine qh ?_|refine qf ?_|refine oJ ?_|refine vO hs (fun _ _ _ _ hs=>?_)|refine xx hs (fun _ _ _ _ hs=>?_)|refine sS hs 0 (fun _ _ hs=>?_)|refine sS hs 1 (fun _ _ hs=>?_)|refine sS hs 2 (fun _ _ hs=>?_)|refine sS hs 3 (fun _ _ hs=>?_)|refine sS hs 4 (fun _ _ hs=>?_)|refine sS hs 5 (fun _ _ hs=>?_)|refine vK tok (hs.get 0 rfl) ?_|refine qP hs 0 rfl (fun _ hs=>?_)|refine vk hs 0 rfl (fun _ hs=>?_)|refine qW hs 0 rfl (by intro h;cases h) (fun _ hs=>?_)|refine vK tok (hs.get 1 rfl) ?_|refine qP hs 1 rfl (fun _ hs=>?_)|refine vk hs 1 rfl (fun _ hs=>?_)|refine qW hs 1 rfl (by intro h;cases h) (fun _ hs=>?_)|refine vK tok (hs.get 2 rfl) ?_|refine qP hs 2 rfl (fun _ hs=>?_)|refine vk hs 2 rfl (fun _ hs=>?_)|refine qW hs 2 rfl (by intro h;cases h) (fun _ hs=>?_)|refine vK tok (hs.get 3 rfl) ?_|refine qP hs 3 rfl (fun _ hs=>?_)|refine vk hs 3 rfl (fun _ hs=>?_)|refine qW hs 3 rfl (by intro h;cases h) (fun _ hs=>?_)|refine vK tok (hs.get 4 rfl) ?_|refine qP hs 4 rfl (fun _ hs=>?_)|refine vk hs 4 rfl (fun _ hs=>?_)|refine qW hs 4 rfl (by intro h;cases h) (fun _ hs=>?_)|refine vK tok (hs.get 5 rfl) ?_|refine qP hs 5 rfl (fun _ hs=>?_)|refine vk hs 5 rfl (fun _ hs=>?_)|refine qW hs 5 rfl (by intro h;cases h) (fun _ hs=>?_)|first|(refine qg hcw ?_)|(refine qc hcw ?_)|(refine Ld_at hlt3 ?_)|(refine Ld_at hlt ?_)|(refine And.intro ?_ ?_)|exact trivial|refine hK0 _ _ ?_|fail)
     ·intro hc
      have he:m.hs[k]! = m.hs[i]! := by simpa using hc
      have hin:m.hs[i]! ∈ m.hs.take i:=by
       rw[<- he]
       rw[getElem!_pos m.hs k hlt3]
       exact List.mem_take_iff_getElem.2 ⟨k,by omega,rfl⟩
      rw[if_pos hin] at hE
      rw[hE] at h
      repeat' (first|refine nX ?_|refine nY (fun K0 hK0=>?_)|refine bH ?_|refine bM ?_|refine iS hs ?_|refine rS hs ?_|refine eI _ (aI rfl ?_)|refine qi ?_|refine qh ?_|refine qf ?_|refine oJ ?_|refine nN hs (fun _ _ hs=>?_)|refine nS hs (fun _ _ hs=>?_)|refine sX hs (fun _ hs=>?_)|(refine hK0 _ _ ?_;clear hK0)|fail)
      exact h _ (qU hs)
     ·intro hc
      have he:m.hs[k]! ≠ m.hs[i]! := by
       intro e
       rw[e] at hc
       simp at hc
      repeat' (first|refine nX ?_|refine nY (fun K0 hK0=>?_)|refine bH ?_|refine bM ?_|refine iS hs ?_|refine rS hs ?_|refine eI _ (aI rfl ?_)|refine qi ?_|refine qh ?_|refine qf ?_|refine oJ ?_|refine nN hs (fun _ _ hs=>?_)|refine nS hs (fun _ _ hs=>?_)|refine sX hs (fun _ hs=>?_)|(refine hK0 _ _ ?_;clear hK0)|fail)
      refine⟨⟨_,k+1⟩,⟨hs,hlt2, ?_⟩,by dsimp only;omega,Or.inl ⟨⟨rfl,rfl,rfl,rfl,trivial⟩,rfl⟩⟩
      dsimp only
      rw[htk2]
      simp only[List.mem_append,List.mem_singleton,not_or]
      exact⟨hN,fun e=>he e.symm⟩
    ·have hki:k=i:=by simp at hc;omega
     subst hki
     rw[if_neg hN] at hE
     repeat' (first|refine nX ?_|refine nY (fun K0 hK0=>?_)|refine bH ?_|refine bM ?_|refine iS hs ?_|refine rS hs ?_|refine eI _ (aI rfl ?_)|refine qi ?_|refine qh ?_|refine qf ?_|refine oJ ?_|refine nN hs (fun _ _ hs=>?_)|refine nS hs (fun _ _ hs=>?_)|refine sX hs (fun _ hs=>?_)|(refine hK0 _ _ ?_;clear hK0)|fail)
     exact⟨⟨_,k+1⟩,⟨hs,hlt,hE⟩,by dsimp only;omega,Or.inl ⟨⟨rfl,rfl,rfl,trivial⟩,rfl⟩⟩
   ·have hie:i=m.hs.length:=by simp at hc;omega
    subst hie
    rw[List.drop_length] at hE
    rw[hE] at h
    repeat' (first|refine nX ?_|refine nY (fun K0 hK0=>?_)|refine bH ?_|refine bM ?_|refine iS hs ?_|refine rS hs ?_|refine eI _ (aI rfl ?_)|refine qi ?_|refine qh ?_|refine qf ?_|refine oJ ?_|refine nN hs (fun _ _ hs=>?_)|refine nS hs (fun _ _ hs=>?_)|refine sX hs (fun _ hs=>?_)|(refine dI (fun hc=>?_) (fun hc=>?_) <;> try (exfalso;omega))|(refine hK0 _ _ ?_;clear hK0)|fail)
    exact h _ (qU hs)
end Go.Af.Tryz
