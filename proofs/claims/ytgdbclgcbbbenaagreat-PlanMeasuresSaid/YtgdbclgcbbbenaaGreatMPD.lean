/-
  Prices, totals, and the error of a machine.
  The error of a machine (plan.Check).
  Two rows are equal (equal); the error of a machine, as the reference has it (armadaref10.Check).
-/
import Derived.Test.YtgdbclgcbbbenaaGreatMPB
import Derived.Test.YtgdbclgcbbbenaaGreatMCA
set_option linter.all false
namespace Go.Af.Tryz
open Go Go.Proofs Go.Af.Pl Co Ne
open Go.Af.Coll (St)
set_option maxRecDepth 100000
set_option maxHeartbeats 4000000
attribute [local irreducible] awp qj qm qP qH qJ isCells qA qx qZ qX qI roundEnd wZ wO keyK vZ wP wW

def prL (m:Mc):List Int := [m.st,m.hp,m.wd,m.jn]
theorem c78 {H:List Blk} {m:Mc} {b c:Nat} {R:Value->List Blk->Prop} (h : ∀ H',HS H none' [] H' -> R (.agg ⟨ints (prL m)⟩) H'):qj Tryz.prog 78 [mcV m b c] H R:=by
 refine qc tok Tryz.call78 Tryz.func78 rfl Tryz.ntmps78 rfl (by simp) ?_
 have hs:=HS.start H none'
 repeat' (first|refine nX ?_|refine nY (fun K0 hK0=>?_)|refine zSt hs ?_|refine nN hs (fun _ _ hs=>?_)|refine nS hs (fun _ _ hs=>?_)|refine sX hs (fun _ hs=>?_)|(refine hK0 _ _ ?_;clear hK0)|fail)
 change resK T _ _ _ _
 refine zl (by rfl) (by rfl) (hs.get 0 rfl) (by rfl) ?_
 refine⟨_,rfl,_,rfl,_,rfl,_,rfl, ?_⟩
 exact h _ (qf hs)
theorem l78 (m:Mc):qj Tryz.prog 78 [mcV m 0 1] [ro m.sd,ro m.hs] (fun v H=>v = .agg ⟨ints (prL m)⟩/\H = [ro m.sd,ro m.hs]):=by
 refine qy (c78 (fun H' hs=>?_))
 have e0:=vK hs (b:=0) (B:=ro m.sd) rfl
 have e1:=vK hs (b:=1) (B:=ro m.hs) rfl
 refine⟨[(0,0),(1,0)],_,[ro m.sd,ro m.hs],by simp, ?_,⟨⟨_,e0,BRen.ints _ _ _⟩,⟨_,e1,BRen.ints _ _ _⟩,trivial⟩,rfl,VRen.plain rfl,rfl,rfl⟩
 intro i hi
 match i,hi with
 | 0,_=>rfl
 | 1,_=>rfl
theorem c78x {H:List Blk} {m:Mc} {b c:Nat} {R:Value->List Blk->Prop} (g:Mr H m b c) (h:R (.agg ⟨ints (prL m)⟩) H):qm Tryz.prog 78 [mcV m b c] H R:=by
 obtain ⟨w,hb⟩:=g.s
 obtain ⟨w2,hc⟩:=g.h
 refine vF (l78 m) [(b,0),(c,0)] rfl ?_ ⟨⟨_,hb,BRen.seg fun i x hx=>by rw[Nat.zero_add,qQ,hx];rfl⟩,⟨_,hc,BRen.seg fun i x hx=>by rw[Nat.zero_add,qQ,hx];rfl⟩,trivial⟩ rfl h
 exact .cons (.agg (.cons (.int _ _) (.cons (VRen.slice rfl rfl (Nat.le_refl _)) (.cons (.int _ _) (.cons (VRen.slice rfl rfl (Nat.le_refl _)) (.cons (.int _ _) (.cons (.int _ _) (.cons (.int _ _) (.cons (.int _ _) .nil))))))))) .nil
def tmF (a b:List Int):Int:=a[0]! * b[0]! + a[1]! * b[1]! + a[2]! * b[2]! + a[3]! * b[3]!
abbrev wC (x:Int):Prop:=0<=x/\x<=1000000000000000000
theorem c77 {H:List Blk} {a0 a1 a2 a3 b0 b1 b2 b3:Int} {R:Value->List Blk->Prop} (h0:wC (a0*b0)) (h1:wC (a1*b1)) (h2:wC (a2*b2)) (h3:wC (a3*b3)) (h : ∀ H',HS H none' [] H' -> R (.int .i64 (tmF [a0,a1,a2,a3] [b0,b1,b2,b3])) H') :
 qj Tryz.prog 77 [.agg ⟨ints [a0,a1,a2,a3]⟩, .agg ⟨ints [b0,b1,b2,b3]⟩] H R:=by
 have e:tmF [a0,a1,a2,a3] [b0,b1,b2,b3]=0+a0*b0+a1*b1+a2*b2+a3*b3:=by show a0*b0+a1*b1+a2*b2+a3*b3=_;omega
 rw[e] at h
 refine qc tok Tryz.call77 Tryz.func77 rfl Tryz.ntmps77 rfl (by simp) ?_
 have hs:=HS.start H none'
 repeat' (first|refine nX ?_|refine nY (fun K0 hK0=>?_)|refine zSt hs ?_|refine nN hs (fun _ _ hs=>?_)|refine nS hs (fun _ _ hs=>?_)|refine sX hs (fun _ hs=>?_)|(refine hK0 _ _ ?_;clear hK0)|fail)
 refine vcg_unroll tok 5 ?_
 change vcg _ _ _ _ _ _ _ _ _
 repeat' (first|refine nX ?_|refine nY (fun K0 hK0=>?_)|refine zSt hs ?_|refine nN hs (fun _ _ hs=>?_)|refine nS hs (fun _ _ hs=>?_)|refine sX hs (fun _ hs=>?_)|(refine hK0 _ _ ?_;clear hK0)|fail)
 iterate 8 (
  all_goals try (first | refine eI 0 (aI rfl ?_) | refine eI 1 (aI rfl ?_) | refine eI 2 (aI rfl ?_) | refine eI 3 (aI rfl ?_) | refine eI 0 (aI ⟨rfl,by decide⟩ ?_) | refine eI 1 (aI ⟨rfl,by decide⟩ ?_) | refine eI 2 (aI ⟨rfl,by decide⟩ ?_) | refine eI 3 (aI ⟨rfl,by decide⟩ ?_))
  all_goals try (
   repeat' (first|refine nX ?_|refine nY (fun K0 hK0=>?_)|refine zSt hs ?_|refine nN hs (fun _ _ hs=>?_)|refine nS hs (fun _ _ hs=>?_)|refine sX hs (fun _ hs=>?_)|(refine hK0 _ _ ?_;clear hK0)|fail)
   ))
 exact h _ (qf hs)
theorem l77 {a0 a1 a2 a3 b0 b1 b2 b3:Int} (h0:wC (a0*b0)) (h1:wC (a1*b1)) (h2:wC (a2*b2)) (h3:wC (a3*b3)) :
 qj Tryz.prog 77 [.agg ⟨ints [a0,a1,a2,a3]⟩, .agg ⟨ints [b0,b1,b2,b3]⟩] [] (fun v H=>v = .int .i64 (tmF [a0,a1,a2,a3] [b0,b1,b2,b3])/\H = []) :=
 qy (c77 h0 h1 h2 h3 (fun H' hs=>⟨[],_,[],Nat.zero_le _,(fun i hi=>by simp at hi),trivial,rfl,VRen.plain rfl,rfl,rfl⟩))
theorem c77x {H:List Blk} {a0 a1 a2 a3 b0 b1 b2 b3:Int} {R:Value->List Blk->Prop} (h0:wC (a0*b0)) (h1:wC (a1*b1)) (h2:wC (a2*b2)) (h3:wC (a3*b3)) (h:R (.int .i64 (tmF [a0,a1,a2,a3] [b0,b1,b2,b3])) H) :
 qm Tryz.prog 77 [.agg ⟨ints [a0,a1,a2,a3]⟩, .agg ⟨ints [b0,b1,b2,b3]⟩] H R :=
 vF (l77 h0 h1 h2 h3) [] rfl (.cons (VRen.plain rfl) (.cons (VRen.plain rfl) .nil)) trivial rfl h
def totF (m:Mc) (a:List Int):List Int := [a[0]!,a[1]!,a[2]!,a[3]!,tmF a (prL m)]
theorem c51 {H:List Blk} {m:Mc} {b c:Nat} {a0 a1 a2 a3:Int} {R:Value->List Blk->Prop} (g:Mr H m b c) (h0:wC (a0*m.st)) (h1:wC (a1*m.hp)) (h2:wC (a2*m.wd)) (h3:wC (a3*m.jn)) (h : ∀ H',HS H none' [] H' -> R (.agg ⟨ints (totF m [a0,a1,a2,a3])⟩) H') :
 qj Tryz.prog 51 [mcV m b c, .agg ⟨ints [a0,a1,a2,a3]⟩] H R:=by
 refine qc tok Tryz.call51 Tryz.func51 rfl Tryz.ntmps51 rfl (by simp) ?_
 have hs:=HS.start H none'
 repeat' (first|refine nX ?_|refine nY (fun K0 hK0=>?_)|refine zSt hs ?_|refine nN hs (fun _ _ hs=>?_)|refine nS hs (fun _ _ hs=>?_)|refine sX hs (fun _ hs=>?_)|(refine hK0 _ _ ?_;clear hK0)|fail)
 refine qG tok mx [0,1,0,4,0,16,0,64,0,0,512,1792,4095,8191] [false,false,true,true,true,true,true,true,true,true,true,true,false,false] [0,1,2,3,4,5,6,7,8,9,10,11,12,13] (by kernel_rfl) ?_
 refine vC (fun K0 hK0=>?_)
 repeat' (first|refine nX ?_|refine nY (fun K0 hK0=>?_)|refine zSt hs ?_|refine nN hs (fun _ _ hs=>?_)|refine nS hs (fun _ _ hs=>?_)|refine sX hs (fun _ hs=>?_)|(refine hK0 _ _ ?_;clear hK0)|fail)
 iterate 8 (
  all_goals try (first | refine eI 0 (aI rfl ?_) | refine eI 1 (aI rfl ?_) | refine eI 2 (aI rfl ?_) | refine eI 3 (aI rfl ?_) | refine eI 0 (aI ⟨rfl,by decide⟩ ?_) | refine eI 1 (aI ⟨rfl,by decide⟩ ?_) | refine eI 2 (aI ⟨rfl,by decide⟩ ?_) | refine eI 3 (aI ⟨rfl,by decide⟩ ?_))
  all_goals try (
   repeat' (first|refine nX ?_|refine nY (fun K0 hK0=>?_)|refine zSt hs ?_|refine nN hs (fun _ _ hs=>?_)|refine nS hs (fun _ _ hs=>?_)|refine sX hs (fun _ hs=>?_)|(refine hK0 _ _ ?_;clear hK0)|fail)
   ))
 refine c78x (g.up (qf hs)) ?_
 repeat' (first|refine nX ?_|refine nY (fun K0 hK0=>?_)|refine zSt hs ?_|refine nN hs (fun _ _ hs=>?_)|refine nS hs (fun _ _ hs=>?_)|refine sX hs (fun _ hs=>?_)|(refine hK0 _ _ ?_;clear hK0)|fail)
 refine c77x h0 h1 h2 h3 ?_
 repeat' (first|refine nX ?_|refine nY (fun K0 hK0=>?_)|refine zSt hs ?_|refine nN hs (fun _ _ hs=>?_)|refine nS hs (fun _ _ hs=>?_)|refine sX hs (fun _ hs=>?_)|(refine hK0 _ _ ?_;clear hK0)|fail)
 change resK T _ _ _ _
 refine zl (by rfl) (by rfl) (hs.get 0 rfl) (by rfl) ?_
 refine⟨_,rfl,_,rfl,_,rfl,_,rfl,_,rfl, ?_⟩
 exact h _ (qf hs)
theorem l51 (m:Mc) {a0 a1 a2 a3:Int} (h0:wC (a0*m.st)) (h1:wC (a1*m.hp)) (h2:wC (a2*m.wd)) (h3:wC (a3*m.jn)) :
 qj Tryz.prog 51 [mcV m 0 1, .agg ⟨ints [a0,a1,a2,a3]⟩] [ro m.sd,ro m.hs] (fun v H=>v = .agg ⟨ints (totF m [a0,a1,a2,a3])⟩/\H = [ro m.sd,ro m.hs]):=by
 refine qy (c51 (b:=0) (c:=1) ⟨⟨_,rfl⟩,⟨_,rfl⟩⟩ h0 h1 h2 h3 (fun H' hs=>?_))
 have e0:=vK hs (b:=0) (B:=ro m.sd) rfl
 have e1:=vK hs (b:=1) (B:=ro m.hs) rfl
 refine⟨[(0,0),(1,0)],_,[ro m.sd,ro m.hs],by simp, ?_,⟨⟨_,e0,BRen.ints _ _ _⟩,⟨_,e1,BRen.ints _ _ _⟩,trivial⟩,rfl,VRen.plain rfl,rfl,rfl⟩
 intro i hi
 match i,hi with
 | 0,_=>rfl
 | 1,_=>rfl
theorem c51x {H:List Blk} {m:Mc} {b c:Nat} {a0 a1 a2 a3:Int} {R:Value->List Blk->Prop} (g:Mr H m b c) (h0:wC (a0*m.st)) (h1:wC (a1*m.hp)) (h2:wC (a2*m.wd)) (h3:wC (a3*m.jn)) (h:R (.agg ⟨ints (totF m [a0,a1,a2,a3])⟩) H) :
 qm Tryz.prog 51 [mcV m b c, .agg ⟨ints [a0,a1,a2,a3]⟩] H R:=by
 obtain ⟨w,hb⟩:=g.s
 obtain ⟨w2,hc⟩:=g.h
 refine vF (l51 m h0 h1 h2 h3) [(b,0),(c,0)] rfl ?_ ⟨⟨_,hb,BRen.seg fun i x hx=>by rw[Nat.zero_add,qQ,hx];rfl⟩,⟨_,hc,BRen.seg fun i x hx=>by rw[Nat.zero_add,qQ,hx];rfl⟩,trivial⟩ rfl h
 exact .cons (.agg (.cons (.int _ _) (.cons (VRen.slice rfl rfl (Nat.le_refl _)) (.cons (.int _ _) (.cons (VRen.slice rfl rfl (Nat.le_refl _)) (.cons (.int _ _) (.cons (.int _ _) (.cons (.int _ _) (.cons (.int _ _) .nil))))))))) (.cons (VRen.plain rfl) .nil)
theorem c50 {H:List Blk} {a0 a1 a2 a3 a4:Int} {R:Value->List Blk->Prop} (h : ∀ H',HS H none' [] H' -> R (.agg ⟨ints [a0,a1,a2,a3]⟩) H'):qj Tryz.prog 50 [.agg ⟨ints [a0,a1,a2,a3,a4]⟩] H R:=by
 refine qc tok Tryz.call50 Tryz.func50 rfl Tryz.ntmps50 rfl (by simp) ?_
 have hs:=HS.start H none'
 repeat' (first|refine nX ?_|refine nY (fun K0 hK0=>?_)|refine zSt hs ?_|refine nN hs (fun _ _ hs=>?_)|refine nS hs (fun _ _ hs=>?_)|refine sX hs (fun _ hs=>?_)|(refine hK0 _ _ ?_;clear hK0)|fail)
 change resK T _ _ _ _
 refine zl (by rfl) (by rfl) (hs.get 0 rfl) (by rfl) ?_
 refine⟨_,rfl,_,rfl,_,rfl,_,rfl, ?_⟩
 exact h _ (qf hs)
end Go.Af.Tryz
namespace Go.Af.Tryz
open Go Go.Proofs Go.Af.Pl Co Ne
open Go.Af.Coll (St)
set_option maxRecDepth 100000
set_option maxHeartbeats 4000000

def entS (W:List Int):List MapEntry:=W.mapIdx fun i z=>⟨.int .i64 z, .bool true,i⟩
abbrev mpS (W:List Int):Blk := .map true (entS W) W.length
theorem entS_get {W:List Int} {j:Nat} {e:MapEntry} (h:(entS W)[j]? = some e) : ∃ z,W[j]? = some z/\e=⟨.int .i64 z, .bool true,j⟩:=by
 unfold entS at h
 rw[List.getElem?_mapIdx] at h
 cases hw:W[j]? with
 | none=>rw[hw] at h;cases h
 | some p=>rw[hw] at h;cases h;exact⟨p,rfl,rfl⟩
theorem entS_at {W:List Int} {j:Nat} {z:Int} (h:W[j]? = some z):(entS W)[j]? = some ⟨.int .i64 z, .bool true,j⟩:=by
 unfold entS
 rw[List.getElem?_mapIdx,h];rfl
theorem entS_snoc (W:List Int) (a:Int):entS W ++ [⟨.int .i64 a, .bool true,W.length⟩]=entS (W ++ [a]):=by unfold entS;rw[List.mapIdx_append];simp
theorem mfind_S {H:List Blk} {W:List Int} {a:Int} {K:Option Nat->Prop} (h1 : ∀ j,W[j]? = some a->K (some j)) (h0:a ∉ W->K none):vZ Tryz.prog T H 3 (.int .i64 a) (entS W) 0 K:=by
 refine mfind_l (fun e=>match e.key with | .int _ z=>decide (a=z) | _=>false) _ _ (fun e he K' hk=>?_) (fun j e hj ht _=>?_) (fun hn=>h0 (fun hm=>?_))
 ·obtain ⟨j,hj⟩:=List.getElem?_of_mem he
  obtain ⟨p,_,rfl⟩:=entS_get hj
  exact keq3 hk
 ·obtain ⟨p,hp,rfl⟩:=entS_get hj
  have hap:a=p:=of_decide_eq_true ht
  rw[Nat.zero_add]
  exact h1 j (by rw[hp,hap])
 ·obtain ⟨j,hj⟩:=List.getElem?_of_mem hm
  have:=hn _ (List.mem_of_getElem? (entS_at hj))
  exact of_decide_eq_false this rfl
theorem look_S {H:List Blk} {m n:Nat} {wr:Bool} {W:List Int} {a:Int} {K:Value->Prop} (hm:bget H m=some (.map wr (entS W) n)) (h:K (.bool (decide (a∈W)))) :
 wZ H m (fun es=>keyK Tryz.prog T 3 (.int .i64 a) (vZ Tryz.prog T H 3 (.int .i64 a) es 0 (fun r=>lkK false (.bool false) es r K))):=by
 refine rdMap_of hm (keyK3 (mfind_S (fun j hj=>?_) (fun hn=>?_)))
 ·refine⟨_,entS_at hj, ?_⟩
  rw[decide_eq_true (List.mem_of_getElem? hj)] at h
  exact h
 ·rw[decide_eq_false hn] at h
  exact h
theorem upd_S {H0 H:List Blk} {o:Nat->Prop} {L:List (Bool × Nat × Blk)} (hs:HS H0 o L H) (i:Nat) {m:Nat} {W:List Int} {a:Int} {K:List Blk->Prop} (hi:L[i]? = some (true,m,mpS W)) (hn:a ∉ W) (k : ∀ H',HS H0 o (L.set i (true,m,mpS (W ++ [a]))) H' -> K H') :
 wO H m (fun es clock=>keyK Tryz.prog T 3 (.int .i64 a) (vZ Tryz.prog T H 3 (.int .i64 a) es 0 (fun r=>match r with
  | some p=>wI H m (.map true (es.modify p (fun e=>{ e with key := .int .i64 a,val := .bool true })) clock) K
  | none=>wI H m (.map true (es ++ [⟨.int .i64 a, .bool true,clock⟩]) (clock+1)) K))):=by
 refine xC (hs.get i hi) (keyK3 (mfind_S (fun j hj=>absurd (List.mem_of_getElem? hj) hn) (fun _=>?_)))
 refine yw (hs.lt i hi) (fun H' h1 h2 h3=>k H' ?_)
 rw[entS_snoc] at h2
 refine hs.set i hi h1 ?_ h3
 rw[h2];simp
def hostE (n:Int):List Int->List Int->Int
 | _,[]=>0
 | W,h::r=>if h<0\/n<=h then 3 else if h∈W then 5 else hostE n (W ++ [h]) r
def prE (m:Mc):Prop:=(m.st<0\/1000000<m.st)\/(m.hp<0\/1000000<m.hp)\/(m.wd<0\/1000000<m.wd)\/(m.jn<0\/1000000<m.jn)
instance (m:Mc):Decidable (prE m):=by unfold prE;infer_instance
def chkM (m:Mc) (procs:Int):Int:=match qw m.kd m.sd m.ho with
 | none=>2
 | some s=>if prE m then 3 else if (m.hs.length:Int)≠procs then 26 else hostE (s.hm*m.ho) [] m.hs
theorem hostE_ok {n:Int} : ∀ {l W:List Int},hostE n W l=0->∀ h∈l,0<=h/\h<n
 | [],_,_,_,hh=>by cases hh
 | x::l,W,h,y,hy=>by
   unfold hostE at h
   split at h
   ·cases h
   ·rename_i h1
    split at h
    ·cases h
    ·rcases List.mem_cons.1 hy with rfl | hy
     ·omega
     ·exact hostE_ok h y hy
theorem chkM_ok {m:Mc} {procs:Int} (h:chkM m procs=0):(∃ s,McOk m s)/\((0<=m.st/\m.st<=1000000)/\(0<=m.hp/\m.hp<=1000000)/\(0<=m.wd/\m.wd<=1000000)/\(0<=m.jn/\m.jn<=1000000))/\(m.hs.length:Int)=procs:=by
 unfold chkM at h
 split at h
 ·cases h
 ·rename_i s hs
  split at h
  ·cases h
  ·rename_i hp
   split at h
   ·cases h
   ·rename_i hl
    refine⟨⟨s,McOk.of hs (hostE_ok h)⟩, ?_,by omega⟩
    unfold prE at hp
    omega
attribute [local irreducible] awp qj qm qP qH qJ isCells qA qx qZ qX qI roundEnd wZ wO keyK vZ wP wW
structure K1 where
 H:List Blk
 i:Nat
theorem Ld_at' {xs:List Int} {i:Nat} {K:Value->Prop} (hi:i<xs.length) (h:K (.int .i64 xs[i]!)):Ld (ints xs) (i*1) K:=⟨.int .i64 xs[i]!,by rw[Nat.mul_one,qQ,List.getElem?_eq_getElem hi,getElem!_pos xs i hi];rfl,h⟩
theorem c39 {H:List Blk} {m:Mc} {b c:Nat} {procs:Int} {R:Value->List Blk->Prop} (g:Mr H m b c) (hsd:m.hs.length<=9223372036854775807) (h : ∀ H',HS H none' [] H' -> R (.int .i64 (chkM m procs)) H'):qj Tryz.prog 39 [mcV m b c, .int .i64 procs] H R:=by
 obtain ⟨w1,hc0⟩:=g.h
 obtain ⟨w0,hb0⟩:=g.s
 refine qc tok Tryz.call39 Tryz.func39 rfl Tryz.ntmps39 rfl (by simp) ?_
 refine vg (HS.start H none') (fun H1 b2 e1 l1 hs=>?_)
 refine qM (fun _ hKs=>hKs _ _ ?_);clear hKs
 clear e1 l1
 repeat' (first|refine nX ?_|refine nY (fun K0 hK0=>?_)|refine zSt hs ?_|refine nN hs (fun _ _ hs=>?_)|refine nS hs (fun _ _ hs=>?_)|refine sX hs (fun _ hs=>?_)|(refine hK0 _ _ ?_;clear hK0)|fail)
 have hb:=vK (qf hs) hb0
 (first | refine c22 hb (Nat.le_refl _) ?_ | refine (c22 hb (Nat.le_refl _) ?_).call)
 unfold chkM at h
 cases hsh:qw m.kd m.sd m.ho with
 | none =>
   rw[hsh] at h
   unfold sizeV
   repeat' (first|refine nX ?_|refine nY (fun K0 hK0=>?_)|refine zSt hs ?_|refine nN hs (fun _ _ hs=>?_)|refine nS hs (fun _ _ hs=>?_)|refine sX hs (fun _ hs=>?_)|(refine dI (fun hc=>?_) (fun hc=>?_) <;> try (exfalso;omega))|(refine hK0 _ _ ?_;clear hK0)|fail)
   exact h _ (qf hs)
 | some s =>
   rw[hsh] at h
   unfold sizeV
   dsimp only at h
   have hhm:=(McOk.of (m := { m with hs := [] }) hsh (fun h hh=>by cases hh)).hm
   have hho:=(McOk.of (m := { m with hs := [] }) hsh (fun h hh=>by cases hh)).ho
   dsimp only at hho
   repeat' (first|refine nX ?_|refine nY (fun K0 hK0=>?_)|refine zSt hs ?_|refine nN hs (fun _ _ hs=>?_)|refine nS hs (fun _ _ hs=>?_)|refine sX hs (fun _ hs=>?_)|(refine dI (fun hc=>?_) (fun hc=>?_) <;> try (exfalso;omega))|(refine hK0 _ _ ?_;clear hK0)|fail)
   refine c78 (fun H2 hn=>?_)
   have hs:=qR hs hn
   clear hn
   repeat' (first|refine nX ?_|refine nY (fun K0 hK0=>?_)|refine zSt hs ?_|refine nN hs (fun _ _ hs=>?_)|refine nS hs (fun _ _ hs=>?_)|refine sX hs (fun _ hs=>?_)|(refine dI (fun hc=>?_) (fun hc=>?_) <;> try (exfalso;omega))|(refine hK0 _ _ ?_;clear hK0)|fail)
   -- the prices
   refine qF (α := List Blk × Nat) tok (fun z=>HS H none' [(true,b2, .cells true 1 (mcC m b c))] z.1/\z.2<=4/\∀ j,j<z.2->0<=(prL m)[j]! /\ (prL m)[j]! <= 1000000)
    (fun z=>[(1, .int .i64 procs),(2, .pointer (some ⟨b2,0,none⟩)),(6, .int .i64 (s.hm*m.ho)),(23, .agg ⟨ints (prL m)⟩),(24, .int .i64 (z.2:Int))]) (fun z=>z.1) (fun z=>4-z.2)
    (_,0) ⟨hs,Nat.zero_le _,fun j hj=>absurd hj (Nat.not_lt_zero _)⟩ (Or.inl ⟨⟨rfl,rfl,rfl,rfl,rfl,trivial⟩,rfl⟩) ?_
   clear hs
   rintro ⟨H3,i⟩ ⟨hs,hi,hj⟩
   dsimp only at hs hi hj ⊢
   repeat' (first|refine nX ?_|refine nY (fun K0 hK0=>?_)|refine zSt hs ?_|refine nN hs (fun _ _ hs=>?_)|refine nS hs (fun _ _ hs=>?_)|refine sX hs (fun _ hs=>?_)|(refine hK0 _ _ ?_;clear hK0)|fail)
   refine aI (fun hc=>?_) (fun hc=>?_)
   ·have hi4:i<4:=by simp at hc;omega
    clear hc
    repeat' (first|refine nX ?_|refine nY (fun K0 hK0=>?_)|refine zSt hs ?_|refine nN hs (fun _ _ hs=>?_)|refine nS hs (fun _ _ hs=>?_)|refine sX hs (fun _ hs=>?_)|(refine hK0 _ _ ?_;clear hK0)|fail)
    refine eI i (aI ⟨rfl,hi4⟩ ?_)
    have hl:(prL m).length=4:=rfl
    refine Ld_at' (xs:=prL m) (by omega) ?_
    have pj : ∀ j:Nat,j<4->(prL m)[j]! < (0:Int)\/(1000000:Int)<(prL m)[j]! -> prE m:=fun j hj4 hj=>by
     obtain rfl | rfl | rfl | rfl:j=0\/j=1\/j=2\/j=3:=by omega
     ·exact .inl hj
     ·exact .inr (.inl hj)
     ·exact .inr (.inr (.inl hj))
     ·exact .inr (.inr (.inr hj))
    have pi:=pj i hi4
    generalize hp:(prL m)[i]! = p at pi ⊢
    clear pj
    by_cases hbad:p<0\/1000000<p
    ·have hv:=h
     rw[if_pos (pi hbad)] at hv
     clear h
     repeat' (first|refine nX ?_|refine nY (fun K0 hK0=>?_)|refine zSt hs ?_|refine nN hs (fun _ _ hs=>?_)|refine nS hs (fun _ _ hs=>?_)|refine sX hs (fun _ hs=>?_)|(refine dI (fun hc=>?_) (fun hc=>?_) <;> try (exfalso;omega))|(refine hK0 _ _ ?_;clear hK0)|fail)
     all_goals first | exact hv _ (qf hs) | (exfalso;omega)
    ·skip
     repeat' (first|refine nX ?_|refine nY (fun K0 hK0=>?_)|refine zSt hs ?_|refine nN hs (fun _ _ hs=>?_)|refine nS hs (fun _ _ hs=>?_)|refine sX hs (fun _ hs=>?_)|(refine dI (fun hc=>?_) (fun hc=>?_) <;> try (exfalso;omega))|(refine hK0 _ _ ?_;clear hK0)|fail)
     all_goals try (exfalso;omega)
     refine⟨(_,i+1),⟨hs,hi4,fun j hj2=>?_⟩,by dsimp only;omega,Or.inl ⟨⟨rfl,rfl,rfl,rfl,rfl,trivial⟩,rfl⟩⟩
     rcases Nat.lt_or_ge j i with h1 | h1
     ·exact hj j h1
     ·have:j=i:=by dsimp only at hj2;omega
      subst this
      rw[hp]
      omega
   ·have hi4:i=4:=by simp at hc;omega
    subst hi4
    clear hc
    have hnp : ¬ prE m:=by
     have h0:0<=m.st/\m.st<=1000000:=hj 0 (by decide)
     have h1:0<=m.hp/\m.hp<=1000000:=hj 1 (by decide)
     have h2:0<=m.wd/\m.wd<=1000000:=hj 2 (by decide)
     have h3:0<=m.jn/\m.jn<=1000000:=hj 3 (by decide)
     unfold prE
     omega
    rw[if_neg hnp] at h
    clear hj hi hnp
    by_cases hlen:(m.hs.length:Int)=procs
    ·rw[if_neg (fun e=>e hlen)] at h
     repeat' (first|refine nX ?_|refine nY (fun K0 hK0=>?_)|refine zSt hs ?_|refine nN hs (fun _ _ hs=>?_)|refine nS hs (fun _ _ hs=>?_)|refine sX hs (fun _ hs=>?_)|(refine dI (fun hc=>?_) (fun hc=>?_) <;> try (exfalso;omega))|(refine hK0 _ _ ?_;clear hK0)|fail)
     all_goals try (exfalso;omega)
     rename_i mp H5
     refine qF (α := K1) tok (fun z=>HS H none' [(true,mp,mpS (m.hs.take z.i)),(true,b2, .cells true 1 (mcC m b c))] z.H/\z.i<=m.hs.length/\hostE (s.hm*m.ho) [] m.hs=hostE (s.hm*m.ho) (m.hs.take z.i) (m.hs.drop z.i))
      (fun z=>[(2, .pointer (some ⟨b2,0,none⟩)),(6, .int .i64 (s.hm*m.ho)),(10, .map (some mp)),(41,sv c m.hs.length),(42, .int .i64 (m.hs.length:Int)),(43, .int .i64 (z.i:Int))]) (fun z=>z.H) (fun z=>m.hs.length-z.i)
      ⟨_,0⟩ ⟨hs,Nat.zero_le _,rfl⟩ (Or.inl ⟨⟨rfl,rfl,rfl,rfl,rfl,rfl,trivial⟩,rfl⟩) ?_
     clear hs
     rintro ⟨H6,i⟩ ⟨hs,hi,hE⟩
     dsimp only at hs hi hE ⊢
     have hcw:=vK (qf hs) hc0
     repeat' (first|refine nX ?_|refine nY (fun K0 hK0=>?_)|refine zSt hs ?_|refine nN hs (fun _ _ hs=>?_)|refine nS hs (fun _ _ hs=>?_)|refine sX hs (fun _ hs=>?_)|(refine hK0 _ _ ?_;clear hK0)|fail)
     refine aI (fun hc=>?_) (fun hc=>?_)
     ·have hlt:i<m.hs.length:=by simp at hc;omega
      clear hc
      have hdr:m.hs.drop i=m.hs[i]! :: m.hs.drop (i+1):=by rw[getElem!_pos m.hs i hlt];exact List.drop_eq_getElem_cons hlt
      have htk:m.hs.take (i+1)=m.hs.take i ++ [m.hs[i]!]:=by rw[List.take_succ_eq_append_getElem hlt,getElem!_pos m.hs i hlt]
      rw[hdr,hostE,<- htk] at hE
      repeat' (first|refine nX ?_|refine nY (fun K0 hK0=>?_)|refine zSt hs ?_|refine nN hs (fun _ _ hs=>?_)|refine nS hs (fun _ _ hs=>?_)|refine sX hs (fun _ hs=>?_)|(refine hK0 _ _ ?_;clear hK0)|fail)
      refine qi hcw ⟨i,rfl,hlt, ?_⟩
      repeat' (first|refine nX ?_|refine nY (fun K0 hK0=>?_)|refine zSt hs ?_|refine nN hs (fun _ _ hs=>?_)|refine nS hs (fun _ _ hs=>?_)|refine sX hs (fun _ hs=>?_)|(refine hK0 _ _ ?_;clear hK0)|fail)
      refine ql hcw (Ld_at hlt ?_)
      generalize m.hs[i]! = x at hE htk ⊢
      by_cases hx:x<0\/s.hm*m.ho<=x
      ·rw[if_pos hx] at hE
       rw[hE] at h
       repeat' (first|refine nX ?_|refine nY (fun K0 hK0=>?_)|refine zSt hs ?_|refine nN hs (fun _ _ hs=>?_)|refine nS hs (fun _ _ hs=>?_)|refine sX hs (fun _ hs=>?_)|(refine dI (fun hc=>?_) (fun hc=>?_) <;> try (exfalso;omega))|(refine hK0 _ _ ?_;clear hK0)|fail)
       all_goals first | exact h _ (qf hs) | (exfalso;omega)
      ·rw[if_neg hx] at hE
       repeat' (first|refine nX ?_|refine nY (fun K0 hK0=>?_)|refine zSt hs ?_|refine nN hs (fun _ _ hs=>?_)|refine nS hs (fun _ _ hs=>?_)|refine sX hs (fun _ hs=>?_)|(refine dI (fun hc=>?_) (fun hc=>?_) <;> try (exfalso;omega))|(refine hK0 _ _ ?_;clear hK0)|fail)
       all_goals try (exfalso;omega)
       refine look_S (hs.get 0 rfl) ?_
       by_cases hin:x∈m.hs.take i
       ·rw[if_pos hin] at hE
        rw[hE] at h
        rw[decide_eq_true hin]
        repeat' (first|refine nX ?_|refine nY (fun K0 hK0=>?_)|refine zSt hs ?_|refine nN hs (fun _ _ hs=>?_)|refine nS hs (fun _ _ hs=>?_)|refine sX hs (fun _ hs=>?_)|(refine dI (fun hc=>?_) (fun hc=>?_) <;> try (exfalso;omega))|(refine hK0 _ _ ?_;clear hK0)|fail)
        exact h _ (qf hs)
       ·rw[if_neg hin] at hE
        rw[decide_eq_false hin]
        repeat' (first|refine nX ?_|refine nY (fun K0 hK0=>?_)|refine zSt hs ?_|refine nN hs (fun _ _ hs=>?_)|refine nS hs (fun _ _ hs=>?_)|refine sX hs (fun _ hs=>?_)|(refine dI (fun hc=>?_) (fun hc=>?_) <;> try (exfalso;omega))|(refine hK0 _ _ ?_;clear hK0)|fail)
        refine upd_S hs 0 rfl hin (fun H7 hs=>?_)
        rw[<- htk] at hs
        repeat' (first|refine nX ?_|refine nY (fun K0 hK0=>?_)|refine zSt hs ?_|refine nN hs (fun _ _ hs=>?_)|refine nS hs (fun _ _ hs=>?_)|refine sX hs (fun _ hs=>?_)|(refine dI (fun hc=>?_) (fun hc=>?_) <;> try (exfalso;omega))|(refine hK0 _ _ ?_;clear hK0)|fail)
        exact⟨⟨_,i+1⟩,⟨hs,hlt,hE⟩,by dsimp only;omega,Or.inl ⟨⟨rfl,rfl,rfl,rfl,rfl,rfl,trivial⟩,rfl⟩⟩
     ·have hie:i=m.hs.length:=by simp at hc;omega
      subst hie
      rw[List.drop_length] at hE
      rw[hE] at h
      repeat' (first|refine nX ?_|refine nY (fun K0 hK0=>?_)|refine zSt hs ?_|refine nN hs (fun _ _ hs=>?_)|refine nS hs (fun _ _ hs=>?_)|refine sX hs (fun _ hs=>?_)|(refine dI (fun hc=>?_) (fun hc=>?_) <;> try (exfalso;omega))|(refine hK0 _ _ ?_;clear hK0)|fail)
      exact h _ (qf hs)
    ·rw[if_pos hlen] at h
     repeat' (first|refine nX ?_|refine nY (fun K0 hK0=>?_)|refine zSt hs ?_|refine nN hs (fun _ _ hs=>?_)|refine nS hs (fun _ _ hs=>?_)|refine sX hs (fun _ hs=>?_)|(refine dI (fun hc=>?_) (fun hc=>?_) <;> try (exfalso;omega))|(refine hK0 _ _ ?_;clear hK0)|fail)
     all_goals first | exact h _ (qf hs) | (exfalso;omega)
end Go.Af.Tryz
namespace Go.Af.Tryz
open Go Go.Proofs Go.Af.Pl Co Ne
open Go.Af.Coll (St)
set_option maxRecDepth 100000
set_option maxHeartbeats 4000000
attribute [local irreducible] awp qj qm qP qH qJ isCells qA qx qZ qX qI roundEnd wZ wO keyK vZ wP wW
theorem c16 {H:List Blk} {m:Mc} {b c:Nat} {R:Value->List Blk->Prop} (h : ∀ H',HS H none' [] H' -> R (mcV m b c) H'):qj Tryz.prog 16 [mcV m b c] H R:=by
 refine qc tok Tryz.call16 Tryz.func16 rfl Tryz.ntmps16 rfl (by simp) ?_
 refine vg (HS.start H none') (fun H1 b1 e1 l1 hs=>?_)
 refine vg hs (fun H2 b2 e2 l2 hs=>?_)
 refine qM (fun _ hKs=>hKs _ _ ?_);clear hKs
 clear e1 l1 e2 l2
 repeat' (first|refine nX ?_|refine nY (fun K0 hK0=>?_)|refine zSt hs ?_|refine nN hs (fun _ _ hs=>?_)|refine nS hs (fun _ _ hs=>?_)|refine sX hs (fun _ hs=>?_)|(refine hK0 _ _ ?_;clear hK0)|fail)
 change resK T _ _ _ _
 refine zl (by rfl) (by rfl) (hs.get 0 rfl) (by rfl) ?_
 refine⟨_,rfl,_,rfl,_,rfl,_,rfl,_,rfl,_,rfl,_,rfl,_,rfl, ?_⟩
 exact h _ (qf hs)
theorem c90 {H:List Blk} {n:Int} {R:Value->List Blk->Prop} (h:R (.bool (decide (0<=n/\n<=1000000))) H):qj Tryz.prog 90 [.int .i64 n] H R:=by
 refine qc tok Tryz.call90 Tryz.func90 rfl Tryz.ntmps90 rfl (by simp) ?_
 refine qM (fun _ hKs=>hKs _ _ ?_);clear hKs
 have hs:=HS.start H none'
 by_cases h0:0<=n
 ·by_cases h1:n<=1000000
  ·rw[decide_eq_true ⟨h0,h1⟩] at h
   repeat' (first|refine nX ?_|refine nY (fun K0 hK0=>?_)|refine zSt hs ?_|refine nN hs (fun _ _ hs=>?_)|refine nS hs (fun _ _ hs=>?_)|refine sX hs (fun _ hs=>?_)|(refine dI (fun hc=>?_) (fun hc=>?_) <;> try (exfalso;omega))|(refine hK0 _ _ ?_;clear hK0)|fail)
   all_goals first | exact h | (exfalso;omega) | (rw[decide_eq_true h1];exact h)
  ·rw[decide_eq_false (by omega)] at h
   repeat' (first|refine nX ?_|refine nY (fun K0 hK0=>?_)|refine zSt hs ?_|refine nN hs (fun _ _ hs=>?_)|refine nS hs (fun _ _ hs=>?_)|refine sX hs (fun _ hs=>?_)|(refine dI (fun hc=>?_) (fun hc=>?_) <;> try (exfalso;omega))|(refine hK0 _ _ ?_;clear hK0)|fail)
   all_goals first | exact h | (exfalso;omega) | (rw[decide_eq_false h1];exact h)
 ·rw[decide_eq_false (by omega)] at h
  repeat' (first|refine nX ?_|refine nY (fun K0 hK0=>?_)|refine zSt hs ?_|refine nN hs (fun _ _ hs=>?_)|refine nS hs (fun _ _ hs=>?_)|refine sX hs (fun _ hs=>?_)|(refine dI (fun hc=>?_) (fun hc=>?_) <;> try (exfalso;omega))|(refine hK0 _ _ ?_;clear hK0)|fail)
  all_goals first | exact h | (exfalso;omega)
theorem c40 {H:List Blk} {m:Mc} {b c:Nat} {procs:Int} {R:Value->List Blk->Prop} (g:Mr H m b c) (hsd:m.hs.length<=9223372036854775807) (h : ∀ H',HS H none' [] H' -> R (.int .i64 (chkM m procs)) H'):qj Tryz.prog 40 [mcV m b c, .int .i64 procs] H R:=by
 obtain ⟨w1,hc0⟩:=g.h
 obtain ⟨w0,hb0⟩:=g.s
 refine qc tok Tryz.call40 Tryz.func40 rfl Tryz.ntmps40 rfl (by simp) ?_
 refine vg (HS.start H none') (fun H1 b2 e1 l1 hs=>?_)
 refine qM (fun _ hKs=>hKs _ _ ?_);clear hKs
 clear e1 l1
 repeat' (first|refine nX ?_|refine nY (fun K0 hK0=>?_)|refine zSt hs ?_|refine nN hs (fun _ _ hs=>?_)|refine nS hs (fun _ _ hs=>?_)|refine sX hs (fun _ hs=>?_)|(refine hK0 _ _ ?_;clear hK0)|fail)
 have hb:=vK (qf hs) hb0
 (first | refine Ne.c23 hb (Nat.le_refl _) ?_ | refine (Ne.c23 hb (Nat.le_refl _) ?_).call)
 unfold chkM at h
 cases hsh:qw m.kd m.sd m.ho with
 | none =>
   rw[hsh] at h
   unfold sizeV
   repeat' (first|refine nX ?_|refine nY (fun K0 hK0=>?_)|refine zSt hs ?_|refine nN hs (fun _ _ hs=>?_)|refine nS hs (fun _ _ hs=>?_)|refine sX hs (fun _ hs=>?_)|(refine dI (fun hc=>?_) (fun hc=>?_) <;> try (exfalso;omega))|(refine hK0 _ _ ?_;clear hK0)|fail)
   exact h _ (qf hs)
 | some s =>
   rw[hsh] at h
   unfold sizeV
   dsimp only at h
   repeat' (first|refine nX ?_|refine nY (fun K0 hK0=>?_)|refine zSt hs ?_|refine nN hs (fun _ _ hs=>?_)|refine nS hs (fun _ _ hs=>?_)|refine sX hs (fun _ hs=>?_)|(refine dI (fun hc=>?_) (fun hc=>?_) <;> try (exfalso;omega))|(refine hK0 _ _ ?_;clear hK0)|fail)
   (first | refine c90 ?_ | refine (c90 ?_).call)
   by_cases p1:0<=m.st/\m.st<=1000000
   rotate_left
   ·rw[decide_eq_false p1]
    rw[if_pos (by unfold prE;omega)] at h
    repeat' (first|refine nX ?_|refine nY (fun K0 hK0=>?_)|refine zSt hs ?_|refine nN hs (fun _ _ hs=>?_)|refine nS hs (fun _ _ hs=>?_)|refine sX hs (fun _ hs=>?_)|(refine dI (fun hc=>?_) (fun hc=>?_) <;> try (exfalso;omega))|(refine hK0 _ _ ?_;clear hK0)|fail)
    exact h _ (qf hs)
   rw[decide_eq_true p1]
   repeat' (first|refine nX ?_|refine nY (fun K0 hK0=>?_)|refine zSt hs ?_|refine nN hs (fun _ _ hs=>?_)|refine nS hs (fun _ _ hs=>?_)|refine sX hs (fun _ hs=>?_)|(refine dI (fun hc=>?_) (fun hc=>?_) <;> try (exfalso;omega))|(refine hK0 _ _ ?_;clear hK0)|fail)
   (first | refine c90 ?_ | refine (c90 ?_).call)
   by_cases p2:0<=m.hp/\m.hp<=1000000
   rotate_left
   ·rw[decide_eq_false p2]
    rw[if_pos (by unfold prE;omega)] at h
    repeat' (first|refine nX ?_|refine nY (fun K0 hK0=>?_)|refine zSt hs ?_|refine nN hs (fun _ _ hs=>?_)|refine nS hs (fun _ _ hs=>?_)|refine sX hs (fun _ hs=>?_)|(refine dI (fun hc=>?_) (fun hc=>?_) <;> try (exfalso;omega))|(refine hK0 _ _ ?_;clear hK0)|fail)
    exact h _ (qf hs)
   rw[decide_eq_true p2]
   repeat' (first|refine nX ?_|refine nY (fun K0 hK0=>?_)|refine zSt hs ?_|refine nN hs (fun _ _ hs=>?_)|refine nS hs (fun _ _ hs=>?_)|refine sX hs (fun _ hs=>?_)|(refine dI (fun hc=>?_) (fun hc=>?_) <;> try (exfalso;omega))|(refine hK0 _ _ ?_;clear hK0)|fail)
   (first | refine c90 ?_ | refine (c90 ?_).call)
   by_cases p3:0<=m.wd/\m.wd<=1000000
   rotate_left
   ·rw[decide_eq_false p3]
    rw[if_pos (by unfold prE;omega)] at h
    repeat' (first|refine nX ?_|refine nY (fun K0 hK0=>?_)|refine zSt hs ?_|refine nN hs (fun _ _ hs=>?_)|refine nS hs (fun _ _ hs=>?_)|refine sX hs (fun _ hs=>?_)|(refine dI (fun hc=>?_) (fun hc=>?_) <;> try (exfalso;omega))|(refine hK0 _ _ ?_;clear hK0)|fail)
    exact h _ (qf hs)
   rw[decide_eq_true p3]
   repeat' (first|refine nX ?_|refine nY (fun K0 hK0=>?_)|refine zSt hs ?_|refine nN hs (fun _ _ hs=>?_)|refine nS hs (fun _ _ hs=>?_)|refine sX hs (fun _ hs=>?_)|(refine dI (fun hc=>?_) (fun hc=>?_) <;> try (exfalso;omega))|(refine hK0 _ _ ?_;clear hK0)|fail)
   (first | refine c90 ?_ | refine (c90 ?_).call)
   by_cases p4:0<=m.jn/\m.jn<=1000000
   rotate_left
   ·rw[decide_eq_false p4]
    rw[if_pos (by unfold prE;omega)] at h
    repeat' (first|refine nX ?_|refine nY (fun K0 hK0=>?_)|refine zSt hs ?_|refine nN hs (fun _ _ hs=>?_)|refine nS hs (fun _ _ hs=>?_)|refine sX hs (fun _ hs=>?_)|(refine dI (fun hc=>?_) (fun hc=>?_) <;> try (exfalso;omega))|(refine hK0 _ _ ?_;clear hK0)|fail)
    exact h _ (qf hs)
   rw[decide_eq_true p4]
   rw[if_neg (by unfold prE;omega)] at h
   repeat' (first|refine nX ?_|refine nY (fun K0 hK0=>?_)|refine zSt hs ?_|refine nN hs (fun _ _ hs=>?_)|refine nS hs (fun _ _ hs=>?_)|refine sX hs (fun _ hs=>?_)|(refine hK0 _ _ ?_;clear hK0)|fail)
   by_cases hlen:(m.hs.length:Int)=procs
   rotate_left
   ·rw[if_pos hlen] at h
    repeat' (first|refine nX ?_|refine nY (fun K0 hK0=>?_)|refine zSt hs ?_|refine nN hs (fun _ _ hs=>?_)|refine nS hs (fun _ _ hs=>?_)|refine sX hs (fun _ hs=>?_)|(refine dI (fun hc=>?_) (fun hc=>?_) <;> try (exfalso;omega))|(refine hK0 _ _ ?_;clear hK0)|fail)
    all_goals first | exact h _ (qf hs) | (exfalso;omega)
   rw[if_neg (fun e=>e hlen)] at h
   repeat' (first|refine nX ?_|refine nY (fun K0 hK0=>?_)|refine zSt hs ?_|refine nN hs (fun _ _ hs=>?_)|refine nS hs (fun _ _ hs=>?_)|refine sX hs (fun _ hs=>?_)|(refine dI (fun hc=>?_) (fun hc=>?_) <;> try (exfalso;omega))|(refine hK0 _ _ ?_;clear hK0)|fail)
   all_goals try (exfalso;omega)
   refine qF (α := K1) tok (fun z=>HS H none' [(true,b2, .cells true 1 (mcC m b c))] z.H/\z.i<=m.hs.length/\hostE (s.hm*m.ho) [] m.hs=hostE (s.hm*m.ho) (m.hs.take z.i) (m.hs.drop z.i))
    (fun z=>[(2, .pointer (some ⟨b2,0,none⟩)),(6, .int .i64 (s.hm*m.ho)),(8, .int .i64 (z.i:Int))]) (fun z=>z.H) (fun z=>m.hs.length-z.i)
    ⟨_,0⟩ ⟨hs,Nat.zero_le _,rfl⟩ (Or.inl ⟨⟨rfl,rfl,rfl,trivial⟩,rfl⟩) ?_
   clear hs
   rintro ⟨H6,i⟩ ⟨hs,hi,hE⟩
   dsimp only at hs hi hE ⊢
   have hcw:=vK (qf hs) hc0
   repeat' (first|refine nX ?_|refine nY (fun K0 hK0=>?_)|refine zSt hs ?_|refine nN hs (fun _ _ hs=>?_)|refine nS hs (fun _ _ hs=>?_)|refine sX hs (fun _ hs=>?_)|(refine hK0 _ _ ?_;clear hK0)|fail)
   refine aI (fun hc=>?_) (fun hc=>?_)
   ·have hlt:i<m.hs.length:=by simp at hc;omega
    clear hc
    have hdr:m.hs.drop i=m.hs[i]! :: m.hs.drop (i+1):=by rw[getElem!_pos m.hs i hlt];exact List.drop_eq_getElem_cons hlt
    have htk:m.hs.take (i+1)=m.hs.take i ++ [m.hs[i]!]:=by rw[List.take_succ_eq_append_getElem hlt,getElem!_pos m.hs i hlt]
    rw[hdr,hostE,<- htk] at hE
    repeat' (first|refine nX ?_|refine nY (fun K0 hK0=>?_)|refine zSt hs ?_|refine nN hs (fun _ _ hs=>?_)|refine nS hs (fun _ _ hs=>?_)|refine sX hs (fun _ hs=>?_)|(refine hK0 _ _ ?_;clear hK0)|fail)
    refine qi hcw ⟨i,rfl,hlt, ?_⟩
    repeat' (first|refine nX ?_|refine nY (fun K0 hK0=>?_)|refine zSt hs ?_|refine nN hs (fun _ _ hs=>?_)|refine nS hs (fun _ _ hs=>?_)|refine sX hs (fun _ hs=>?_)|(refine hK0 _ _ ?_;clear hK0)|fail)
    refine ql hcw (Ld_at hlt ?_)
    by_cases hx0:m.hs[i]! < 0
    ·rw[if_pos (.inl hx0)] at hE
     rw[hE] at h
     repeat' (first|refine nX ?_|refine nY (fun K0 hK0=>?_)|refine zSt hs ?_|refine nN hs (fun _ _ hs=>?_)|refine nS hs (fun _ _ hs=>?_)|refine sX hs (fun _ hs=>?_)|(refine dI (fun hc=>?_) (fun hc=>?_) <;> try (exfalso;omega))|(refine hK0 _ _ ?_;clear hK0)|fail)
     all_goals first | exact h _ (qf hs) | (exfalso;omega)
    repeat' (first|refine nX ?_|refine nY (fun K0 hK0=>?_)|refine zSt hs ?_|refine nN hs (fun _ _ hs=>?_)|refine nS hs (fun _ _ hs=>?_)|refine sX hs (fun _ hs=>?_)|(refine dI (fun hc=>?_) (fun hc=>?_) <;> try (exfalso;omega))|(refine hK0 _ _ ?_;clear hK0)|fail)
    all_goals try (exfalso;omega)
    refine qi hcw ⟨i,rfl,hlt, ?_⟩
    repeat' (first|refine nX ?_|refine nY (fun K0 hK0=>?_)|refine zSt hs ?_|refine nN hs (fun _ _ hs=>?_)|refine nS hs (fun _ _ hs=>?_)|refine sX hs (fun _ hs=>?_)|(refine hK0 _ _ ?_;clear hK0)|fail)
    refine ql hcw (Ld_at hlt ?_)
    by_cases hx:s.hm*m.ho<=m.hs[i]!
    ·rw[if_pos (.inr hx)] at hE
     rw[hE] at h
     repeat' (first|refine nX ?_|refine nY (fun K0 hK0=>?_)|refine zSt hs ?_|refine nN hs (fun _ _ hs=>?_)|refine nS hs (fun _ _ hs=>?_)|refine sX hs (fun _ hs=>?_)|(refine dI (fun hc=>?_) (fun hc=>?_) <;> try (exfalso;omega))|(refine hK0 _ _ ?_;clear hK0)|fail)
     all_goals first | exact h _ (qf hs) | (exfalso;omega)
    rw[if_neg (by omega)] at hE
    repeat' (first|refine nX ?_|refine nY (fun K0 hK0=>?_)|refine zSt hs ?_|refine nN hs (fun _ _ hs=>?_)|refine nS hs (fun _ _ hs=>?_)|refine sX hs (fun _ hs=>?_)|(refine dI (fun hc=>?_) (fun hc=>?_) <;> try (exfalso;omega))|(refine hK0 _ _ ?_;clear hK0)|fail)
    all_goals try (exfalso;omega)
    refine qF (α := K1) tok (fun z=>HS H none' [(true,b2, .cells true 1 (mcC m b c))] z.H/\z.i<=i/\m.hs[i]! ∉ m.hs.take z.i)
     (fun z=>[(2, .pointer (some ⟨b2,0,none⟩)),(6, .int .i64 (s.hm*m.ho)),(8, .int .i64 (i:Int)),(9, .int .i64 (z.i:Int))]) (fun z=>z.H) (fun z=>i-z.i)
     ⟨_,0⟩ ⟨hs,Nat.zero_le _,by simp⟩ (Or.inl ⟨⟨rfl,rfl,rfl,rfl,trivial⟩,rfl⟩) ?_
    clear hs hcw
    rintro ⟨H7,k⟩ ⟨hs,hk,hN⟩
    dsimp only at hs hk hN ⊢
    have hcw:=vK (qf hs) hc0
    repeat' (first|refine nX ?_|refine nY (fun K0 hK0=>?_)|refine zSt hs ?_|refine nN hs (fun _ _ hs=>?_)|refine nS hs (fun _ _ hs=>?_)|refine sX hs (fun _ hs=>?_)|(refine hK0 _ _ ?_;clear hK0)|fail)
    refine aI (fun hc=>?_) (fun hc=>?_)
    ·have hlt2:k<i:=by simp at hc;omega
     have hlt3:k<m.hs.length:=by omega
     clear hc
     have htk2:m.hs.take (k+1)=m.hs.take k ++ [m.hs[k]!]:=by rw[List.take_succ_eq_append_getElem hlt3,getElem!_pos m.hs k hlt3]
     repeat' (first|refine nX ?_|refine nY (fun K0 hK0=>?_)|refine zSt hs ?_|refine nN hs (fun _ _ hs=>?_)|refine nS hs (fun _ _ hs=>?_)|refine sX hs (fun _ hs=>?_)|(refine hK0 _ _ ?_;clear hK0)|fail)
     refine vk tok mx [0,1,0,7,15,0,32,0,224,480,1023] [false,false,true,false,false,true,true,true,true,true,false] (.first 0 (.first 1 (.first 2 (.first 3 (.first 4 (.first 5 (.first 6 (.first 7 (.first 8 (.first 9 (.first 10 .done))))))))))) (by kernel_rfl) ?_
     refine vz (fun K0 hK0=>?_)
     repeat' (first|refine iS hs ?_|refine rS hs ?_|refine eI _ (aI rfl ?_)|refine eI 0 (aI (by decide) ?_)|refine eI 1 (aI (by decide) ?_)|refine eI 2 (aI (by decide) ?_)|refine eI 3 (aI (by decide) ?_)|refine qp ?_|refine qo ?_|refine qh ?_|refine oJ ?_|refine vg hs (fun _ _ _ _ hs=>?_)|refine newS_hs hs (fun _ _ _ _ hs=>?_)|refine sS hs 0 (fun _ _ hs=>?_)|refine sS hs 1 (fun _ _ hs=>?_)|refine sS hs 2 (fun _ _ hs=>?_)|refine sS hs 3 (fun _ _ hs=>?_)|refine sS hs 4 (fun _ _ hs=>?_)|refine sS hs 5 (fun _ _ hs=>?_)|refine round_of tok (hs.get 0 rfl) ?_|refine wQ hs 0 rfl (fun _ hs=>?_)|refine zB hs 0 rfl (fun _ hs=>?_)|refine zu hs 0 rfl (by intro h;cases h) (fun _ hs=>?_)|refine round_of tok (hs.get 1 rfl) ?_|refine wQ hs 1 rfl (fun _ hs=>?_)|refine zB hs 1 rfl (fun _ hs=>?_)|refine zu hs 1 rfl (by intro h;cases h) (fun _ hs=>?_)|refine round_of tok (hs.get 2 rfl) ?_|refine wQ hs 2 rfl (fun _ hs=>?_)|refine zB hs 2 rfl (fun _ hs=>?_)|refine zu hs 2 rfl (by intro h;cases h) (fun _ hs=>?_)|refine round_of tok (hs.get 3 rfl) ?_|refine wQ hs 3 rfl (fun _ hs=>?_)|refine zB hs 3 rfl (fun _ hs=>?_)|refine zu hs 3 rfl (by intro h;cases h) (fun _ hs=>?_)|refine round_of tok (hs.get 4 rfl) ?_|refine wQ hs 4 rfl (fun _ hs=>?_)|refine zB hs 4 rfl (fun _ hs=>?_)|refine zu hs 4 rfl (by intro h;cases h) (fun _ hs=>?_)|refine round_of tok (hs.get 5 rfl) ?_|refine wQ hs 5 rfl (fun _ hs=>?_)|refine zB hs 5 rfl (fun _ hs=>?_)|refine zu hs 5 rfl (by intro h;cases h) (fun _ hs=>?_)|first|(refine qi hcw ?_)|(refine ql hcw ?_)|(refine Ld_at hlt3 ?_)|(refine Ld_at hlt ?_)|(refine And.intro ?_ ?_)|exact trivial|refine hK0 _ _ ?_|fail)
     ·intro hc
      have he:m.hs[k]! = m.hs[i]! := by simpa using hc
      have hin:m.hs[i]! ∈ m.hs.take i:=by
       rw[<- he]
       rw[getElem!_pos m.hs k hlt3]
       exact List.mem_take_iff_getElem.2 ⟨k,by omega,rfl⟩
      rw[if_pos hin] at hE
      rw[hE] at h
      repeat' (first|refine nX ?_|refine nY (fun K0 hK0=>?_)|refine zSt hs ?_|refine nN hs (fun _ _ hs=>?_)|refine nS hs (fun _ _ hs=>?_)|refine sX hs (fun _ hs=>?_)|(refine hK0 _ _ ?_;clear hK0)|fail)
      exact h _ (qf hs)
     ·intro hc
      have he:m.hs[k]! ≠ m.hs[i]! := by
       intro e
       rw[e] at hc
       simp at hc
      repeat' (first|refine nX ?_|refine nY (fun K0 hK0=>?_)|refine zSt hs ?_|refine nN hs (fun _ _ hs=>?_)|refine nS hs (fun _ _ hs=>?_)|refine sX hs (fun _ hs=>?_)|(refine hK0 _ _ ?_;clear hK0)|fail)
      refine⟨⟨_,k+1⟩,⟨hs,hlt2, ?_⟩,by dsimp only;omega,Or.inl ⟨⟨rfl,rfl,rfl,rfl,trivial⟩,rfl⟩⟩
      dsimp only
      rw[htk2]
      simp only[List.mem_append,List.mem_singleton,not_or]
      exact⟨hN,fun e=>he e.symm⟩
    ·have hki:k=i:=by simp at hc;omega
     subst hki
     rw[if_neg hN] at hE
     repeat' (first|refine nX ?_|refine nY (fun K0 hK0=>?_)|refine zSt hs ?_|refine nN hs (fun _ _ hs=>?_)|refine nS hs (fun _ _ hs=>?_)|refine sX hs (fun _ hs=>?_)|(refine hK0 _ _ ?_;clear hK0)|fail)
     exact⟨⟨_,k+1⟩,⟨hs,hlt,hE⟩,by dsimp only;omega,Or.inl ⟨⟨rfl,rfl,rfl,trivial⟩,rfl⟩⟩
   ·have hie:i=m.hs.length:=by simp at hc;omega
    subst hie
    rw[List.drop_length] at hE
    rw[hE] at h
    repeat' (first|refine nX ?_|refine nY (fun K0 hK0=>?_)|refine zSt hs ?_|refine nN hs (fun _ _ hs=>?_)|refine nS hs (fun _ _ hs=>?_)|refine sX hs (fun _ hs=>?_)|(refine dI (fun hc=>?_) (fun hc=>?_) <;> try (exfalso;omega))|(refine hK0 _ _ ?_;clear hK0)|fail)
    exact h _ (qf hs)
end Go.Af.Tryz
