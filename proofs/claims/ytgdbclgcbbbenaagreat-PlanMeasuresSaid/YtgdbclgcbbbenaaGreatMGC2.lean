/-
  The form of a schedule: the reference's Sound and Rounds.
  The form of a schedule: the reference's Sound and Rounds; the law as a call.
-/
import Derived.Test.YtgdbclgcbbbenaaGreatMGC
set_option linter.all false
namespace Go.Af.Tryz.Co
open Go Go.Proofs
open Go.Af.Coll (St Ck lk upd zG emp sndP sndR zo vT xY addF badP cmpF befF faultF zU busyF)
set_option maxRecDepth 100000
set_option maxHeartbeats 4000000
attribute [local irreducible] awp qj qm qP qH qJ isCells qA qx qZ qX qI roundEnd wZ wO keyK vZ

def ftwF (x y:St):Bool:=decide (y.rd=x.rd)&&(decide (y.to=x.to)&&decide (y.ds=x.ds))
def fbsF (x y:St):Bool:=decide (y.rd=x.rd)&&(decide (x.fr≠x.to)&&(decide (y.fr≠y.to)&&((decide (y.fr=x.fr)&&decide (y.to≠x.to))||(decide (y.to=x.to)&&decide (y.fr≠x.fr)))))
theorem twice_snoc (p:List St) (y x:St):zU (p ++ [y]) x=(zU p x||ftwF x y):=by unfold zU ftwF;rw[List.any_append];simp
theorem busy_snoc (p:List St) (y x:St):busyF (p ++ [y]) x=(busyF p x||fbsF x y):=by unfold busyF fbsF;rw[List.any_append];simp

theorem c85 {H:List Blk} {t:Tk} {alg slots:Int} {l:List St} {i:Nat} {b c d:Nat} {R:Value->List Blk->Prop} (hst:Sts H l d) (hll:l.length<=1000000) (hlt:i<l.length) (h : ∀ H',HS H none' [] H' -> R (.int .i64 (faultF t.pr slots (l.take i) l[i]!)) H') :
 qj Tryz.prog 194 [schV t alg b c d l.length, .int .i64 slots, .int .i64 (i:Int)] H R:=by
 obtain ⟨w1,hd0⟩:=hst.s
 refine qc tok Tryz.call194 Tryz.func194 rfl Tryz.ntmps194 rfl (by simp) ?_
 refine vg (HS.start H none') (fun H1 b1 e1 l1 hs=>?_)
 refine qM (fun _ hKs=>hKs _ _ ?_);clear hKs
 have hd:=vK (qf hs) hd0
 repeat' (first|refine nX ?_|refine nY (fun K0 hK0=>?_)|refine bH ?_|refine bM ?_|refine iS hs ?_|refine rS hs ?_|refine eI _ (aI rfl ?_)|refine qp ?_|refine qo ?_|refine qh ?_|refine oJ ?_|refine nN hs (fun _ _ hs=>?_)|refine nS hs (fun _ _ hs=>?_)|refine sX hs (fun _ hs=>?_)|(refine hK0 _ _ ?_;clear hK0)|fail)
 refine qi hd ⟨i,rfl,hlt, ?_⟩
 refine ql hd ?_
 refine seg_st hlt ?_
 unfold faultF at h
 generalize hprev:(l.take i).getLast? = prev at h
 generalize l[i]! = x at h ⊢
 refine vg hs (fun H2 xb e2 l2 hs=>?_)
 refine vG hs 0 rfl (stC x) rfl rfl (Nat.le_of_ble_eq_true rfl) rfl (fun H3 e3 hs=>?_)
 refine hK0 _ _ ?_
 clear hK0 e1 l1 e2 l2 e3
 have hs:=hs.pick [0,1] (by decide) rfl (L' := [(true,xb, .cells true 1 (stC x)),(true,b1, .cells true 1 (schC t alg b c d l.length))])
 have bad : ∀ v H',v≠0->zo t.pr slots prev x=v->HS H none' [] H' -> R (.int .i64 v) H' := fun v H' hv he hn=>by
  have:=h H' hn
  simp only[he,ne_eq,hv,not_false_eq_true,if_true] at this
  exact this
 repeat' (first|refine nX ?_|refine nY (fun K0 hK0=>?_)|refine bH ?_|refine bM ?_|refine iS hs ?_|refine rS hs ?_|refine eI _ (aI rfl ?_)|refine qp ?_|refine qo ?_|refine qh ?_|refine oJ ?_|refine nN hs (fun _ _ hs=>?_)|refine nS hs (fun _ _ hs=>?_)|refine sX hs (fun _ hs=>?_)|(refine dI (fun hc=>?_) (fun hc=>?_) <;> try (exfalso;omega))|(refine hK0 _ _ ?_;clear hK0)|fail)
 all_goals try (
  refine bad _ _ (by decide) ?_ (qf hs)
  unfold zo
  repeat (first | rw[if_pos (by omega)] | rw[if_neg (by omega)])
  done)
 have hself : ∀ P:Prop,[Decidable P]->(P↔(x.jn<0\/2<x.jn\/badP prev x=true))->zo t.pr slots prev x=if P then 2 else 0:=fun P _ hP=>by
  unfold zo
  rw[if_neg (by omega),if_neg (by omega),if_neg (by omega)]
  simp only[hP]
 refine qG tok mx [0,1,3,7,15,31,63,127,255,511,1023,2047,4095,8191,4095,20479,65535,131071,4095,524287,1048575,2097151,4194303] [false,false,false,false,false,false,false,false,false,false,false,false,false,false,true,true,false,false,true,false,false,false,false] [0,1,2,3,4,5,6,7,8,9,10,11,12,13,14,15,16,17,18,19,20,21,22] (by kernel_rfl) ?_
 refine vC (fun K0 hK0=>?_)
 have hd8:=vK (qf hs) hd0
 rcases Nat.eq_zero_or_pos i with hi0 | hi0
 ·have hpr:prev=none:=by rw[<- hprev,hi0];rfl
  subst hpr
  repeat' (first|refine nX ?_|refine nY (fun K0 hK0=>?_)|refine bH ?_|refine bM ?_|refine iS hs ?_|refine rS hs ?_|refine eI _ (aI rfl ?_)|refine qp ?_|refine qo ?_|refine qh ?_|refine oJ ?_|refine nN hs (fun _ _ hs=>?_)|refine nS hs (fun _ _ hs=>?_)|refine sX hs (fun _ hs=>?_)|(refine dI (fun hc=>?_) (fun hc=>?_) <;> try (exfalso;omega))|(refine hK0 _ _ ?_;clear hK0)|fail)
  all_goals try (
   refine bad _ _ (by decide) ?_ (qf hs)
   unfold zo
   repeat (first | rw[if_pos (by omega)] | rw[if_neg (by omega)])
   done)
  have hself0:zo t.pr slots none x=0:=by
   have:=hself (x.jn<0\/2<x.jn) (by simp[badP])
   rw[this,if_neg (by omega)]
  simp only[hself0,ne_eq,not_true,if_false] at h
  clear bad hself
  refine qF (α := List Blk × Nat) tok (fun z=>HS H none' [(true,xb, .cells true 1 (stC x)),(true,b1, .cells true 1 (schC t alg b c d l.length))] z.1/\z.2<=i)
   (fun z=>[(2, .int .i64 ((i:Nat):Int)),(3, .pointer (some ⟨b1,0,none⟩)),(7, .pointer (some ⟨xb,0,none⟩)),(8, .bool (zU (l.take z.2) x)),(9, .bool (busyF (l.take z.2) x)),(10, .int .i64 (z.2:Int))]) (fun z=>z.1) (fun z=>i-z.2)
   (_,0) ⟨hs,Nat.zero_le _⟩ (Or.inl ⟨⟨rfl,rfl,rfl,rfl,rfl,rfl,trivial⟩,rfl⟩) ?_
  clear hs
  rintro ⟨H5,k⟩ ⟨hs,hk⟩
  dsimp only at hs hk ⊢
  have hd5:=vK (qf hs) hd0
  refine And.intro (fun hc=>?_) (fun hc=>?_)
  ·have hki:k<i:=by simp at hc;omega
   exfalso;omega
  ·have hke:k=i:=by simp at hc;omega
   subst hke
   replace h:=h _ (qf hs)
   generalize zU _ x=tw at h ⊢
   generalize busyF _ x=bs at h ⊢
   cases tw <;> cases bs
   all_goals (
    repeat' (first|refine nX ?_|refine nY (fun K0 hK0=>?_)|refine bH ?_|refine bM ?_|refine iS hs ?_|refine rS hs ?_|refine eI _ (aI rfl ?_)|refine qp ?_|refine qo ?_|refine qh ?_|refine oJ ?_|refine nN hs (fun _ _ hs=>?_)|refine nS hs (fun _ _ hs=>?_)|refine sX hs (fun _ hs=>?_)|(refine dI (fun hc=>?_) (fun hc=>?_) <;> try (exfalso;omega))|(refine hK0 _ _ ?_;clear hK0)|fail)
    exact h)
 ·obtain ⟨j,rfl⟩ : ∃ j,i=j+1:=⟨i-1,by omega⟩
  have hj:j<l.length:=by omega
  have hpr:prev=some l[j]! := by rw[<- hprev,List.take_succ_eq_append_getElem hj,List.getLast?_append,getElem!_pos l j hj];rfl
  subst hpr
  repeat' (first|refine nX ?_|refine nY (fun K0 hK0=>?_)|refine bH ?_|refine bM ?_|refine iS hs ?_|refine rS hs ?_|refine eI _ (aI rfl ?_)|refine qp ?_|refine qo ?_|refine qh ?_|refine oJ ?_|refine nN hs (fun _ _ hs=>?_)|refine nS hs (fun _ _ hs=>?_)|refine sX hs (fun _ hs=>?_)|(refine dI (fun hc=>?_) (fun hc=>?_) <;> try (exfalso;omega))|(refine hK0 _ _ ?_;clear hK0)|fail)
  all_goals try (
   refine bad _ _ (by decide) ?_ (qf hs)
   unfold zo
   repeat (first | rw[if_pos (by omega)] | rw[if_neg (by omega)])
   done)
  refine qi hd8 (Exists.intro j (And.intro (by omega) (And.intro hj ?_)))
  repeat' (first|refine nX ?_|refine nY (fun K0 hK0=>?_)|refine bH ?_|refine bM ?_|refine iS hs ?_|refine rS hs ?_|refine eI _ (aI rfl ?_)|refine qp ?_|refine qo ?_|refine qh ?_|refine oJ ?_|refine nN hs (fun _ _ hs=>?_)|refine nS hs (fun _ _ hs=>?_)|refine sX hs (fun _ hs=>?_)|(refine dI (fun hc=>?_) (fun hc=>?_) <;> try (exfalso;omega))|(refine hK0 _ _ ?_;clear hK0)|fail)
  refine ql hd8 ?_
  refine seg_st hj ?_
  repeat' (first|refine nX ?_|refine nY (fun K0 hK0=>?_)|refine bH ?_|refine bM ?_|refine iS hs ?_|refine rS hs ?_|refine eI _ (aI rfl ?_)|refine qp ?_|refine qo ?_|refine qh ?_|refine oJ ?_|refine nN hs (fun _ _ hs=>?_)|refine nS hs (fun _ _ hs=>?_)|refine sX hs (fun _ hs=>?_)|(refine dI (fun hc=>?_) (fun hc=>?_) <;> try (exfalso;omega))|(refine hK0 _ _ ?_;clear hK0)|fail)
  generalize l[j]! = y at hself bad h ⊢
  refine c153 (fun H9 hn=>?_)
  have hs:=qR hs hn
  clear hn
  have hb:badP (some y) x = !befF y x:=rfl
  generalize befF y x=bf at hb ⊢
  cases bf with
  | false =>
    repeat' (first|refine nX ?_|refine nY (fun K0 hK0=>?_)|refine bH ?_|refine bM ?_|refine iS hs ?_|refine rS hs ?_|refine eI _ (aI rfl ?_)|refine qp ?_|refine qo ?_|refine qh ?_|refine oJ ?_|refine nN hs (fun _ _ hs=>?_)|refine nS hs (fun _ _ hs=>?_)|refine sX hs (fun _ hs=>?_)|(refine dI (fun hc=>?_) (fun hc=>?_) <;> try (exfalso;omega))|(refine hK0 _ _ ?_;clear hK0)|fail)
    refine bad 2 _ (by decide) ?_ (qf hs)
    rw[hself (x.jn<0\/2<x.jn\/badP (some y) x=true) Iff.rfl,if_pos]
    exact .inr (.inr (by rw[hb];rfl))
  | true =>
    have hself0:zo t.pr slots (some y) x=0:=by
     rw[hself (x.jn<0\/2<x.jn) (by simp[hb]),if_neg (by omega)]
    repeat' (first|refine nX ?_|refine nY (fun K0 hK0=>?_)|refine bH ?_|refine bM ?_|refine iS hs ?_|refine rS hs ?_|refine eI _ (aI rfl ?_)|refine qp ?_|refine qo ?_|refine qh ?_|refine oJ ?_|refine nN hs (fun _ _ hs=>?_)|refine nS hs (fun _ _ hs=>?_)|refine sX hs (fun _ hs=>?_)|(refine dI (fun hc=>?_) (fun hc=>?_) <;> try (exfalso;omega))|(refine hK0 _ _ ?_;clear hK0)|fail)
    simp only[hself0,ne_eq,not_true,if_false] at h
    clear bad hself
    refine qF (α := List Blk × Nat) tok (fun z=>HS H none' [(true,xb, .cells true 1 (stC x)),(true,b1, .cells true 1 (schC t alg b c d l.length))] z.1/\z.2<=(j+1))
     (fun z=>[(2, .int .i64 (((j+1):Nat):Int)),(3, .pointer (some ⟨b1,0,none⟩)),(7, .pointer (some ⟨xb,0,none⟩)),(8, .bool (zU (l.take z.2) x)),(9, .bool (busyF (l.take z.2) x)),(10, .int .i64 (z.2:Int))]) (fun z=>z.1) (fun z=>(j+1)-z.2)
     (_,0) ⟨hs,Nat.zero_le _⟩ (Or.inl ⟨⟨rfl,rfl,rfl,rfl,rfl,rfl,trivial⟩,rfl⟩) ?_
    clear hs
    rintro ⟨H5,k⟩ ⟨hs,hk⟩
    dsimp only at hs hk ⊢
    have hd5:=vK (qf hs) hd0
    refine And.intro (fun hc=>?_) (fun hc=>?_)
    ·have hki:k<(j+1):=by simp at hc;omega
     clear hc
     have hkl:k<l.length:=by omega
     have et:zU (l.take (k+1)) x=(zU (l.take k) x||ftwF x l[k]!):=by rw[List.take_succ_eq_append_getElem hkl,twice_snoc,getElem!_pos l k hkl]
     have eb:busyF (l.take (k+1)) x=(busyF (l.take k) x||fbsF x l[k]!):=by rw[List.take_succ_eq_append_getElem hkl,busy_snoc,getElem!_pos l k hkl]
     generalize zU (l.take k) x=tw at et ⊢
     generalize busyF (l.take k) x=bs at eb ⊢
     cases tw <;> cases bs
     all_goals refine vcg_seqG (fun q0 q1 q2 q3=>?_)
     all_goals (
      repeat' (first|refine nX ?_|refine nY (fun K0 hK0=>?_)|refine bH ?_|refine bM ?_|refine iS hs ?_|refine rS hs ?_|refine eI _ (aI rfl ?_)|refine qp ?_|refine qo ?_|refine qh ?_|refine oJ ?_|refine nN hs (fun _ _ hs=>?_)|refine nS hs (fun _ _ hs=>?_)|refine sX hs (fun _ hs=>?_)|(refine dI (fun hc=>?_) (fun hc=>?_) <;> try (exfalso;omega))|(refine hK0 _ _ ?_;clear hK0)|fail)
      refine qi hd5 ⟨k,rfl,hkl, ?_⟩
      refine ql hd5 ?_
      refine seg_st hkl ?_
      generalize l[k]! = y at et eb ⊢
      refine vg hs (fun H6 yb e6 l6 hs=>?_)
      refine vG hs 0 rfl (stC y) rfl rfl (Nat.le_of_ble_eq_true rfl) rfl (fun H7 e7 hs=>?_)
      refine hK0 _ _ ?_
      clear hK0 e6 l6 e7
      have hs:=hs.pick [0,1,2] (by decide) rfl (L' := [(true,yb, .cells true 1 (stC y)),(true,xb, .cells true 1 (stC x)),(true,b1, .cells true 1 (schC t alg b c d l.length))])
      repeat' (first|refine nX ?_|refine nY (fun K0 hK0=>?_)|refine bH ?_|refine bM ?_|refine iS hs ?_|refine rS hs ?_|refine eI _ (aI rfl ?_)|refine qp ?_|refine qo ?_|refine qh ?_|refine oJ ?_|refine nN hs (fun _ _ hs=>?_)|refine nS hs (fun _ _ hs=>?_)|refine sX hs (fun _ hs=>?_)|(refine dI (fun hc=>?_) (fun hc=>?_) <;> try (exfalso;omega))|(refine hK0 _ _ ?_;clear hK0)|fail)
      skip)
     all_goals (
      refine q1 _ _ ?_
      refine Or.inl ⟨((k+1:Nat):Int),by simp,by unfold I64;omega, ?_⟩
      refine⟨(_,k+1),⟨hs.pick [1,2] (by decide) rfl,hki⟩,by dsimp only;omega,Or.inl ⟨⟨rfl,rfl,rfl, ?_, ?_,rfl,trivial⟩,rfl⟩⟩
      ·show some (Value.bool _)=some (Value.bool _)
       rw[et]
       refine congrArg (fun q=>some (Value.bool q)) ?_
       unfold ftwF
       first
        | rfl
        | (rw[Bool.eq_iff_iff];simp only[Bool.or_eq_true,Bool.and_eq_true,decide_eq_true_eq,Bool.not_eq_true',decide_eq_false_iff_not,ne_eq,Bool.false_eq_true,true_iff,false_iff,iff_true,iff_false,false_or,true_or,Bool.false_or,Bool.true_or];omega)
        | (simp only[Bool.or_eq_true,Bool.and_eq_true,Bool.false_or,Bool.true_or];rw[Bool.eq_iff_iff];simp only[Bool.or_eq_true,Bool.and_eq_true,decide_eq_true_eq,Bool.not_eq_true',decide_eq_false_iff_not,ne_eq,Bool.false_eq_true,true_iff,false_iff,iff_true,iff_false,false_or,true_or];omega)
      ·show some (Value.bool _)=some (Value.bool _)
       rw[eb]
       refine congrArg (fun q=>some (Value.bool q)) ?_
       unfold fbsF
       first
        | rfl
        | (rw[Bool.eq_iff_iff];simp only[Bool.or_eq_true,Bool.and_eq_true,decide_eq_true_eq,Bool.not_eq_true',decide_eq_false_iff_not,ne_eq,Bool.false_eq_true,true_iff,false_iff,iff_true,iff_false,false_or,true_or,Bool.false_or,Bool.true_or];omega)
        | (simp only[Bool.or_eq_true,Bool.and_eq_true,Bool.false_or,Bool.true_or];rw[Bool.eq_iff_iff];simp only[Bool.or_eq_true,Bool.and_eq_true,decide_eq_true_eq,Bool.not_eq_true',decide_eq_false_iff_not,ne_eq,Bool.false_eq_true,true_iff,false_iff,iff_true,iff_false,false_or,true_or];omega)
       done)
    ·have hke:k=(j+1):=by simp at hc;omega
     subst hke
     replace h:=h _ (qf hs)
     generalize zU _ x=tw at h ⊢
     generalize busyF _ x=bs at h ⊢
     cases tw <;> cases bs
     all_goals (
      repeat' (first|refine nX ?_|refine nY (fun K0 hK0=>?_)|refine bH ?_|refine bM ?_|refine iS hs ?_|refine rS hs ?_|refine eI _ (aI rfl ?_)|refine qp ?_|refine qo ?_|refine qh ?_|refine oJ ?_|refine nN hs (fun _ _ hs=>?_)|refine nS hs (fun _ _ hs=>?_)|refine sX hs (fun _ hs=>?_)|(refine dI (fun hc=>?_) (fun hc=>?_) <;> try (exfalso;omega))|(refine hK0 _ _ ?_;clear hK0)|fail)
      exact h)
end Go.Af.Tryz.Co
namespace Go.Af.Tryz.Co
open Go Go.Proofs
open Go.Af.Coll (Ck lk upd zG emp sndP sndR zo vT xY addF badP cmpF befF faultF zU busyF snd_eq Pst)
set_option maxRecDepth 100000
set_option maxHeartbeats 4000000
attribute [local irreducible] awp qj qm qP qH qJ isCells qA qx qZ qX qI roundEnd wZ wO keyK vZ

theorem snd_ref (t:Tk) (l:List Coll.St):sndP t.pr (sltF t) none emp l=sndR t.pr (sltF t) [] l:=snd_eq t.pr (sltF t) l [] emp ⟨rfl,rfl⟩
theorem c30 {H:List Blk} {t:Tk} {alg:Int} {l:List Coll.St} {b c d:Nat} {R:Value->List Blk->Prop} (gr:Gr H t.sz b) (hst:Sts H l d) (hl:t.sz.length<=10) (hw:t.ws.length<=10) (hll:l.length<=1000000) (h : ∀ H',HS H none' [] H' -> R (.int .i64 (sndF t l)) H') :
 qj Tryz.prog 104 [schV t alg b c d l.length] H R:=by
 refine qc tok Tryz.call104 Tryz.func104 rfl Tryz.ntmps104 rfl (by simp) ?_
 refine vg (HS.start H none') (fun H1 b1 e1 l1 hs=>?_)
 refine qM (fun _ hKs=>hKs _ _ ?_);clear hKs
 clear e1 l1
 repeat' (first|refine nX ?_|refine nY (fun K0 hK0=>?_)|refine bH ?_|refine bM ?_|refine iS hs ?_|refine rS hs ?_|refine eI _ (aI rfl ?_)|refine qp ?_|refine qo ?_|refine qh ?_|refine oJ ?_|refine nN hs (fun _ _ hs=>?_)|refine nS hs (fun _ _ hs=>?_)|refine sX hs (fun _ hs=>?_)|(refine hK0 _ _ ?_;clear hK0)|fail)
 refine c35 (gr.up (qf hs)) hl hw (fun H2 hn=>?_)
 have hs:=qR hs hn
 clear hn
 unfold sndF at h
 rw[snd_ref] at h
 repeat' (first|refine nX ?_|refine nY (fun K0 hK0=>?_)|refine bH ?_|refine bM ?_|refine iS hs ?_|refine rS hs ?_|refine eI _ (aI rfl ?_)|refine qp ?_|refine qo ?_|refine qh ?_|refine oJ ?_|refine nN hs (fun _ _ hs=>?_)|refine nS hs (fun _ _ hs=>?_)|refine sX hs (fun _ hs=>?_)|(refine hK0 _ _ ?_;clear hK0)|fail)
 by_cases h0:chkF t=0
 ·rw[h0]
  rw[h0] at h
  simp only[ne_eq,not_true,if_false] at h
  generalize sltF t=slots at h ⊢
  repeat' (first|refine nX ?_|refine nY (fun K0 hK0=>?_)|refine bH ?_|refine bM ?_|refine iS hs ?_|refine rS hs ?_|refine eI _ (aI rfl ?_)|refine qp ?_|refine qo ?_|refine qh ?_|refine oJ ?_|refine nN hs (fun _ _ hs=>?_)|refine nS hs (fun _ _ hs=>?_)|refine sX hs (fun _ hs=>?_)|(refine hK0 _ _ ?_;clear hK0)|fail)
  refine qF (α := List Blk × Nat) tok (fun z=>HS H none' [(true,b1, .cells true 1 (schC t alg b c d l.length))] z.1/\z.2<=l.length/\sndR t.pr slots [] l=sndR t.pr slots (l.take z.2) (l.drop z.2))
   (fun z=>[(1, .pointer (some ⟨b1,0,none⟩)),(3, .int .i64 slots),(5, .int .i64 (z.2:Int))]) (fun z=>z.1) (fun z=>l.length-z.2)
   (_,0) ⟨hs,Nat.zero_le _,rfl⟩ (Or.inl ⟨⟨rfl,rfl,rfl,trivial⟩,rfl⟩) ?_
  clear hs
  rintro ⟨H5,i⟩ ⟨hs,hi,hsp⟩
  dsimp only at hs hi hsp ⊢
  refine And.intro (by decide) ?_
  refine qi (hs.get 0 rfl) ?_
  refine ql (hs.get 0 rfl) ⟨_,rfl, ?_⟩
  refine And.intro (fun hc=>?_) (fun hc=>?_)
  ·have hlt:i<l.length:=by simp at hc;omega
   clear hc
   have hdr:l.drop i=l[i]! :: l.drop (i+1):=by rw[getElem!_pos l i hlt];exact List.drop_eq_getElem_cons hlt
   have htk:l.take (i+1)=l.take i ++ [l[i]!]:=by rw[List.take_succ_eq_append_getElem hlt,getElem!_pos l i hlt]
   rw[hdr] at hsp
   simp only[sndR] at hsp
   rw[<- htk] at hsp
   refine vcg_seqG (fun q0 q1 q2 q3=>?_)
   repeat' (first|refine nX ?_|refine nY (fun K0 hK0=>?_)|refine bH ?_|refine bM ?_|refine iS hs ?_|refine rS hs ?_|refine eI _ (aI rfl ?_)|refine qp ?_|refine qo ?_|refine qh ?_|refine oJ ?_|refine nN hs (fun _ _ hs=>?_)|refine nS hs (fun _ _ hs=>?_)|refine sX hs (fun _ hs=>?_)|(refine hK0 _ _ ?_;clear hK0)|fail)
   refine c85 (hst.up (qf hs)) hll hlt (fun H6 hn=>?_)
   have hs:=qR hs hn
   clear hn
   generalize faultF t.pr slots (l.take i) l[i]! = f at hsp ⊢
   repeat' (first|refine nX ?_|refine nY (fun K0 hK0=>?_)|refine bH ?_|refine bM ?_|refine iS hs ?_|refine rS hs ?_|refine eI _ (aI rfl ?_)|refine qp ?_|refine qo ?_|refine qh ?_|refine oJ ?_|refine nN hs (fun _ _ hs=>?_)|refine nS hs (fun _ _ hs=>?_)|refine sX hs (fun _ hs=>?_)|(refine dI (fun hc=>?_) (fun hc=>?_) <;> try (exfalso;omega))|(refine hK0 _ _ ?_;clear hK0)|fail)
   ·refine q3 _ _ ?_
    rw[if_pos (by omega)] at hsp
    have:=h _ (qf hs)
    rw[hsp] at this
    exact this
   ·refine q1 _ _ ?_
    rw[if_neg (by omega)] at hsp
    refine Or.inl ⟨((i+1:Nat):Int),by simp,by unfold I64;omega, ?_⟩
    exact⟨(_,i+1),⟨hs,hlt,hsp⟩,by dsimp only;omega,Or.inl ⟨⟨rfl,rfl,rfl,trivial⟩,rfl⟩⟩
  ·have hie:i=l.length:=by simp at hc;omega
   subst hie
   rw[List.drop_length] at hsp
   have:=h _ (qf hs)
   rw[hsp] at this
   exact this
 ·generalize chkF t=z at h0 h ⊢
  rw[if_pos h0] at h
  repeat' (first|refine nX ?_|refine nY (fun K0 hK0=>?_)|refine bH ?_|refine bM ?_|refine iS hs ?_|refine rS hs ?_|refine eI _ (aI rfl ?_)|refine qp ?_|refine qo ?_|refine qh ?_|refine oJ ?_|refine nN hs (fun _ _ hs=>?_)|refine nS hs (fun _ _ hs=>?_)|refine sX hs (fun _ hs=>?_)|(refine dI (fun hc=>?_) (fun hc=>?_) <;> try (exfalso;omega))|(refine hK0 _ _ ?_;clear hK0)|fail)
  all_goals exact h _ (qf hs)
theorem c28 {H:List Blk} {t:Tk} {alg:Int} {l:List Coll.St} {b c d:Nat} {R:Value->List Blk->Prop} (gr:Gr H t.sz b) (hst:Sts H l d) (hl:t.sz.length<=10) (hw:t.ws.length<=10) (hll:l.length<=1000000) (h : ∀ H',HS H none' [] H' -> R (.tuple ⟨[.int .i64 (rndF t l), .int .i64 (sndF t l)]⟩) H') :
 qj Tryz.prog 54 [schV t alg b c d l.length] H R:=by
 obtain ⟨w1,hd0⟩:=hst.s
 refine qc tok Tryz.call54 Tryz.func54 rfl Tryz.ntmps54 rfl (by simp) ?_
 refine vg (HS.start H none') (fun H1 b1 e1 l1 hs=>?_)
 refine qM (fun _ hKs=>hKs _ _ ?_);clear hKs
 repeat' (first|refine nX ?_|refine nY (fun K0 hK0=>?_)|refine bH ?_|refine bM ?_|refine iS hs ?_|refine rS hs ?_|refine eI _ (aI rfl ?_)|refine qp ?_|refine qo ?_|refine qh ?_|refine oJ ?_|refine nN hs (fun _ _ hs=>?_)|refine nS hs (fun _ _ hs=>?_)|refine sX hs (fun _ hs=>?_)|(refine hK0 _ _ ?_;clear hK0)|fail)
 refine c30 (gr.up (qf hs)) (hst.up (qf hs)) hl hw hll (fun H2 hn=>?_)
 have hs:=qR hs hn
 clear hn
 have hd:=vK (qf hs) hd0
 replace h:=h H2 (qf hs)
 have hrg:sndF t l=0->∀ x∈l,0<=x.rd/\x.rd<256:=fun h0=>by
  unfold sndF at h0
  split at h0
  ·rename_i hz;exact absurd h0 hz
  ·exact snd_rg h0
 unfold rndF at h
 generalize sndF t l=z at h hrg ⊢
 repeat' (first|refine nX ?_|refine nY (fun K0 hK0=>?_)|refine bH ?_|refine bM ?_|refine iS hs ?_|refine rS hs ?_|refine eI _ (aI rfl ?_)|refine qp ?_|refine qo ?_|refine qh ?_|refine oJ ?_|refine nN hs (fun _ _ hs=>?_)|refine nS hs (fun _ _ hs=>?_)|refine sX hs (fun _ hs=>?_)|(refine dI (fun hc=>?_) (fun hc=>?_) <;> try (exfalso;omega))|(refine hK0 _ _ ?_;clear hK0)|fail)
 all_goals try (
  (repeat (first | rw[if_pos (by omega)] at h | rw[if_neg (by omega)] at h))
  exact h;done)
 have hlt:l.length-1<l.length:=by omega
 have hx:=hrg (by omega) l[l.length-1]! (by rw[getElem!_pos l _ hlt];exact List.getElem_mem _)
 rw[if_neg (by omega)] at h
 refine qi hd (Exists.intro (l.length-1) (And.intro (by omega) (And.intro hlt ?_)))
 repeat' (first|refine nX ?_|refine nY (fun K0 hK0=>?_)|refine bH ?_|refine bM ?_|refine iS hs ?_|refine rS hs ?_|refine eI _ (aI rfl ?_)|refine qp ?_|refine qo ?_|refine qh ?_|refine oJ ?_|refine nN hs (fun _ _ hs=>?_)|refine nS hs (fun _ _ hs=>?_)|refine sX hs (fun _ hs=>?_)|(refine dI (fun hc=>?_) (fun hc=>?_) <;> try (exfalso;omega))|(refine hK0 _ _ ?_;clear hK0)|fail)
 refine qi hd ?_
 repeat' (first|refine nX ?_|refine nY (fun K0 hK0=>?_)|refine bH ?_|refine bM ?_|refine iS hs ?_|refine rS hs ?_|refine eI _ (aI rfl ?_)|refine qp ?_|refine qo ?_|refine qh ?_|refine oJ ?_|refine nN hs (fun _ _ hs=>?_)|refine nS hs (fun _ _ hs=>?_)|refine sX hs (fun _ hs=>?_)|(refine dI (fun hc=>?_) (fun hc=>?_) <;> try (exfalso;omega))|(refine hK0 _ _ ?_;clear hK0)|fail)
 refine ql hd ?_
 refine Ld_st (k:=0) hlt (by decide) rfl ?_
 generalize l[l.length-1]! = x at h hx ⊢
 repeat' (first|refine nX ?_|refine nY (fun K0 hK0=>?_)|refine bH ?_|refine bM ?_|refine iS hs ?_|refine rS hs ?_|refine eI _ (aI rfl ?_)|refine qp ?_|refine qo ?_|refine qh ?_|refine oJ ?_|refine nN hs (fun _ _ hs=>?_)|refine nS hs (fun _ _ hs=>?_)|refine sX hs (fun _ hs=>?_)|(refine dI (fun hc=>?_) (fun hc=>?_) <;> try (exfalso;omega))|(refine hK0 _ _ ?_;clear hK0)|fail)
 have hz:z=0:=by omega
 subst hz
 exact h

end Go.Af.Tryz.Co
