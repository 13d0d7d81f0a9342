/- A part of the proof. -/
import Derived.Test.YtmnjcogpchodhaaGreatMGB
import Derived.Test.YtmnjcogpchodhaaGreatMCA
set_option linter.all false
set_option maxHeartbeats 4000000
set_option maxRecDepth 100000
namespace Go.Af.Tryz
open Go Go.Proofs
open Go.Af.Coll (St Ck lk upd zh emp)
attribute [local irreducible] awp qj qJ qL qC qo isCells qx qp qA qw qh roundEnd zG wX keyK vY

abbrev mpW (W:List (Int × Int)):Blk := .map true (entW W) W.length
abbrev mpI (S:List (Int × Int)):Blk := .map true (entI S) S.length
abbrev ckC (w s g:Nat):List Value := [.map (some w), .map (some s), .map (some g)]
theorem lookW {H:List Blk} {m n:Nat} {wr:Bool} {W:List (Int × Int)} {a b:Int} {K:Value->Prop} (hm:bget H m=some (.map wr (entW W) n)) (h:K (.bool (decide ((a,b)∈W)))) :
 zG H m (fun es=>keyK Tryz.prog T 146 (.agg ⟨[.int .i64 a, .int .i64 b]⟩) (vY Tryz.prog T H 146 (.agg ⟨[.int .i64 a, .int .i64 b]⟩) es 0 (fun r=>lkK false (.bool false) es r K))):=by
 refine Vz hm (YF (mfind_W (fun j hj=>?_) (fun hn=>?_)))
 ·refine⟨_,by unfold entW;rw[List.getElem?_mapIdx,hj];rfl, ?_⟩
  rw[decide_eq_true (List.mem_of_getElem? hj)] at h;exact h
 ·rw[decide_eq_false hn] at h
  exact h
theorem lookI {H:List Blk} {m n:Nat} {wr:Bool} {S:List (Int × Int)} {a:Int} {K:Value->Prop} (hm:bget H m=some (.map wr (entI S) n)) (h:K (.tuple ⟨[.int .i64 ((lk S a).getD 0), .bool (lk S a).isSome]⟩)) :
 zG H m (fun es=>keyK Tryz.prog T 3 (.int .i64 a) (vY Tryz.prog T H 3 (.int .i64 a) es 0 (fun r=>lkK true (.int .i64 0) es r K))):=by
 refine Vz hm (keyK3 (mfind_I (fun j v hj hb=>?_) (fun hn=>?_)))
 ·refine⟨_,by unfold entI;rw[List.getElem?_mapIdx,hj];rfl, ?_⟩
  rw[lk_get hj hb] at h;exact h
 ·rw[lk_none hn] at h
  exact h
section
variable {H0 H:List Blk} {o:Nat->Prop} {L:List (Bool × Nat × Blk)}
theorem QA (hs:HS H0 o L H) (i:Nat) {m:Nat} {W:List (Int × Int)} {a b:Int} {K:List Blk->Prop} (hi:L[i]? = some (true,m,mpW W)) (hn:(a,b) ∉ W) (k : ∀ H',HS H0 o (L.set i (true,m,mpW (W ++ [(a,b)]))) H' -> K H') :
 wX H m (fun es clock=>keyK Tryz.prog T 146 (.agg ⟨[.int .i64 a, .int .i64 b]⟩) (vY Tryz.prog T H 146 (.agg ⟨[.int .i64 a, .int .i64 b]⟩) es 0 (fun r=>match r with
  | some p=>wG H m (.map true (es.modify p (fun e=>{ e with key := .agg ⟨[.int .i64 a, .int .i64 b]⟩,val := .bool true })) clock) K
  | none=>wG H m (.map true (es ++ [⟨.agg ⟨[.int .i64 a, .int .i64 b]⟩, .bool true,clock⟩]) (clock+1)) K))):=by
 refine yU (hs.get i hi) (YF (mfind_W (fun j hj=>absurd (List.mem_of_getElem? hj) hn) (fun _=>?_)));refine wY (hs.lt i hi) (fun H' h1 h2 h3=>k H' ?_);rw[entW_snoc] at h2;refine hs.set i hi h1 ?_ h3;rw[h2];simp
theorem QB (hs:HS H0 o L H) (i:Nat) {m:Nat} {S:List (Int × Int)} {a z:Int} {K:List Blk->Prop} (hi:L[i]? = some (true,m,mpI S)) (k : ∀ H',HS H0 o (L.set i (true,m,mpI (upd S a z))) H' -> K H') :
 wX H m (fun es clock=>keyK Tryz.prog T 3 (.int .i64 a) (vY Tryz.prog T H 3 (.int .i64 a) es 0 (fun r=>match r with
  | some p=>wG H m (.map true (es.modify p (fun e=>{ e with key := .int .i64 a,val := .int .i64 z })) clock) K
  | none=>wG H m (.map true (es ++ [⟨.int .i64 a, .int .i64 z,clock⟩]) (clock+1)) K))):=by
 refine yU (hs.get i hi) (keyK3 (mfind_I (fun j v hj hb=>?_) (fun hn=>?_)))
 ·refine wY (hs.lt i hi) (fun H' h1 h2 h3=>k H' ?_)
  rw[entI_set hj] at h2;refine hs.set i hi h1 ?_ h3;rw[h2,upd_at hj hb];simp
 ·refine wY (hs.lt i hi) (fun H' h1 h2 h3=>k H' ?_)
  rw[entI_snoc] at h2;refine hs.set i hi h1 ?_ h3;rw[h2,upd_new hn];simp
end

theorem c83 {H:List Blk} {R:Value->List Blk->Prop} (h : ∀ H' w s g,HS H none' [(true,w,mpW []),(true,s,mpI []),(true,g,mpI [])] H' -> R (.agg ⟨ckC w s g⟩) H'):qj Tryz.prog 83 [] H R:=by
 refine qf tok Tryz.call83 Tryz.func83 rfl Tryz.ntmps83 rfl (by simp) ?_;refine qi (HS.start H none') (fun H1 b1 e1 l1 hs=>?_);refine qi hs (fun H2 w e2 l2 hs=>?_);refine qi hs (fun H3 s e3 l3 hs=>?_);refine qi hs (fun H4 g e4 l4 hs=>?_);refine vz hs 3 rfl (ckC w s g) rfl rfl (Nat.le_of_ble_eq_true rfl) rfl (fun H5 e5 hs=>?_);change resK T _ _ _ _;refine ve (by rfl) (by rfl) (hs.get 3 rfl) (by rfl) ?_;refine⟨_,rfl,_,rfl,_,rfl, ?_⟩;exact h H5 w s g (hs.pick [2,1,0] (by decide) rfl)
theorem c84 {H:List Blk} {w s g n2 n3:Nat} {wr2 wr3:Bool} {c:Ck} {x:St} {R:Value->List Blk->Prop} (hs1:bget H s=some (.map wr2 (entI c.S) n2)) (hg1:bget H g=some (.map wr3 (entI c.G) n3)) (h : ∀ H',HS H none' [] H' -> R (.bool (zh c x)) H') :
 qj Tryz.prog 84 [.agg ⟨ckC w s g⟩,stV x] H R:=by
 refine qf tok Tryz.call84 Tryz.func84 rfl Tryz.ntmps84 rfl (by simp) ?_;refine qi (HS.start H none') (fun H1 b1 e1 l1 hs=>?_);refine qi hs (fun H2 b2 e2 l2 hs=>?_);have hs1:=qM (qc hs) hs1;have hg1:=qM (qc hs) hg1
 replace h:=h _ (qc hs)
 unfold zh at h;refine qg (fun _ hKs=>hKs _ _ ?_);clear hKs
 repeat' (first|refine nY (fun K0 hK0=>?_)|refine zAw ?_|refine zNw (fun _ _ hs=>?_)|fail)
 refine lookI hs1 ?_
 repeat' (first|refine nY (fun K0 hK0=>?_)|refine zAw ?_|refine zNw (fun _ _ hs=>?_)|fail)
 refine lookI hg1 ?_
 cases q1:lk c.S x.fr with
 | none =>
   cases q2:lk c.G x.to with
   | none =>
     simp only[q1,q2] at h;simp only[Option.getD_none,Option.isSome_none]
     repeat' (first|refine nY (fun K0 hK0=>?_)|refine zAw ?_|refine zNw (fun _ _ hs=>?_)|fail)
     exact h
   | some f =>
     simp only[q1,q2,Bool.true_and] at h;simp only[Option.getD_none,Option.isSome_none,Option.getD_some,Option.isSome_some]
     repeat' (first|refine nY (fun K0 hK0=>?_)|refine zAw ?_|refine zNw (fun _ _ hs=>?_)|fail)
     exact h
 | some t =>
   cases q2:lk c.G x.to with
   | none =>
     simp only[q1,q2,Bool.and_true] at h;simp only[Option.getD_none,Option.isSome_none,Option.getD_some,Option.isSome_some]
     repeat' (first|refine nY (fun K0 hK0=>?_)|refine zAw ?_|refine zNw (fun _ _ hs=>?_)|(refine dI (fun hc=>?_) (fun hc=>?_) <;> try (exfalso;omega))|fail)
     all_goals (simp[hc] at h;exact h)
   | some f =>
     simp only[q1,q2] at h;simp only[Option.getD_some,Option.isSome_some]
     repeat' (first|refine nY (fun K0 hK0=>?_)|refine zAw ?_|refine zNw (fun _ _ hs=>?_)|(refine dI (fun hc=>?_) (fun hc=>?_) <;> try (exfalso;omega))|fail)
     all_goals (simp[hc] at h;exact h)

/-! ### Schedules -/
abbrev schC (t:Tk) (alg:Int) (b c d n:Nat):List Value := [.int .i64 t.op, .int .i64 t.pr, .int .i64 t.ro, .int .i64 t.pa,sv b t.sz.length,sv c t.ws.length, .int .i64 alg,sv d n]
abbrev schV (t:Tk) (alg:Int) (b c d n:Nat):Value := .agg ⟨schC t alg b c d n⟩
structure Sts (H:List Blk) (l:List St) (d:Nat):Prop where
 s : ∃ w,bget H d=some (.cells w 6 (stsC l))
theorem Sts.up {H H' : List Blk} {l:List St} {d:Nat} (g:Sts H l d) (h:HS H none' [] H'):Sts H' l d:=⟨g.s.imp fun _ hb=>qM h hb⟩
end Go.Af.Tryz
namespace Go.Af.Tryz
open Go Go.Proofs
open Go.Af.Coll (St Ck lk upd zh emp sndP zF vK zJ addF badP cmpF befF)
attribute [local irreducible] awp qj qJ qL qC qo isCells qx qp qA qw qh roundEnd zG wX keyK vY

def sndF (t:Tk) (l:List St):Int:=if chkF t≠0 then chkF t else sndP t.pr (sltF t) none emp l
structure SS where
 H:List Blk
 i:Nat
 kb:Nat
 w:Nat
 s:Nat
 g:Nat
 ck:Ck
theorem c29 {H:List Blk} {t:Tk} {alg:Int} {l:List St} {b c d:Nat} {R:Value->List Blk->Prop} (gr:Gr H t.sz b) (hst:Sts H l d) (hl:t.sz.length<=9223372036854775807) (hw:t.ws.length<=9223372036854775807) (hll:l.length<=9223372036854775807) (h : ∀ H',HS H none' [] H' -> R (.int .i64 (sndF t l)) H') :
 qj Tryz.prog 29 [schV t alg b c d l.length] H R:=by
 obtain ⟨w0,hb⟩:=gr.s;obtain ⟨w1,hd0⟩:=hst.s;have hd:=hd0;refine qf tok Tryz.call29 Tryz.func29 rfl Tryz.ntmps29 rfl (by simp) ?_;refine qi (HS.start H none') (fun H1 b1 e1 l1 hs=>?_);refine qg (fun _ hKs=>hKs _ _ ?_);clear hKs;have hb:=qM (qc hs) hb;have hd:=qM (qc hs) hd
 repeat' (first|refine nY (fun K0 hK0=>?_)|refine zAw ?_|refine zNw (fun _ _ hs=>?_)|fail)
 refine c34 ⟨_,hb⟩ hl hw (fun H2 hn=>?_);have hs:=qK hs hn;have hb:=qM hn hb;have hd:=qM hn hd;clear hn;unfold sndF at h
 repeat' (first|refine nY (fun K0 hK0=>?_)|refine zAw ?_|refine zNw (fun _ _ hs=>?_)|fail)
 by_cases h0:chkF t=0
 ·rw[h0]
  rw[h0] at h;simp only[ne_eq,not_true,if_false] at h;have k:=yz h0;have hr:=ww k;have hsl:sltF t=blkF t*t.pa:=by unfold sltF;rw[if_pos h0]
  have hsb:1<=sltF t/\sltF t<=2048:=by rw[hsl];exact hr.2.2
  have hpb:=k.pr;generalize sltF t=slots at h hsb ⊢
  repeat' (first|refine nY (fun K0 hK0=>?_)|refine zAw ?_|refine zNw (fun _ _ hs=>?_)|fail)
  refine c83 (fun H3 w s g hn=>?_);have hs:=hs.call hn rfl;clear hn;refine qi hs (fun H4 kb e4 l4 hs=>?_);refine vz hs 0 rfl (ckC w s g) rfl rfl (Nat.le_of_ble_eq_true rfl) rfl (fun H5 e5 hs=>?_);refine hK0 _ _ ?_;clear hK0 e4 l4 e5 hd hb;have hs:=hs.pick [0,1,2,3,4] (by decide) rfl (L' := [(true,kb, .cells true 1 (ckC w s g)),(true,w,mpW []),(true,s,mpI []),(true,g,mpI []),(true,b1, .cells true 1 (schC t alg b c d l.length))])
  repeat' (first|refine nY (fun K0 hK0=>?_)|refine zAw ?_|refine zNw (fun _ _ hs=>?_)|fail)
  refine qE (α := SS) tok (fun z=>HS H none' [(true,kb, .cells true 1 (ckC z.w z.s z.g)),(true,z.w,mpW z.ck.W),(true,z.s,mpI z.ck.S),(true,z.g,mpI z.ck.G),(true,b1, .cells true 1 (schC t alg b c d l.length))] z.H/\z.i<=l.length/\sndP t.pr slots none emp l=sndP t.pr slots (l.take z.i).getLast? z.ck (l.drop z.i)/\∀ j,j<z.i->Rg l[j]!)
   (fun z=>[(1, .pointer (some ⟨b1,0,none⟩)),(3, .int .i64 slots),(5, .pointer (some ⟨kb,0,none⟩)),(19,sv d l.length),(20, .int .i64 (l.length:Int)),(21, .int .i64 (z.i:Int))]) (fun z=>z.H) (fun z=>l.length-z.i)
   ⟨H5,0,kb,w,s,g,emp⟩ ⟨hs,Nat.zero_le _,rfl,fun j hj=>absurd hj (by simp)⟩ (Or.inl ⟨⟨rfl,rfl,rfl,rfl,rfl,rfl,trivial⟩,rfl⟩) ?_
  clear hs;rintro ⟨H6,i,kb',w,s,g,ck⟩ ⟨hs,hi,hsp,hrg⟩;dsimp only at hs hi hsp hrg ⊢;refine And.intro (fun hc=>?_) (fun hc=>?_)
  ·have hlt:i<l.length:=by simp at hc;omega
   clear hc;have hdr:l.drop i=l[i]! :: l.drop (i+1):=by rw[getElem!_pos l i hlt];exact List.drop_eq_getElem_cons hlt
   have htk:(l.take (i+1)).getLast? = some l[i]! := by rw[List.take_succ_eq_append_getElem hlt,List.getLast?_append,getElem!_pos l i hlt];rfl
   rw[hdr] at hsp;have hd:=qM (qc hs) hd0;refine Zo (fun q0 q1 q2 q3=>?_);refine qH hd ⟨i,rfl,hlt, ?_⟩;refine qG hd (seg_st hlt ?_)
   have hrg1:Rg l[i]! -> ∀ j,j<i+1->Rg l[j]! := fun hq j hj=>by
    rcases Nat.lt_or_ge j i with h | h
    ·exact hrg j h
    ·have:j=i:=by omega
     subst this;exact hq
   generalize l[i]! = x at hsp htk hrg1;refine qi hs (fun H7 xb e7 l7 hs=>?_);refine vz hs 0 rfl (stC x) rfl rfl (Nat.le_of_ble_eq_true rfl) rfl (fun H8 e8 hs=>?_);clear e7 l7 e8;have hs:=hs.pick [0,1,2,3,4,5] (by decide) rfl (L' := [(true,xb, .cells true 1 (stC x)),(true,kb, .cells true 1 (ckC w s g)),(true,w,mpW ck.W),(true,s,mpI ck.S),(true,g,mpI ck.G),(true,b1, .cells true 1 (schC t alg b c d l.length))]);generalize hprev:(l.take i).getLast? = prev at hsp
   have bad : ∀ v H',v≠0->zF t.pr slots prev x=v->HS H none' [] H' -> R (.int .i64 v) H' := fun v H' hv he hn=>by
    have:=h H' hn;rw[hsp] at this;simp only[sndP,he,ne_eq,hv,not_false_eq_true,if_true] at this;exact this
   repeat' (first|refine nY (fun K0 hK0=>?_)|refine zAw ?_|refine zNw (fun _ _ hs=>?_)|(refine dI (fun hc=>?_) (fun hc=>?_) <;> try (exfalso;omega))|fail)
   all_goals try (
    refine q3 _ _ ?_;refine bad _ _ (by decide) ?_ (qc hs);unfold zF
    repeat (first | rw[if_pos (by omega)] | rw[if_neg (by omega)])
    done)
   have hx:Rg x\/¬ Rg x:=Classical.em _;have hxr:Rg x:=⟨by omega,by omega,by omega,by omega,by omega⟩;clear hx;have hrg' := hrg1 hxr
   have hself : ∀ P:Prop,[Decidable P]->(P↔(x.jn<0\/2<x.jn\/badP prev x=true))->zF t.pr slots prev x=if P then 2 else 0:=fun P _ hP=>by
    unfold zF;rw[if_neg (by omega),if_neg (by omega),if_neg (by omega)];simp only[hP]
   -- the join,and the step ahead
   refine zg tok mx [0,1,3,7,15,31,63,127,255,511,1023,2047,4095,8191,4095,20479,65535,131071,4095,524287,1048575,2097151,4194303,8388607] [false,false,false,false,false,false,false,false,false,false,false,false,false,false,true,true,false,false,true,false,false,false,false,false] [0,1,2,3,4,5,6,7,8,9,10,11,12,13,14,15,16,17,18,19,20,21,22,23] (by kernel_rfl) ?_;refine wK (fun K0 hK0=>?_);rcases Nat.eq_zero_or_pos i with hi0 | hi0
   ·have hpr:prev=none:=by rw[<- hprev,hi0];rfl
    subst hpr
    repeat' (first|refine nY (fun K0 hK0=>?_)|refine zAw ?_|refine zNw (fun _ _ hs=>?_)|(refine dI (fun hc=>?_) (fun hc=>?_) <;> try (exfalso;omega))|fail)
    all_goals try (
     refine q3 _ _ ?_;refine bad _ _ (by decide) ?_ (qc hs);unfold zF
     repeat (first | rw[if_pos (by omega)] | rw[if_neg (by omega)])
     done)
    have hself0:zF t.pr slots none x=0:=by
     have:=hself (x.jn<0\/2<x.jn) (by simp[badP]);rw[this,if_neg (by omega)]
    have hfr:zJ none ck x=ck:=rfl;generalize ck=cc at hs hfr hsp;refine zg tok mx [0,1,3,7,15,7,39,127,255,511,7,1031,4095,8191] [false,false,false,false,false,true,true,false,false,false,true,true,false,false] [0,1,2,3,4,5,6,7,8,9,10,11,12,13] (by kernel_rfl) ?_;refine wK (fun K0 hK0=>?_)
    repeat' (first|refine nY (fun K0 hK0=>?_)|refine zAw ?_|refine zNw (fun _ _ hs=>?_)|(refine dI (fun hc=>?_) (fun hc=>?_) <;> try (exfalso;omega))|fail)
    have badr : ∀ v H',v≠0->vK cc x=v->HS H none' [] H' -> R (.int .i64 v) H' := fun v H' hv he hn=>by
     have:=h H' hn;rw[hsp] at this;simp only[sndP,hself0,hfr,he,ne_eq,hv,not_false_eq_true,not_true,if_true,if_false] at this;exact this
    have good:vK cc x=0->sndP t.pr slots none emp l=sndP t.pr slots (some x) (addF cc x) (l.drop (i+1)):=fun he=>by
     rw[hsp];simp only[sndP,hself0,hfr,he,ne_eq,not_true,if_false]
    refine lookW (hs.get 2 rfl) ?_;by_cases hin:(x.to,x.ds)∈cc.W
    ·rw[decide_eq_true hin]
     have hr5:vK cc x=5:=by unfold vK;rw[if_pos hin]
     repeat' (first|refine nY (fun K0 hK0=>?_)|refine zAw ?_|refine zNw (fun _ _ hs=>?_)|(refine dI (fun hc=>?_) (fun hc=>?_) <;> try (exfalso;omega))|fail)
     all_goals (refine q3 _ _ ?_;exact badr 5 _ (by decide) hr5 (qc hs))
    ·rw[decide_eq_false hin]
     repeat' (first|refine nY (fun K0 hK0=>?_)|refine zAw ?_|refine zNw (fun _ _ hs=>?_)|(refine dI (fun hc=>?_) (fun hc=>?_) <;> try (exfalso;omega))|fail)
     ·refine c84 (c:=cc) (hs.get 3 rfl) (hs.get 4 rfl) (kNo hs (fun H9 hs=>?_))
      have hne:x.fr≠x.to:=hc
      cases htk2:zh cc x with
      | false =>
        have hr6:vK cc x=6:=by unfold vK;rw[if_neg hin,if_pos ⟨hne,htk2⟩]
        repeat' (first|refine nY (fun K0 hK0=>?_)|refine zAw ?_|refine zNw (fun _ _ hs=>?_)|(refine dI (fun hc=>?_) (fun hc=>?_) <;> try (exfalso;omega))|fail)
        all_goals (refine q3 _ _ ?_;exact badr 6 _ (by decide) hr6 (qc hs))
      | true =>
        have hr0:vK cc x=0:=by unfold vK;rw[if_neg hin,if_neg (fun hq=>by rw[htk2] at hq;exact absurd hq.2 (by decide))]
        have hadd:addF cc x=⟨cc.W ++ [(x.to,x.ds)],upd cc.S x.fr x.to,upd cc.G x.to x.fr⟩:=by unfold addF;rw[if_pos hne,if_pos hne]
        repeat' (first|refine nY (fun K0 hK0=>?_)|refine zAw ?_|refine zNw (fun _ _ hs=>?_)|(refine dI (fun hc=>?_) (fun hc=>?_) <;> try (exfalso;omega))|fail)
        refine QA hs 2 rfl hin (fun H10 hs=>?_)
        repeat' (first|refine nY (fun K0 hK0=>?_)|refine zAw ?_|refine zNw (fun _ _ hs=>?_)|(refine dI (fun hc=>?_) (fun hc=>?_) <;> try (exfalso;omega))|fail)
        refine qm tok mx [0,1,0,4,0,16,0,64,0,256,0,1024,783,8191] [false,false,true,true,true,true,true,true,true,true,true,true,false,false] (.first 0 (.first 1 (.first 2 (.first 3 (.first 4 (.first 6 (.first 8 (.first 9 (.first 10 (.alt 5 (.alt 7 (.alt 11 (.first 12 (.first 13 .done)) (.alt 12 (.first 11 (.first 13 .done)) .no)) (.alt 11 (.alt 7 (.first 12 (.first 13 .done)) (.alt 12 (.first 7 (.first 13 .done)) .no)) (.alt 12 (.first 7 (.first 11 (.first 13 .done))) .no))) (.alt 7 (.alt 5 (.alt 11 (.first 12 (.first 13 .done)) (.alt 12 (.first 11 (.first 13 .done)) .no)) (.alt 11 (.alt 5 (.first 12 (.first 13 .done)) (.alt 12 (.first 5 (.first 13 .done)) .no)) (.alt 12 (.first 5 (.first 11 (.first 13 .done))) .no))) (.alt 11 (.alt 5 (.alt 7 (.first 12 (.first 13 .done)) (.alt 12 (.first 7 (.first 13 .done)) .no)) (.alt 7 (.alt 5 (.first 12 (.first 13 .done)) (.alt 12 (.first 5 (.first 13 .done)) .no)) (.alt 12 (.first 5 (.first 7 (.first 13 .done))) .no))) (.alt 12 (.first 5 (.first 7 (.first 11 (.first 13 .done)))) .no))))))))))))) (by kernel_rfl) ?_;refine ql (fun K0 hK0=>?_)
        repeat' (first|refine And.intro (by decide) ?_|refine qH (hs.get 0 rfl) ?_|refine qG (hs.get 0 rfl) ?_|refine qH (hs.get 1 rfl) ?_|refine qG (hs.get 1 rfl) ?_|refine Exists.intro _ (And.intro rfl ?_)|refine QB hs 3 rfl (fun _ hs=>?_)|refine QB hs 4 rfl (fun _ hs=>?_)|exact True.intro|refine And.intro ?_ ?_|(refine hK0 _ _ ?_;clear hK0)|fail)
        all_goals (
         refine q1 _ _ ?_;refine Or.inl ⟨((i+1:Nat):Int),by simp,by unfold I64;omega, ?_⟩;refine⟨⟨_,i+1,kb,w,s,g,addF cc x⟩,⟨?_,hlt, ?_, ?_⟩,by simp only;omega,Or.inl ⟨⟨rfl,rfl,rfl,rfl,rfl,rfl,trivial⟩,rfl⟩⟩
         ·rw[hadd];exact hs.pick [1,2,3,4,5] (by decide) rfl
         ·rw[htk];exact good hr0
         ·exact hrg')
     ·have heq:x.fr=x.to:=by omega
      have hr0:vK cc x=0:=by unfold vK;rw[if_neg hin,if_neg (fun hq=>hq.1 heq)]
      have hadd:addF cc x=⟨cc.W ++ [(x.to,x.ds)],cc.S,cc.G⟩:=by unfold addF;rw[if_neg (fun hq=>hq heq),if_neg (fun hq=>hq heq)]
      refine QA hs 2 rfl hin (fun H10 hs=>?_)
      repeat' (first|refine nY (fun K0 hK0=>?_)|refine zAw ?_|refine zNw (fun _ _ hs=>?_)|(refine dI (fun hc=>?_) (fun hc=>?_) <;> try (exfalso;omega))|fail)
      refine q1 _ _ ?_;refine Or.inl ⟨((i+1:Nat):Int),by simp,by unfold I64;omega, ?_⟩;refine⟨⟨H10,i+1,kb,w,s,g,addF cc x⟩,⟨?_,hlt, ?_, ?_⟩,by simp only;omega,Or.inl ⟨⟨rfl,rfl,rfl,rfl,rfl,rfl,trivial⟩,rfl⟩⟩
      ·rw[hadd];exact hs.pick [1,2,3,4,5] (by decide) rfl
      ·rw[htk];exact good hr0
      ·exact hrg'
   ·obtain ⟨j,rfl⟩ : ∃ j,i=j+1:=⟨i-1,by omega⟩
    have hj:j<l.length:=by omega
    have hpr:prev=some l[j]! := by rw[<- hprev,List.take_succ_eq_append_getElem hj,List.getLast?_append,getElem!_pos l j hj];rfl
    subst hpr;have hry:=hrg j (by omega);have hcb:=Go.Af.Coll.cmp_bef l[j]! x;have hd8:=qM (qc hs) hd0
    repeat' (first|refine nY (fun K0 hK0=>?_)|refine zAw ?_|refine zNw (fun _ _ hs=>?_)|(refine dI (fun hc=>?_) (fun hc=>?_) <;> try (exfalso;omega))|fail)
    all_goals try (
     refine q3 _ _ ?_;refine bad _ _ (by decide) ?_ (qc hs);unfold zF
     repeat (first | rw[if_pos (by omega)] | rw[if_neg (by omega)])
     done)
    refine qH hd8 (Exists.intro j (And.intro (by omega) (And.intro hj ?_)))
    repeat' (first|refine nY (fun K0 hK0=>?_)|refine zAw ?_|refine zNw (fun _ _ hs=>?_)|(refine dI (fun hc=>?_) (fun hc=>?_) <;> try (exfalso;omega))|fail)
    refine qG hd8 ?_;refine seg_st hj ?_
    repeat' (first|refine nY (fun K0 hK0=>?_)|refine zAw ?_|refine zNw (fun _ _ hs=>?_)|(refine dI (fun hc=>?_) (fun hc=>?_) <;> try (exfalso;omega))|fail)
    refine c61 hry hxr (kNo hs (fun H9 hs=>?_));have hd9:=qM (qc hs) hd0;generalize hyy:l[j]! = y at hry hcb hself bad hsp ⊢;generalize cmpF y x=z at hcb ⊢;have hfr0:zJ (some y) ck x=if y.rd≠x.rd then emp else ck:=rfl
    repeat' (first|refine nY (fun K0 hK0=>?_)|refine zAw ?_|refine zNw (fun _ _ hs=>?_)|(refine dI (fun hc=>?_) (fun hc=>?_) <;> try (exfalso;omega))|fail)
    ·refine q3 _ _ ?_
     refine bad 2 _ (by decide) ?_ (qc hs);rw[hself (x.jn<0\/2<x.jn\/badP (some y) x=true) Iff.rfl,if_pos];refine .inr (.inr ?_);show (!befF y x)=true;rw[hcb.1 hc];rfl
    ·have hbf:befF y x=true:=by
      cases hbb:befF y x with
      | true=>rfl
      | false=>have:=hcb.2 hbb;omega
     have hself0:zF t.pr slots (some y) x=0:=by
      rw[hself (x.jn<0\/2<x.jn) (by simp[badP,hbf]),if_neg (by omega)]
     refine zg tok mx [0,1,3,7,15,7,39,127,255,511,7,1031,4095,8191] [false,false,false,false,false,true,true,false,false,false,true,true,false,false] [0,1,2,3,4,5,6,7,8,9,10,11,12,13] (by kernel_rfl) ?_;refine wK (fun K0 hK0=>?_)
     repeat' (first|refine nY (fun K0 hK0=>?_)|refine zAw ?_|refine zNw (fun _ _ hs=>?_)|(refine dI (fun hc=>?_) (fun hc=>?_) <;> try (exfalso;omega))|fail)
     refine qH hd9 (Exists.intro j (And.intro (by omega) (And.intro hj ?_)))
     repeat' (first|refine nY (fun K0 hK0=>?_)|refine zAw ?_|refine zNw (fun _ _ hs=>?_)|(refine dI (fun hc=>?_) (fun hc=>?_) <;> try (exfalso;omega))|fail)
     refine qH hd9 ?_
     repeat' (first|refine nY (fun K0 hK0=>?_)|refine zAw ?_|refine zNw (fun _ _ hs=>?_)|(refine dI (fun hc=>?_) (fun hc=>?_) <;> try (exfalso;omega))|fail)
     refine qG hd9 ?_;refine uA (k:=0) (v := .int .i64 y.rd) hj (by decide) (by rw[hyy];rfl) ?_
     repeat' (first|refine nY (fun K0 hK0=>?_)|refine zAw ?_|refine zNw (fun _ _ hs=>?_)|(refine dI (fun hc=>?_) (fun hc=>?_) <;> try (exfalso;omega))|fail)
     ·have hfr:zJ (some y) ck x=emp:=by rw[hfr0,if_pos (by omega)]
      refine c83 (fun H10 w s g hn=>?_);have hs:=hs.call hn rfl;clear hn;refine vz hs 4 rfl (ckC w s g) rfl rfl (Nat.le_of_ble_eq_true rfl) rfl (fun H11 e11 hs=>?_);refine hK0 _ _ ?_;clear hK0 e11;have hs:=hs.pick [3,4,0,1,2,8] (by decide) rfl (L' := [(true,xb, .cells true 1 (stC x)),(true,kb, .cells true 1 (ckC w s g)),(true,w,mpW emp.W),(true,s,mpI emp.S),(true,g,mpI emp.G),(true,b1, .cells true 1 (schC t alg b c d l.length))]);generalize emp=cc at hs hfr
      repeat' (first|refine nY (fun K0 hK0=>?_)|refine zAw ?_|refine zNw (fun _ _ hs=>?_)|(refine dI (fun hc=>?_) (fun hc=>?_) <;> try (exfalso;omega))|fail)
      have badr : ∀ v H',v≠0->vK cc x=v->HS H none' [] H' -> R (.int .i64 v) H' := fun v H' hv he hn=>by
       have:=h H' hn;rw[hsp] at this;simp only[sndP,hself0,hfr,he,ne_eq,hv,not_false_eq_true,not_true,if_true,if_false] at this;exact this
      have good:vK cc x=0->sndP t.pr slots none emp l=sndP t.pr slots (some x) (addF cc x) (l.drop ((j+1)+1)):=fun he=>by
       rw[hsp];simp only[sndP,hself0,hfr,he,ne_eq,not_true,if_false]
      refine lookW (hs.get 2 rfl) ?_;by_cases hin:(x.to,x.ds)∈cc.W
      ·rw[decide_eq_true hin]
       have hr5:vK cc x=5:=by unfold vK;rw[if_pos hin]
       repeat' (first|refine nY (fun K0 hK0=>?_)|refine zAw ?_|refine zNw (fun _ _ hs=>?_)|(refine dI (fun hc=>?_) (fun hc=>?_) <;> try (exfalso;omega))|fail)
       all_goals (refine q3 _ _ ?_;exact badr 5 _ (by decide) hr5 (qc hs))
      ·rw[decide_eq_false hin]
       repeat' (first|refine nY (fun K0 hK0=>?_)|refine zAw ?_|refine zNw (fun _ _ hs=>?_)|(refine dI (fun hc=>?_) (fun hc=>?_) <;> try (exfalso;omega))|fail)
       ·refine c84 (c:=cc) (hs.get 3 rfl) (hs.get 4 rfl) (kNo hs (fun H9 hs=>?_))
        have hne:x.fr≠x.to:=hc
        cases htk2:zh cc x with
        | false =>
          have hr6:vK cc x=6:=by unfold vK;rw[if_neg hin,if_pos ⟨hne,htk2⟩]
          repeat' (first|refine nY (fun K0 hK0=>?_)|refine zAw ?_|refine zNw (fun _ _ hs=>?_)|(refine dI (fun hc=>?_) (fun hc=>?_) <;> try (exfalso;omega))|fail)
          all_goals (refine q3 _ _ ?_;exact badr 6 _ (by decide) hr6 (qc hs))
        | true =>
          have hr0:vK cc x=0:=by unfold vK;rw[if_neg hin,if_neg (fun hq=>by rw[htk2] at hq;exact absurd hq.2 (by decide))]
          have hadd:addF cc x=⟨cc.W ++ [(x.to,x.ds)],upd cc.S x.fr x.to,upd cc.G x.to x.fr⟩:=by unfold addF;rw[if_pos hne,if_pos hne]
          repeat' (first|refine nY (fun K0 hK0=>?_)|refine zAw ?_|refine zNw (fun _ _ hs=>?_)|(refine dI (fun hc=>?_) (fun hc=>?_) <;> try (exfalso;omega))|fail)
          refine QA hs 2 rfl hin (fun H10 hs=>?_)
          repeat' (first|refine nY (fun K0 hK0=>?_)|refine zAw ?_|refine zNw (fun _ _ hs=>?_)|(refine dI (fun hc=>?_) (fun hc=>?_) <;> try (exfalso;omega))|fail)
          refine qm tok mx [0,1,0,4,0,16,0,64,0,256,0,1024,783,8191] [false,false,true,true,true,true,true,true,true,true,true,true,false,false] (.first 0 (.first 1 (.first 2 (.first 3 (.first 4 (.first 6 (.first 8 (.first 9 (.first 10 (.alt 5 (.alt 7 (.alt 11 (.first 12 (.first 13 .done)) (.alt 12 (.first 11 (.first 13 .done)) .no)) (.alt 11 (.alt 7 (.first 12 (.first 13 .done)) (.alt 12 (.first 7 (.first 13 .done)) .no)) (.alt 12 (.first 7 (.first 11 (.first 13 .done))) .no))) (.alt 7 (.alt 5 (.alt 11 (.first 12 (.first 13 .done)) (.alt 12 (.first 11 (.first 13 .done)) .no)) (.alt 11 (.alt 5 (.first 12 (.first 13 .done)) (.alt 12 (.first 5 (.first 13 .done)) .no)) (.alt 12 (.first 5 (.first 11 (.first 13 .done))) .no))) (.alt 11 (.alt 5 (.alt 7 (.first 12 (.first 13 .done)) (.alt 12 (.first 7 (.first 13 .done)) .no)) (.alt 7 (.alt 5 (.first 12 (.first 13 .done)) (.alt 12 (.first 5 (.first 13 .done)) .no)) (.alt 12 (.first 5 (.first 7 (.first 13 .done))) .no))) (.alt 12 (.first 5 (.first 7 (.first 11 (.first 13 .done)))) .no))))))))))))) (by kernel_rfl) ?_;refine ql (fun K0 hK0=>?_)
          repeat' (first|refine And.intro (by decide) ?_|refine qH (hs.get 0 rfl) ?_|refine qG (hs.get 0 rfl) ?_|refine qH (hs.get 1 rfl) ?_|refine qG (hs.get 1 rfl) ?_|refine Exists.intro _ (And.intro rfl ?_)|refine QB hs 3 rfl (fun _ hs=>?_)|refine QB hs 4 rfl (fun _ hs=>?_)|exact True.intro|refine And.intro ?_ ?_|(refine hK0 _ _ ?_;clear hK0)|fail)
          all_goals (
           refine q1 _ _ ?_;refine Or.inl ⟨(((j+1)+1:Nat):Int),by simp,by unfold I64;omega, ?_⟩;refine⟨⟨_,(j+1)+1,kb,w,s,g,addF cc x⟩,⟨?_,hlt, ?_, ?_⟩,by simp only;omega,Or.inl ⟨⟨rfl,rfl,rfl,rfl,rfl,rfl,trivial⟩,rfl⟩⟩
           ·rw[hadd];exact hs.pick [1,2,3,4,5] (by decide) rfl
           ·rw[htk];exact good hr0
           ·exact hrg')
       ·have heq:x.fr=x.to:=by omega
        have hr0:vK cc x=0:=by unfold vK;rw[if_neg hin,if_neg (fun hq=>hq.1 heq)]
        have hadd:addF cc x=⟨cc.W ++ [(x.to,x.ds)],cc.S,cc.G⟩:=by unfold addF;rw[if_neg (fun hq=>hq heq),if_neg (fun hq=>hq heq)]
        refine QA hs 2 rfl hin (fun H10 hs=>?_)
        repeat' (first|refine nY (fun K0 hK0=>?_)|refine zAw ?_|refine zNw (fun _ _ hs=>?_)|(refine dI (fun hc=>?_) (fun hc=>?_) <;> try (exfalso;omega))|fail)
        refine q1 _ _ ?_;refine Or.inl ⟨(((j+1)+1:Nat):Int),by simp,by unfold I64;omega, ?_⟩;refine⟨⟨H10,(j+1)+1,kb,w,s,g,addF cc x⟩,⟨?_,hlt, ?_, ?_⟩,by simp only;omega,Or.inl ⟨⟨rfl,rfl,rfl,rfl,rfl,rfl,trivial⟩,rfl⟩⟩
        ·rw[hadd];exact hs.pick [1,2,3,4,5] (by decide) rfl
        ·rw[htk];exact good hr0
        ·exact hrg'
     ·have hfr:zJ (some y) ck x=ck:=by rw[hfr0,if_neg (by omega)]
      generalize ck=cc at hs hfr hsp
      repeat' (first|refine nY (fun K0 hK0=>?_)|refine zAw ?_|refine zNw (fun _ _ hs=>?_)|(refine dI (fun hc=>?_) (fun hc=>?_) <;> try (exfalso;omega))|fail)
      have badr : ∀ v H',v≠0->vK cc x=v->HS H none' [] H' -> R (.int .i64 v) H' := fun v H' hv he hn=>by
       have:=h H' hn;rw[hsp] at this;simp only[sndP,hself0,hfr,he,ne_eq,hv,not_false_eq_true,not_true,if_true,if_false] at this;exact this
      have good:vK cc x=0->sndP t.pr slots none emp l=sndP t.pr slots (some x) (addF cc x) (l.drop ((j+1)+1)):=fun he=>by
       rw[hsp];simp only[sndP,hself0,hfr,he,ne_eq,not_true,if_false]
      refine lookW (hs.get 2 rfl) ?_;by_cases hin:(x.to,x.ds)∈cc.W
      ·rw[decide_eq_true hin]
       have hr5:vK cc x=5:=by unfold vK;rw[if_pos hin]
       repeat' (first|refine nY (fun K0 hK0=>?_)|refine zAw ?_|refine zNw (fun _ _ hs=>?_)|(refine dI (fun hc=>?_) (fun hc=>?_) <;> try (exfalso;omega))|fail)
       all_goals (refine q3 _ _ ?_;exact badr 5 _ (by decide) hr5 (qc hs))
      ·rw[decide_eq_false hin]
       repeat' (first|refine nY (fun K0 hK0=>?_)|refine zAw ?_|refine zNw (fun _ _ hs=>?_)|(refine dI (fun hc=>?_) (fun hc=>?_) <;> try (exfalso;omega))|fail)
       ·refine c84 (c:=cc) (hs.get 3 rfl) (hs.get 4 rfl) (kNo hs (fun H9 hs=>?_))
        have hne:x.fr≠x.to:=hc
        cases htk2:zh cc x with
        | false =>
          have hr6:vK cc x=6:=by unfold vK;rw[if_neg hin,if_pos ⟨hne,htk2⟩]
          repeat' (first|refine nY (fun K0 hK0=>?_)|refine zAw ?_|refine zNw (fun _ _ hs=>?_)|(refine dI (fun hc=>?_) (fun hc=>?_) <;> try (exfalso;omega))|fail)
          all_goals (refine q3 _ _ ?_;exact badr 6 _ (by decide) hr6 (qc hs))
        | true =>
          have hr0:vK cc x=0:=by unfold vK;rw[if_neg hin,if_neg (fun hq=>by rw[htk2] at hq;exact absurd hq.2 (by decide))]
          have hadd:addF cc x=⟨cc.W ++ [(x.to,x.ds)],upd cc.S x.fr x.to,upd cc.G x.to x.fr⟩:=by unfold addF;rw[if_pos hne,if_pos hne]
          repeat' (first|refine nY (fun K0 hK0=>?_)|refine zAw ?_|refine zNw (fun _ _ hs=>?_)|(refine dI (fun hc=>?_) (fun hc=>?_) <;> try (exfalso;omega))|fail)
          refine QA hs 2 rfl hin (fun H10 hs=>?_)
          repeat' (first|refine nY (fun K0 hK0=>?_)|refine zAw ?_|refine zNw (fun _ _ hs=>?_)|(refine dI (fun hc=>?_) (fun hc=>?_) <;> try (exfalso;omega))|fail)
          refine qm tok mx [0,1,0,4,0,16,0,64,0,256,0,1024,783,8191] [false,false,true,true,true,true,true,true,true,true,true,true,false,false] (.first 0 (.first 1 (.first 2 (.first 3 (.first 4 (.first 6 (.first 8 (.first 9 (.first 10 (.alt 5 (.alt 7 (.alt 11 (.first 12 (.first 13 .done)) (.alt 12 (.first 11 (.first 13 .done)) .no)) (.alt 11 (.alt 7 (.first 12 (.first 13 .done)) (.alt 12 (.first 7 (.first 13 .done)) .no)) (.alt 12 (.first 7 (.first 11 (.first 13 .done))) .no))) (.alt 7 (.alt 5 (.alt 11 (.first 12 (.first 13 .done)) (.alt 12 (.first 11 (.first 13 .done)) .no)) (.alt 11 (.alt 5 (.first 12 (.first 13 .done)) (.alt 12 (.first 5 (.first 13 .done)) .no)) (.alt 12 (.first 5 (.first 11 (.first 13 .done))) .no))) (.alt 11 (.alt 5 (.alt 7 (.first 12 (.first 13 .done)) (.alt 12 (.first 7 (.first 13 .done)) .no)) (.alt 7 (.alt 5 (.first 12 (.first 13 .done)) (.alt 12 (.first 5 (.first 13 .done)) .no)) (.alt 12 (.first 5 (.first 7 (.first 13 .done))) .no))) (.alt 12 (.first 5 (.first 7 (.first 11 (.first 13 .done)))) .no))))))))))))) (by kernel_rfl) ?_;refine ql (fun K0 hK0=>?_)
          repeat' (first|refine And.intro (by decide) ?_|refine qH (hs.get 0 rfl) ?_|refine qG (hs.get 0 rfl) ?_|refine qH (hs.get 1 rfl) ?_|refine qG (hs.get 1 rfl) ?_|refine Exists.intro _ (And.intro rfl ?_)|refine QB hs 3 rfl (fun _ hs=>?_)|refine QB hs 4 rfl (fun _ hs=>?_)|exact True.intro|refine And.intro ?_ ?_|(refine hK0 _ _ ?_;clear hK0)|fail)
          all_goals (
           refine q1 _ _ ?_;refine Or.inl ⟨(((j+1)+1:Nat):Int),by simp,by unfold I64;omega, ?_⟩;refine⟨⟨_,(j+1)+1,kb,w,s,g,addF cc x⟩,⟨?_,hlt, ?_, ?_⟩,by simp only;omega,Or.inl ⟨⟨rfl,rfl,rfl,rfl,rfl,rfl,trivial⟩,rfl⟩⟩
           ·rw[hadd];exact hs.pick [1,2,3,4,5] (by decide) rfl
           ·rw[htk];exact good hr0
           ·exact hrg')
       ·have heq:x.fr=x.to:=by omega
        have hr0:vK cc x=0:=by unfold vK;rw[if_neg hin,if_neg (fun hq=>hq.1 heq)]
        have hadd:addF cc x=⟨cc.W ++ [(x.to,x.ds)],cc.S,cc.G⟩:=by unfold addF;rw[if_neg (fun hq=>hq heq),if_neg (fun hq=>hq heq)]
        refine QA hs 2 rfl hin (fun H10 hs=>?_)
        repeat' (first|refine nY (fun K0 hK0=>?_)|refine zAw ?_|refine zNw (fun _ _ hs=>?_)|(refine dI (fun hc=>?_) (fun hc=>?_) <;> try (exfalso;omega))|fail)
        refine q1 _ _ ?_;refine Or.inl ⟨(((j+1)+1:Nat):Int),by simp,by unfold I64;omega, ?_⟩;refine⟨⟨H10,(j+1)+1,kb,w,s,g,addF cc x⟩,⟨?_,hlt, ?_, ?_⟩,by simp only;omega,Or.inl ⟨⟨rfl,rfl,rfl,rfl,rfl,rfl,trivial⟩,rfl⟩⟩
        ·rw[hadd];exact hs.pick [1,2,3,4,5] (by decide) rfl
        ·rw[htk];exact good hr0
        ·exact hrg'
  ·have hie:i=l.length:=by simp at hc;omega
   subst hie;rw[List.drop_length] at hsp;have:=h _ (qc hs);rw[hsp] at this;exact this
 ·generalize chkF t=z at h0 h ⊢
  rw[if_pos h0] at h
  repeat' (first|refine nY (fun K0 hK0=>?_)|refine zAw ?_|refine zNw (fun _ _ hs=>?_)|(refine dI (fun hc=>?_) (fun hc=>?_) <;> try (exfalso;omega))|fail)
  all_goals exact h _ (qc hs)
end Go.Af.Tryz
namespace Go.Af.Tryz
open Go Go.Proofs
open Go.Af.Coll (St Ck lk upd zh emp sndP zF vK zJ addF badP cmpF befF)
attribute [local irreducible] awp qj qJ qL qC qo isCells qx qp qA qw qh roundEnd zG wX keyK vY

end Go.Af.Tryz
