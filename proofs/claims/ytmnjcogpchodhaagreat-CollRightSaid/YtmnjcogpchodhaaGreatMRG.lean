/- A part of the proof. -/
import Derived.Test.YtmnjcogpchodhaaGreatMRF
import Derived.Test.YtmnjcogpchodhaaGreatMHK
import Derived.Test.YtmnjcogpchodhaaGreatMGC
import Derived.Test.YtmnjcogpchodhaaGreatMCA
set_option linter.all false
set_option maxHeartbeats 4000000
set_option maxRecDepth 100000
namespace Go.Af.Tryz
open Go Go.Proofs
open Go.Af.Coll (St befF)
attribute [local irreducible] awp qj qJ qL qC qo isCells qx qp qA qw qh roundEnd zI wY keyK vZ

theorem c33 {H:List Blk} {p:Int} {R:Value->List Blk->Prop} (hp:1<=p/\p<=64) (h:R (.int .i64 (lgF p:Int)) H):qj Tryz.prog 33 [.int .i64 p] H R:=by
 refine qf tok Tryz.call33 Tryz.func33 rfl Tryz.ntmps33 rfl (by simp) ?_;have hs:=HS.start H none';have hlg:=lg_le p
 repeat' (first|refine nY (fun K0 hK0=>?_)|refine zBw ?_|refine zNw (fun _ _ hs=>?_)|(refine hK0 _ _ ?_;clear hK0)|fail)
 refine qB (α := Nat) tok (fun z=>z<=lgF p) (fun z=>[(0, .int .i64 p),(3, .int .i64 (z:Int))]) (fun _=>H) (fun z=>lgF p-z)
  0 (Nat.zero_le _) (Or.inl ⟨⟨rfl,rfl,trivial⟩,rfl⟩) ?_
 rintro i hi;have hlt:=lg_lt (p:=p) (i:=i) hp.2 (by omega);have hpw:=pw2_le (i:=i) (by omega)
 repeat' (first|refine nY (fun K0 hK0=>?_)|refine zBw ?_|refine zNw (fun _ _ hs=>?_)|(refine dI (fun hc=>?_) (fun hc=>?_) <;> try (exfalso;omega))|(refine hK0 _ _ ?_;clear hK0)|fail)
 refine shl_1 (i:=i) (by omega) ?_;by_cases hil:i<lgF p
 ·have:=hlt.2 hil
  repeat' (first|refine nY (fun K0 hK0=>?_)|refine zBw ?_|refine zNw (fun _ _ hs=>?_)|(refine dI (fun hc=>?_) (fun hc=>?_) <;> try (exfalso;omega))|(refine hK0 _ _ ?_;clear hK0)|fail)
  exact⟨i+1,hil,by omega,Or.inl ⟨⟨rfl,rfl,trivial⟩,rfl⟩⟩
 ·have : ¬ (2:Int) ^ i<p:=fun e=>hil (hlt.1 e)
  have hie:i=lgF p:=by omega
  subst hie
  repeat' (first|refine nY (fun K0 hK0=>?_)|refine zBw ?_|refine zNw (fun _ _ hs=>?_)|(refine dI (fun hc=>?_) (fun hc=>?_) <;> try (exfalso;omega))|(refine hK0 _ _ ?_;clear hK0)|fail)
  exact h
theorem c32 {H:List Blk} {t:Tk} {b c:Nat} {a:Int} {R:Value->List Blk->Prop} (kt:TkOk t) (hl:t.sz.length<=1000) (h : ∀ H',HS H none' [] H' -> R (.int .i64 (mostF t a)) H'):qj Tryz.prog 32 [tkV t b c, .int .i64 a] H R:=by
 have hpr:=kt.pr;have hpa:=kt.pa;have hlg:=lg_le t.pr;refine qf tok Tryz.call32 Tryz.func32 rfl Tryz.ntmps32 rfl (by simp) ?_;refine qi (HS.start H none') (fun H1 b1 e1 l1 hs=>?_);refine qg (fun _ hKs=>hKs _ _ ?_);clear hKs;clear e1 l1
 repeat' (first|refine nY (fun K0 hK0=>?_)|refine zBw ?_|refine zNw (fun _ _ hs=>?_)|(refine hK0 _ _ ?_;clear hK0)|fail)
 refine c33 hpr ?_
 replace h:=h _ (qc hs)
 unfold mostF at h;generalize (lgF t.pr:Nat)=q at h hlg ⊢
 repeat' (first|refine nY (fun K0 hK0=>?_)|refine zBw ?_|refine zNw (fun _ _ hs=>?_)|(refine dI (fun hc=>?_) (fun hc=>?_) <;> try (exfalso;omega))|(refine hK0 _ _ ?_;clear hK0)|fail)
 all_goals (
  (repeat (first | rw[if_pos (by omega)] at h | rw[if_neg (by omega)] at h))
  exact h)
theorem c25 {H:List Blk} {t:Tk} {b c:Nat} {R:Value->List Blk->Prop} (g:Gr H t.sz b) (hl:t.sz.length<=9223372036854775807) (hw:t.ws.length<=9223372036854775807)
 (hno : ¬ (chkF t=0/\t.pr<=16)->∀ H',HS H none' [] H' -> R (.slice none 0 0) H')
 (h:chkF t=0->t.pr<=16->∀ H' k,HS H none' [(true,k,rw' (algS t))] H' -> R (sv k (algS t).length) H'):qj Tryz.prog 25 [tkV t b c, .int .i64 16] H R:=by
 refine qf tok Tryz.call25 Tryz.func25 rfl Tryz.ntmps25 rfl (by simp) ?_;refine qi (HS.start H none') (fun H1 b1 e1 l1 hs=>?_);refine qg (fun _ hKs=>hKs _ _ ?_);clear hKs;clear e1 l1
 repeat' (first|refine nY (fun K0 hK0=>?_)|refine zBw ?_|refine zNw (fun _ _ hs=>?_)|(refine hK0 _ _ ?_;clear hK0)|fail)
 refine c31 (g.up (qc hs)) hl hw (kNo hs (fun H2 hs=>?_));by_cases h0:chkF t=0
 ·rw[h0]
  by_cases h1:t.pr<=16
  ·skip
   repeat' (first|refine nY (fun K0 hK0=>?_)|refine zBw ?_|refine zNw (fun _ _ hs=>?_)|(refine dI (fun hc=>?_) (fun hc=>?_) <;> try (exfalso;omega))|(refine hK0 _ _ ?_;clear hK0)|fail)
   refine c41 (g.up (qc hs)) hl hw (fun H3 k hn=>?_);have hs:=hs.call hn rfl;clear hn;rw[h0]
   repeat' (first|refine nY (fun K0 hK0=>?_)|refine zBw ?_|refine zNw (fun _ _ hs=>?_)|(refine dI (fun hc=>?_) (fun hc=>?_) <;> try (exfalso;omega))|(refine hK0 _ _ ?_;clear hK0)|fail)
   exact h h0 h1 _ k (hs.pick [0] (by decide) rfl)
  ·skip
   repeat' (first|refine nY (fun K0 hK0=>?_)|refine zBw ?_|refine zNw (fun _ _ hs=>?_)|(refine dI (fun hc=>?_) (fun hc=>?_) <;> try (exfalso;omega))|(refine hK0 _ _ ?_;clear hK0)|fail)
   exact hno (fun e=>h1 e.2) _ (qc hs)
 ·generalize hz:chkF t=z at h0 ⊢
  repeat' (first|refine nY (fun K0 hK0=>?_)|refine zBw ?_|refine zNw (fun _ _ hs=>?_)|(refine dI (fun hc=>?_) (fun hc=>?_) <;> try (exfalso;omega))|(refine hK0 _ _ ?_;clear hK0)|fail)
  exact hno (fun e=>h0 (by rw[<- hz];exact e.1)) _ (qc hs)
theorem alg_ne {op:Int} (h:1<=op/\op<=11) (q:Bool):0<(algF op q).length:=by
 have:op=1\/op=2\/op=3\/op=4\/op=5\/op=6\/op=7\/op=8\/op=9\/op=10\/op=11:=by omega
 rcases this with rfl | rfl | rfl | rfl | rfl | rfl | rfl | rfl | rfl | rfl | rfl <;> cases q <;> decide
theorem pow_16:((List.range 16).all fun i:Nat => !(powB ((i+1:Nat):Int)) || [0,1,3,7,15].contains i)=true:=by decide +kernel
theorem alg_pw {t:Tk} {a:Int} (hc:chkF t=0) (h16:t.pr<=16) (ha:a∈algS t) (h:t.op=8/\a=10\/t.op=9/\a=11\/t.op=7/\a=6):t.pr=1\/t.pr=2\/t.pr=4\/t.pr=8\/t.pr=16:=by
 have kt:=tk_ok hc;have hpr:=kt.pr;unfold algS at ha;rw[if_pos hc] at ha
 have hq:powB t.pr=true:=by
  cases hq:powB t.pr with
  | true=>rfl
  | false =>
    rw[hq] at ha;rcases h with ⟨h,rfl⟩ | ⟨h,rfl⟩ | ⟨h,rfl⟩
    ·rw[h] at ha;exact absurd ha (by decide)
    ·rw[h] at ha;exact absurd ha (by decide)
    ·rw[h] at ha;exact absurd ha (by decide)
 have:=qK pow_16 (i:=(t.pr-1).toNat) (by omega);rw[show (((t.pr-1).toNat+1:Nat):Int)=t.pr by omega,hq] at this;have:(t.pr-1).toNat∈[0,1,3,7,15]:=by simpa using this
 simp only[List.mem_cons,List.not_mem_nil,or_false] at this;omega
theorem seg8 (t:Tk) (a:Int) (b c k n:Nat):setSeg [.int .i64 0, .int .i64 0, .int .i64 0, .int .i64 0, .slice none 0 0, .slice none 0 0, .int .i64 0, .slice none 0 0] 0 (qN (.agg ⟨tkC t b c ++ [.int .i64 a,sv k n]⟩))=tkC t b c ++ [.int .i64 a,sv k n]:=rfl
theorem tk_small {t:Tk} (hc:chkF t=0) (hs:t.sz.length+t.ws.length<=9223372036854775807):t.sz.length<=4/\t.ws.length<=4:=by
 have kt:=tk_ok hc;by_cases h:t.op=11
 ·have hh:=kt.halo h
  have hpr:=kt.pr;unfold cntF at hh;split at hh
  ·omega
  ·omega
 ·have hg:=gz_small hs
  unfold chkF at hc;split at hc
  ·cases hc
  ·rename_i h1
   omega
theorem wk7 (hW : ∀ (H:List Blk) {R:Value->List Blk->Prop} (_:R (.bool true) H),qj Tryz.prog 15 [] H R) (t:Tk) (hz:t.sz.length+t.ws.length<=9223372036854775807) {m:LM} {argsR:Array Value} {w:World}
 (ha:LRel m [tkV t 0 1] argsR.toList) (hr:HRel m [ro t.sz, .cells false 1 (bls t.ws)] w) :
 Calls Tryz.prog 7 argsR w fun e w' => ∃ vR,e = .returned vR/\zA m [ro t.sz, .cells false 1 (bls t.ws)] w (fun v _=>v = .bool true) vR w' := by
 refine calls_vcg tok Tryz.func7 rfl Tryz.ntmps7 rfl (by simp) ?_ ha hr;generalize hH0 : [ro t.sz,Blk.cells false 1 (bls t.ws)]=H0;have g0:Gr H0 t.sz 0:=⟨_,by rw[<- hH0];rfl⟩;have w0:Gw H0 t.ws 0 1:=⟨by decide,_,by rw[<- hH0];rfl⟩;clear hH0 ha hr;refine qi (HS.start H0 none') (fun H1 b1 e1 l1 hs=>?_);refine qg (fun _ hKs=>hKs _ _ ?_);clear hKs;clear e1 l1
 repeat' (first|refine nY (fun K0 hK0=>?_)|refine zBw ?_|refine zNw (fun _ _ hs=>?_)|(refine hK0 _ _ ?_;clear hK0)|fail)
 refine c25 (g0.up (qc hs)) (by omega) (by omega) (fun hno H2 hn=>?_) (fun h0 h16 H2 kl hn=>?_)
 ·have hs:=qI hs hn
  clear hn
  repeat' (first|refine nY (fun K0 hK0=>?_)|refine zBw ?_|refine zNw (fun _ _ hs=>?_)|(refine dI (fun hc=>?_) (fun hc=>?_) <;> try (exfalso;omega))|(refine hK0 _ _ ?_;clear hK0)|fail)
  refine c31 (g0.up (qc hs)) (by omega) (by omega) (kNo hs (fun H3 hs=>?_));by_cases h0:chkF t=0
  ·rw[h0]
   have h16 : ¬ t.pr<=16:=fun h=>hno ⟨h0,h⟩
   repeat' (first|refine nY (fun K0 hK0=>?_)|refine zBw ?_|refine zNw (fun _ _ hs=>?_)|(refine dI (fun hc=>?_) (fun hc=>?_) <;> try (exfalso;omega))|(refine hK0 _ _ ?_;clear hK0)|fail)
   refine hW _ ?_
   repeat' (first|refine nY (fun K0 hK0=>?_)|refine zBw ?_|refine zNw (fun _ _ hs=>?_)|(refine dI (fun hc=>?_) (fun hc=>?_) <;> try (exfalso;omega))|(refine hK0 _ _ ?_;clear hK0)|fail)
   rfl
  ·generalize chkF t=z at h0 ⊢
   repeat' (first|refine nY (fun K0 hK0=>?_)|refine zBw ?_|refine zNw (fun _ _ hs=>?_)|(refine dI (fun hc=>?_) (fun hc=>?_) <;> try (exfalso;omega))|(refine hK0 _ _ ?_;clear hK0)|fail)
   refine hW _ ?_
   repeat' (first|refine nY (fun K0 hK0=>?_)|refine zBw ?_|refine zNw (fun _ _ hs=>?_)|(refine dI (fun hc=>?_) (fun hc=>?_) <;> try (exfalso;omega))|(refine hK0 _ _ ?_;clear hK0)|fail)
   rfl
 ·have hs:=hs.call hn rfl
  clear hn;have kt:=tk_ok h0;have hsm:=tk_small h0 hz;have hal:(algS t).length=(algF t.op (powB t.pr)).length:=by unfold algS;rw[if_pos h0]
  have hne:=alg_ne kt.op (powB t.pr);have hle:=(alg_lens kt.op (powB t.pr)).1;rw[<- hal] at hne hle
  repeat' (first|refine nY (fun K0 hK0=>?_)|refine zBw ?_|refine zNw (fun _ _ hs=>?_)|(refine dI (fun hc=>?_) (fun hc=>?_) <;> try (exfalso;omega))|(refine hK0 _ _ ?_;clear hK0)|fail)
  refine qB (α := List Blk × Nat) tok (fun z=>HS H0 none' [(true,kl,rw' (algS t)),(true,b1, .cells true 1 (tkC t 0 1))] z.1/\z.2<=(algS t).length)
   (fun z=>[(1,pM b1),(3,sv kl (algS t).length),(4, .int .i64 (z.2:Int))]) (fun z=>z.1) (fun z=>(algS t).length-z.2)
   ⟨_,0⟩ ⟨hs,Nat.zero_le _⟩ (Or.inl ⟨⟨rfl,rfl,rfl,trivial⟩,rfl⟩) ?_
  clear hs;rintro ⟨H3,i⟩ ⟨hs,hi⟩;dsimp only at hs hi ⊢;refine vcg_seqG (fun q0 q1 q2 q3=>?_);by_cases hil:i<(algS t).length
  ·obtain ⟨a,hai⟩ : ∃ a,(algS t)[i]! = a:=⟨_,rfl⟩
   have hin:a∈algS t:=by rw[<- hai,getElem!_pos _ i hil];exact List.getElem_mem hil
   have rd : ∀ {K:Value->Prop},K (.int .i64 a)->Ld (ints (algS t)) (0+i*1) K:=fun {K} hk=>wI hil (by rw[hai];exact hk)
   repeat' (first|refine nY (fun K0 hK0=>?_)|refine zBw ?_|refine zNw (fun _ _ hs=>?_)|(refine dI (fun hc=>?_) (fun hc=>?_) <;> try (exfalso;omega))|(refine hK0 _ _ ?_;clear hK0)|fail)
   refine q1 _ _ ?_;refine qm tok mx [0,0,0,6,14,31,63,127,127,0,767,2047] [false,true,true,true,true,false,false,false,false,true,false,false] (.first 0 (.first 1 (.first 2 (.first 3 (.first 4 (.alt 5 (.first 6 (.first 7 (.first 8 (.first 9 (.first 10 (.first 11 .done)))))) (.alt 9 (.first 5 (.first 6 (.first 7 (.first 8 (.first 10 (.first 11 .done)))))) .no))))))) (by kernel_rfl) ?_;refine ql (fun K0 hK0=>?_)
   repeat' (first|refine nY (fun K0 hK0=>?_)|refine zBw ?_|refine zNw (fun _ _ hs=>?_)|(refine hK0 _ _ ?_;clear hK0)|fail)
   all_goals try refine And.intro ?_ (And.intro ?_ trivial)
   ·skip
    refine c16 (g0.up (qc hs)) (w0.up (qc hs)) (by omega) (by omega) (fun hbad=>absurd h0 hbad) (fun _ hno=>absurd hin hno) (fun _ _ H4 k3 b3 c3 ys hn hp hsr=>?_);have hs:=hs.call hn rfl;clear hn;have har:=all_right h0 h16 (algS_K h0 hin) (alg_pw h0 h16 hin) hp hsr
    have hyl:ys.length<=1000000000:=by
     have hro:=rnds_ok kt (algS_K h0 hin);have h1:=stsF_len 0 hro.le hro.ok;have h2:=hro.len;have h3:(vK t a).length*4194304<=200*4194304:=Nat.mul_le_mul_right _ h2;have h4:=hp.length_eq;unfold mkF at h4;omega
    repeat' (first|refine nY (fun K0 hK0=>?_)|refine zBw ?_|refine zNw (fun _ _ hs=>?_)|(refine dI (fun hc=>?_) (fun hc=>?_) <;> try (exfalso;omega))|(refine hK0 _ _ ?_;clear hK0)|fail)
    rename_i sb _;refine vI hs 0 (p:=0) (n:=8) (v := .agg ⟨tkC t b3 c3 ++ [.int .i64 a,sv k3 ys.length]⟩) rfl (tkC t b3 c3 ++ [.int .i64 a,sv k3 ys.length]) rfl rfl (by decide) rfl (fun _ _ hs=>?_)
    repeat' (first|refine nY (fun K0 hK0=>?_)|refine zBw ?_|refine zNw (fun _ _ hs=>?_)|(refine dI (fun hc=>?_) (fun hc=>?_) <;> try (exfalso;omega))|(refine hK0 _ _ ?_;clear hK0)|fail)
    have hs:=hs.pick [0,1,2,3,4,5] (by decide) rfl (L' := [(true,sb, .cells true 1 (tkC t b3 c3 ++ [.int .i64 a,sv k3 ys.length])),(true,k3, .cells true 6 (stsC ys)),(true,b3,rw' t.sz),(true,c3, .cells true 1 (bls t.ws)),(true,kl,rw' (algS t)),(true,b1, .cells true 1 (tkC t 0 1))]);refine c26 (t:=t) (alg:=a) (l:=ys) (b:=b3) (c:=c3) (d:=k3) ⟨_,hs.get 2 rfl⟩ ⟨hs.ne 2 3 rfl rfl (by decide),_,hs.get 3 rfl⟩ ⟨_,hs.get 1 rfl⟩ (by omega) (by omega) (by omega) (kNo hs (fun H5 hs=>?_));rw[har.1,har.2.1,decide_eq_true rfl,Bool.true_and]
    repeat' (first|refine nY (fun K0 hK0=>?_)|refine zBw ?_|refine zNw (fun _ _ hs=>?_)|(refine dI (fun hc=>?_) (fun hc=>?_) <;> try (exfalso;omega))|(refine hK0 _ _ ?_;clear hK0)|fail)
    refine c27 (t:=t) (alg:=a) (l:=ys) (b:=b3) (c:=c3) (d:=k3) ⟨_,hs.get 2 rfl⟩ ⟨_,hs.get 1 rfl⟩ (by omega) (by omega) (by omega) (kNo hs (fun H6 hs=>?_));rw[har.1];have hrn:=har.2.2;generalize rndF t ys=rn at hrn ⊢
    repeat' (first|refine nY (fun K0 hK0=>?_)|refine zBw ?_|refine zNw (fun _ _ hs=>?_)|(refine dI (fun hc=>?_) (fun hc=>?_) <;> try (exfalso;omega))|(refine hK0 _ _ ?_;clear hK0)|fail)
    refine qm tok mx [0,1,3,7,15,31,63,127,255,511,1023,2047,4095,8191,16383,32767,32767,32767,32767,425983,950271,2064383,4194303,8388607] [false,false,false,false,false,false,false,false,false,false,false,false,false,false,false,false,false,true,true,true,true,false,false,false] (.first 0 (.first 1 (.first 2 (.first 3 (.first 4 (.first 5 (.first 6 (.first 7 (.first 8 (.first 9 (.first 10 (.first 11 (.first 12 (.first 13 (.first 14 (.first 15 (.first 16 (.first 17 (.first 18 (.first 19 (.first 20 (.first 21 (.first 22 (.first 23 .done)))))))))))))))))))))))) (by kernel_rfl) ?_;refine ql (fun K0 hK0=>?_)
    repeat' (first|refine nY (fun K0 hK0=>?_)|refine zBw ?_|refine zNw (fun _ _ hs=>?_)|(refine dI (fun hc=>?_) (fun hc=>?_) <;> try (exfalso;omega))|(refine hK0 _ _ ?_;clear hK0)|fail)
    refine c32 (b:=0) (c:=1) kt (by omega) (kNo hs (fun H7 hs=>?_));generalize mostF t a=mq at hrn ⊢
    repeat' (first|refine nY (fun K0 hK0=>?_)|refine zBw ?_|refine zNw (fun _ _ hs=>?_)|(refine dI (fun hc=>?_) (fun hc=>?_) <;> try (exfalso;omega))|(refine hK0 _ _ ?_;clear hK0)|fail)
    exact⟨(H7,i+1),⟨hs.pick [4,5] (by decide) rfl,hil⟩,by dsimp only;omega,Or.inl ⟨⟨rfl,rfl,rfl,trivial⟩,rfl⟩⟩
   ·skip
    repeat' (first|refine nY (fun K0 hK0=>?_)|refine zBw ?_|refine zNw (fun _ _ hs=>?_)|(refine dI (fun hc=>?_) (fun hc=>?_) <;> try (exfalso;omega))|(refine hK0 _ _ ?_;clear hK0)|fail)
    rename_i sb _;refine c16 (g0.up (qc hs)) (w0.up (qc hs)) (by omega) (by omega) (fun hbad=>absurd h0 hbad) (fun _ hno=>absurd hin hno) (fun _ _ H4 k3 b3 c3 ys hn hp hsr=>?_);have hs:=hs.call hn rfl;clear hn;have har:=all_right h0 h16 (algS_K h0 hin) (alg_pw h0 h16 hin) hp hsr
    have hyl:ys.length<=1000000000:=by
     have hro:=rnds_ok kt (algS_K h0 hin);have h1:=stsF_len 0 hro.le hro.ok;have h2:=hro.len;have h3:(vK t a).length*4194304<=200*4194304:=Nat.mul_le_mul_right _ h2;have h4:=hp.length_eq;unfold mkF at h4;omega
    repeat' (first|refine nY (fun K0 hK0=>?_)|refine zBw ?_|refine zNw (fun _ _ hs=>?_)|(refine dI (fun hc=>?_) (fun hc=>?_) <;> try (exfalso;omega))|(refine hK0 _ _ ?_;clear hK0)|fail)
    simp only[seg8] at hs ⊢
    repeat' (first|refine nY (fun K0 hK0=>?_)|refine zBw ?_|refine zNw (fun _ _ hs=>?_)|(refine dI (fun hc=>?_) (fun hc=>?_) <;> try (exfalso;omega))|(refine hK0 _ _ ?_;clear hK0)|fail)
    have hs:=hs.pick [3,0,1,2,4,5] (by decide) rfl (L' := [(true,sb, .cells true 1 (tkC t b3 c3 ++ [.int .i64 a,sv k3 ys.length])),(true,k3, .cells true 6 (stsC ys)),(true,b3,rw' t.sz),(true,c3, .cells true 1 (bls t.ws)),(true,kl,rw' (algS t)),(true,b1, .cells true 1 (tkC t 0 1))]);refine c26 (t:=t) (alg:=a) (l:=ys) (b:=b3) (c:=c3) (d:=k3) ⟨_,hs.get 2 rfl⟩ ⟨hs.ne 2 3 rfl rfl (by decide),_,hs.get 3 rfl⟩ ⟨_,hs.get 1 rfl⟩ (by omega) (by omega) (by omega) (kNo hs (fun H5 hs=>?_));rw[har.1,har.2.1,decide_eq_true rfl,Bool.true_and]
    repeat' (first|refine nY (fun K0 hK0=>?_)|refine zBw ?_|refine zNw (fun _ _ hs=>?_)|(refine dI (fun hc=>?_) (fun hc=>?_) <;> try (exfalso;omega))|(refine hK0 _ _ ?_;clear hK0)|fail)
    refine c27 (t:=t) (alg:=a) (l:=ys) (b:=b3) (c:=c3) (d:=k3) ⟨_,hs.get 2 rfl⟩ ⟨_,hs.get 1 rfl⟩ (by omega) (by omega) (by omega) (kNo hs (fun H6 hs=>?_));rw[har.1];have hrn:=har.2.2;generalize rndF t ys=rn at hrn ⊢
    repeat' (first|refine nY (fun K0 hK0=>?_)|refine zBw ?_|refine zNw (fun _ _ hs=>?_)|(refine dI (fun hc=>?_) (fun hc=>?_) <;> try (exfalso;omega))|(refine hK0 _ _ ?_;clear hK0)|fail)
    refine qm tok mx [0,1,3,7,15,31,63,127,255,511,1023,2047,4095,8191,16383,32767,32767,32767,32767,425983,950271,2064383,4194303,8388607] [false,false,false,false,false,false,false,false,false,false,false,false,false,false,false,false,false,true,true,true,true,false,false,false] (.first 0 (.first 1 (.first 2 (.first 3 (.first 4 (.first 5 (.first 6 (.first 7 (.first 8 (.first 9 (.first 10 (.first 11 (.first 12 (.first 13 (.first 14 (.first 15 (.first 16 (.first 17 (.first 18 (.first 19 (.first 20 (.first 21 (.first 22 (.first 23 .done)))))))))))))))))))))))) (by kernel_rfl) ?_;refine ql (fun K0 hK0=>?_)
    repeat' (first|refine nY (fun K0 hK0=>?_)|refine zBw ?_|refine zNw (fun _ _ hs=>?_)|(refine dI (fun hc=>?_) (fun hc=>?_) <;> try (exfalso;omega))|(refine hK0 _ _ ?_;clear hK0)|fail)
    refine c32 (b:=0) (c:=1) kt (by omega) (kNo hs (fun H7 hs=>?_));generalize mostF t a=mq at hrn ⊢
    repeat' (first|refine nY (fun K0 hK0=>?_)|refine zBw ?_|refine zNw (fun _ _ hs=>?_)|(refine dI (fun hc=>?_) (fun hc=>?_) <;> try (exfalso;omega))|(refine hK0 _ _ ?_;clear hK0)|fail)
    exact⟨(H7,i+1),⟨hs.pick [4,5] (by decide) rfl,hil⟩,by dsimp only;omega,Or.inl ⟨⟨rfl,rfl,rfl,trivial⟩,rfl⟩⟩
  ·skip
   repeat' (first|refine nY (fun K0 hK0=>?_)|refine zBw ?_|refine zNw (fun _ _ hs=>?_)|(refine dI (fun hc=>?_) (fun hc=>?_) <;> try (exfalso;omega))|(refine hK0 _ _ ?_;clear hK0)|fail)
   refine q2 _ _ _ ?_
   repeat' (first|refine nY (fun K0 hK0=>?_)|refine zBw ?_|refine zNw (fun _ _ hs=>?_)|(refine dI (fun hc=>?_) (fun hc=>?_) <;> try (exfalso;omega))|(refine hK0 _ _ ?_;clear hK0)|fail)
   refine hW _ ?_
   repeat' (first|refine nY (fun K0 hK0=>?_)|refine zBw ?_|refine zNw (fun _ _ hs=>?_)|(refine dI (fun hc=>?_) (fun hc=>?_) <;> try (exfalso;omega))|(refine hK0 _ _ ?_;clear hK0)|fail)
   rfl
end Go.Af.Tryz
