/-
  The law CollAny as a call.
-/
import Derived.Test.YtmnjcogpchodhaaGreatMV3
import Derived.Test.YtmnjcogpchodhaaGreatMWA
set_option linter.all false
namespace Go.Af.Tryz
open Go Go.Proofs
set_option maxRecDepth 100000
set_option maxHeartbeats 4000000
attribute [local irreducible] awp qB qM qO qK qx isCells qp qo qG qC qi roundEnd yj zl keyK vY

theorem ini_fst {t:Tk} {r:Int} (h0:chkF t=0) (hr:0≤r∧r<t.pr):iniF t r=fstF t r:=by
 unfold iniF isF
 rw[if_pos (by rw[if_neg (by rw[h0];simp),if_neg (by omega)])]
theorem vr_of {H0 H:List Blk} {o:Nat→Prop} {L:List (Bool × Nat × Blk)} {rows:List (Nat × List Int)} {ko:Nat} (hs:HS H0 o L H) (h1:(true,ko,Blk.cells true 1 (vrC rows))∈L) (h2 : ∀ p∈vrL rows,p∈L):Vr H rows ko :=
 ⟨⟨true,hs.mem h1⟩,fun q hq=>⟨true,hs.mem (h2 _ (vrL_mem hq))⟩⟩
def cvF (vals:List Int):List Int:=vals.map IntKind.u64.wrap
theorem cvF_len (vals:List Int):(cvF vals).length=vals.length:=by simp[cvF]
theorem cvF_u (vals:List Int) : ∀ x∈cvF vals,U64 x:=fun x hx=>by
 obtain ⟨v,_,rfl⟩:=List.mem_map.1 hx
 rw[wrap_u64]
 exact⟨Int.emod_nonneg _ (by decide),Int.emod_lt_of_pos _ (by decide)⟩
theorem cvF_take {vals:List Int} {i:Nat} (h:i<vals.length):cvF (vals.take (i+1))=cvF (vals.take i) ++ [IntKind.u64.wrap vals[i]!]:=by
 unfold cvF
 rw[List.take_succ_eq_append_getElem h,List.map_append,getElem!_pos vals i h]
 rfl
theorem jl_joi (op:Int):(joiF op=true∧op≠10)↔jlF op=true:=by
 unfold joiF jlF
 rw[decide_eq_true_eq,decide_eq_true_eq]
 omega
theorem c44g {H:List Blk} {t:Tk} {vs:List Int} {b c kv n:Nat} {wv:Bool} {R:Value→List Blk→Prop} (kt:TkOk t) (gr:Gr H t.sz b) (hl:t.sz.length≤9223372036854775807) (hw:t.ws.length≤9223372036854775807)
 (hv:bget H kv=some (.cells wv 2 (vaC vs))) (hn:vs.length=n) (hvl:n≤300) (hvr : ∀ x∈vs,U64 x)
 (h : ∀ H' ko rows,HS H none' ((true,ko, .cells true 1 (vrC rows))::vrL rows) H' → rows.length=t.pr.toNat→(∀ (r:Nat) q,rows[r]? = some q→q.2.length=(iniF t r).length)→(∀ q∈rows, ∀ x∈q.2,U64 x)→R (sv ko rows.length) H') :
 qB Tryz.prog 44 [tkV t b c,sv kv n] H R:=by
 subst hn
 exact c44 kt gr hl hw hv hvl hvr h
theorem wk11 (t:Tk) (alg:Int) (l:List Coll.St) (vals:List Int) (z1:t.sz.length≤9223372036854775807) (z2:t.ws.length≤9223372036854775807) (z3:l.length≤9223372036854775807) {m:LM} {argsR:Array Value} {w:World}
 (ha:LRel m [schV t alg 0 1 2 l.length,sv 3 vals.length] argsR.toList) (hr:HRel m [ro t.sz, .cells false 1 (bls t.ws), .cells false 6 (stsC l),ro vals] w) :
 Calls Tryz.prog 11 argsR w fun e w' => ∃ vR,e = .returned vR∧xe m [ro t.sz, .cells false 1 (bls t.ws), .cells false 6 (stsC l),ro vals] w (fun v _=>v = .bool true) vR w' := by
 refine calls_vcg tok Tryz.func11 rfl Tryz.ntmps11 rfl (by simp) ?_ ha hr
 generalize hH0 : [ro t.sz,Blk.cells false 1 (bls t.ws),Blk.cells false 6 (stsC l),ro vals]=H0
 have g0:Gr H0 t.sz 0:=⟨_,by rw[← hH0];rfl⟩
 have w0:Gw H0 t.ws 0 1:=⟨by decide,_,by rw[← hH0];rfl⟩
 have s0:Sts H0 l 2:=⟨_,by rw[← hH0];rfl⟩
 have v0:bget H0 3=some (.cells false 1 (ints vals)):=by rw[← hH0];rfl
 clear hH0 ha hr
 refine qJ (HS.start H0 none') (fun H1 b1 e1 l1 hs=>?_)
 refine qH (fun _ hKs=>hKs _ _ ?_);clear hKs
 clear e1 l1
 repeat' (first|refine nX ?_|refine nY (fun K0 hK0=>?_)|refine bH ?_|refine bM ?_|refine iS hs ?_|refine rS hs ?_|refine eI _ (aI rfl ?_)|refine qg ?_|refine qf ?_|refine qc ?_|refine oJ ?_|refine nN hs (fun _ _ hs=>?_)|refine nS hs (fun _ _ hs=>?_)|refine sX hs (fun _ hs=>?_)|(refine hK0 _ _ ?_;clear hK0)|fail)
 refine c29 (g0.up (qh hs)) (s0.up (qh hs)) z1 z2 z3 (fun H2 hn=>?_)
 have hs:=qI hs hn
 clear hn
 have works : ∀ (H:List Blk) {R:Value→List Blk→Prop} (_:R (.bool true) H),qB Tryz.prog 15 [] H R:=fun H _ h=>(W.worksX H h).call
 by_cases h0:sndF t l=0
 ·rw[h0]
  have hchk:=(snd_ok h0).1
  have kt:=tk_ok hchk
  have hpr:=kt.pr
  by_cases q:t.pr≤12∧l.length≤300∧vals.length≤300
  ·obtain ⟨q1,q2,q3⟩:=q
   repeat' (first|refine nX ?_|refine nY (fun K0 hK0=>?_)|refine bH ?_|refine bM ?_|refine iS hs ?_|refine rS hs ?_|refine eI _ (aI rfl ?_)|refine qg ?_|refine qf ?_|refine qc ?_|refine oJ ?_|refine nN hs (fun _ _ hs=>?_)|refine nS hs (fun _ _ hs=>?_)|refine sX hs (fun _ hs=>?_)|(refine dI (fun hc=>?_) (fun hc=>?_) <;> try (exfalso;omega))|(refine hK0 _ _ ?_;clear hK0)|fail)
   refine c26 (g0.up (qh hs)) (w0.up (qh hs)) (s0.up (qh hs)) z1 z2 z3 (fun H3 hn=>?_)
   have hs:=qI hs hn
   clear hn
   rw[h0,decide_eq_true rfl,Bool.true_and]
   repeat' (first|refine nX ?_|refine nY (fun K0 hK0=>?_)|refine bH ?_|refine bM ?_|refine iS hs ?_|refine rS hs ?_|refine eI _ (aI rfl ?_)|refine qg ?_|refine qf ?_|refine qc ?_|refine oJ ?_|refine nN hs (fun _ _ hs=>?_)|refine nS hs (fun _ _ hs=>?_)|refine sX hs (fun _ hs=>?_)|(refine dI (fun hc=>?_) (fun hc=>?_) <;> try (exfalso;omega))|(refine hK0 _ _ ?_;clear hK0)|fail)
   refine c43 ?_
   cases hj:jlF t.op
   all_goals (
    repeat' (first|refine nX ?_|refine nY (fun K0 hK0=>?_)|refine bH ?_|refine bM ?_|refine iS hs ?_|refine rS hs ?_|refine eI _ (aI rfl ?_)|refine qg ?_|refine qf ?_|refine qc ?_|refine oJ ?_|refine nN hs (fun _ _ hs=>?_)|refine nS hs (fun _ _ hs=>?_)|refine sX hs (fun _ hs=>?_)|(refine dI (fun hc=>?_) (fun hc=>?_) <;> try (exfalso;omega))|(refine hK0 _ _ ?_;clear hK0)|fail)
    )
   all_goals (
    first
    | (refine vO (α := List Blk × Nat × Nat) tok (fun z=>HS H0 none' [(true,z.2.1, .cells true 2 (vaC (cvF (vals.take z.2.2)))),(true,b1,shB t alg 0 1 2 l.length)] z.1∧z.2.2≤vals.length)
        (fun | ⟨_,k,i⟩=>[(1,sv 3 vals.length),(2, .pointer (some ⟨b1,0,none⟩)),(5, .bool (rgtF t l)),(6, .int .i64 0),(7, .int .i64 1),(8, .int .i64 1),(9,sv k i),(10, .int .i64 (i:Int))]) (fun | ⟨H',_,_⟩=>H') (fun z=>vals.length-z.2.2)
        ⟨H3 ++ [.cells true 2 (vaC [])],H3.length,0⟩ ⟨hs.virt _,Nat.zero_le _⟩ ⟨⟨_,rfl, .rfl⟩,⟨_,rfl, .rfl⟩,⟨_,rfl, .rfl⟩,⟨_,rfl, .rfl⟩,⟨_,rfl, .rfl⟩,⟨_,rfl, .rfl⟩,⟨_,rfl, .nil _⟩,⟨_,rfl, .rfl⟩,trivial⟩ (WkH.rfl.app _) ?_)
    | (refine vO (α := List Blk × Nat × Nat) tok (fun z=>HS H0 none' [(true,z.2.1, .cells true 2 (vaC (cvF (vals.take z.2.2)))),(true,b1,shB t alg 0 1 2 l.length)] z.1∧z.2.2≤vals.length)
        (fun | ⟨_,k,i⟩=>[(1,sv 3 vals.length),(2, .pointer (some ⟨b1,0,none⟩)),(5, .bool (rgtF t l)),(6, .int .i64 0),(7, .int .i64 0),(8, .int .i64 0),(9,sv k i),(10, .int .i64 (i:Int))]) (fun | ⟨H',_,_⟩=>H') (fun z=>vals.length-z.2.2)
        ⟨H3 ++ [.cells true 2 (vaC [])],H3.length,0⟩ ⟨hs.virt _,Nat.zero_le _⟩ ⟨⟨_,rfl, .rfl⟩,⟨_,rfl, .rfl⟩,⟨_,rfl, .rfl⟩,⟨_,rfl, .rfl⟩,⟨_,rfl, .rfl⟩,⟨_,rfl, .rfl⟩,⟨_,rfl, .nil _⟩,⟨_,rfl, .rfl⟩,trivial⟩ (WkH.rfl.app _) ?_)
    clear hs
    rintro ⟨H4,k,i⟩ ⟨hs,hi⟩
    dsimp only at hs hi ⊢
    repeat' (first|refine nX ?_|refine nY (fun K0 hK0=>?_)|refine bH ?_|refine bM ?_|refine iS hs ?_|refine rS hs ?_|refine eI _ (aI rfl ?_)|refine qg ?_|refine qf ?_|refine qc ?_|refine oJ ?_|refine nN hs (fun _ _ hs=>?_)|refine nS hs (fun _ _ hs=>?_)|refine sX hs (fun _ hs=>?_)|(refine hK0 _ _ ?_;clear hK0)|fail)
    refine And.intro (fun hc=>?_) (fun hc=>?_)
    ·have hiv:i<vals.length:=by have:=of_decide_eq_true hc;omega
     clear hc
     have hv3:=zu (qh hs) v0
     repeat' (first|refine nX ?_|refine nY (fun K0 hK0=>?_)|refine bH ?_|refine bM ?_|refine iS hs ?_|refine rS hs ?_|refine eI _ (aI rfl ?_)|refine qg ?_|refine qf ?_|refine qc ?_|refine oJ ?_|refine nN hs (fun _ _ hs=>?_)|refine nS hs (fun _ _ hs=>?_)|refine sX hs (fun _ hs=>?_)|(refine hK0 _ _ ?_;clear hK0)|fail)
     refine qm hv3 ⟨i,rfl,by omega, ?_⟩
     repeat' (first|refine nX ?_|refine nY (fun K0 hK0=>?_)|refine bH ?_|refine bM ?_|refine iS hs ?_|refine rS hs ?_|refine eI _ (aI rfl ?_)|refine qg ?_|refine qf ?_|refine qc ?_|refine oJ ?_|refine nN hs (fun _ _ hs=>?_)|refine nS hs (fun _ _ hs=>?_)|refine sX hs (fun _ hs=>?_)|(refine hK0 _ _ ?_;clear hK0)|fail)
     refine qj hv3 (wU hiv ?_)
     repeat' (first|refine nX ?_|refine nY (fun K0 hK0=>?_)|refine bH ?_|refine bM ?_|refine iS hs ?_|refine rS hs ?_|refine eI _ (aI rfl ?_)|refine qg ?_|refine qf ?_|refine qc ?_|refine oJ ?_|refine nN hs (fun _ _ hs=>?_)|refine nS hs (fun _ _ hs=>?_)|refine sX hs (fun _ hs=>?_)|(refine hK0 _ _ ?_;clear hK0)|fail)
     refine app_hs hs 1 (us := [.int .u64 (IntKind.u64.wrap vals[i]!), .int .i64 0]) rfl (by decide) (hs.get 0 rfl) rfl rfl (by show (vaC (cvF (vals.take i))).length=i*2;rw[zg,cvF_len,List.length_take];omega) (by show (i+1)*(16+1)≤_;omega) (fun H5 k2 e4 l4 hs=>?_)
     clear e4 l4
     repeat' (first|refine nX ?_|refine nY (fun K0 hK0=>?_)|refine bH ?_|refine bM ?_|refine iS hs ?_|refine rS hs ?_|refine eI _ (aI rfl ?_)|refine qg ?_|refine qf ?_|refine qc ?_|refine oJ ?_|refine nN hs (fun _ _ hs=>?_)|refine nS hs (fun _ _ hs=>?_)|refine sX hs (fun _ hs=>?_)|(refine hK0 _ _ ?_;clear hK0)|fail)
     refine⟨⟨_,k2,i+1⟩,⟨?_,hiv⟩,by dsimp only;omega,Or.inl ⟨⟨rfl,rfl,rfl,rfl,rfl,rfl,rfl,rfl,trivial⟩,rfl⟩⟩
     dsimp only
     rw[cvF_take hiv,zh]
     exact hs.pick [1,2] (by decide) rfl
    ·have hiv:i=vals.length:=by have:=of_decide_eq_false hc;omega
     clear hc
     subst hiv
     rw[List.take_length] at hs
     repeat' (first|refine nX ?_|refine nY (fun K0 hK0=>?_)|refine bH ?_|refine bM ?_|refine iS hs ?_|refine rS hs ?_|refine eI _ (aI rfl ?_)|refine qg ?_|refine qf ?_|refine qc ?_|refine oJ ?_|refine nN hs (fun _ _ hs=>?_)|refine nS hs (fun _ _ hs=>?_)|refine sX hs (fun _ hs=>?_)|(refine hK0 _ _ ?_;clear hK0)|fail)
     refine c44g kt (g0.up (qh hs)) z1 z2 (hs.get 0 rfl) (cvF_len vals) (by omega) (cvF_u vals) (fun H5 ko rows hn hrl hri hru=>?_)
     have hs:=(hs.call hn (by rw[List.all_cons,vrL_all];rfl)).perm List.perm_append_comm
     clear hn
     have hrp:(rows.length:Int)=t.pr:=by omega
     have hvl : ∀ (r:Nat) q,rows[r]? = some q→q.2.length=(fstF t r).length:=fun r q hq=>by
      rw[hri r q hq,ini_fst hchk]
      have:=(List.getElem?_eq_some_iff.1 hq).1
      omega
     have hvr : ∀ (H:List Blk),HS H5 none' [] H→Vr H rows ko:=fun H hn=>(vr_of hs (List.mem_append_right _ List.mem_cons_self) (fun p hp=>List.mem_append_right _ (List.mem_cons_of_mem _ hp))).up hn
     repeat' (first|refine nX ?_|refine nY (fun K0 hK0=>?_)|refine bH ?_|refine bM ?_|refine iS hs ?_|refine rS hs ?_|refine eI _ (aI rfl ?_)|refine qg ?_|refine qf ?_|refine qc ?_|refine oJ ?_|refine nN hs (fun _ _ hs=>?_)|refine nS hs (fun _ _ hs=>?_)|refine sX hs (fun _ hs=>?_)|(refine hK0 _ _ ?_;clear hK0)|fail)
     refine c21 (g0.up (qh hs)) (w0.up (qh hs)) (s0.up (qh hs)) z1 z2 z3 h0 (hvr _ (HS.start _ _)) hrp hvl (by
      first
       | (rw[if_pos ((jl_joi t.op).2 hj)];exact⟨rfl,rfl⟩)
       | (rw[if_neg (fun e=>by have:=(jl_joi t.op).1 e;rw[hj] at this;cases this)];exact⟨rfl,rfl⟩)) (fun hg H6 hn=>?_) (fun H6 oo out tr hn htr hfg hol hoq=>?_)
     ·have hs:=qI hs hn
      clear hn
      rw[hg]
      repeat' (first|refine nX ?_|refine nY (fun K0 hK0=>?_)|refine bH ?_|refine bM ?_|refine iS hs ?_|refine rS hs ?_|refine eI _ (aI rfl ?_)|refine qg ?_|refine qf ?_|refine qc ?_|refine oJ ?_|refine nN hs (fun _ _ hs=>?_)|refine nS hs (fun _ _ hs=>?_)|refine sX hs (fun _ hs=>?_)|(refine dI (fun hc=>?_) (fun hc=>?_) <;> try (exfalso;omega))|(refine hK0 _ _ ?_;clear hK0)|fail)
      refine works _ ?_
      repeat' (first|refine nX ?_|refine nY (fun K0 hK0=>?_)|refine bH ?_|refine bM ?_|refine iS hs ?_|refine rS hs ?_|refine eI _ (aI rfl ?_)|refine qg ?_|refine qf ?_|refine qc ?_|refine oJ ?_|refine nN hs (fun _ _ hs=>?_)|refine nS hs (fun _ _ hs=>?_)|refine sX hs (fun _ hs=>?_)|(refine dI (fun hc=>?_) (fun hc=>?_) <;> try (exfalso;omega))|(refine hK0 _ _ ?_;clear hK0)|fail)
      rfl
     ·have hg:rgtF t l=true:=by unfold rgtF;rw[htr];exact hfg
      have hvo : ∀ (H:List Blk),HS H6 none' [] H→Vr H out oo:=fun H hn2=>(vr_of hn List.mem_cons_self (fun p hp=>List.mem_cons_of_mem _ hp)).up hn2
      have hvr2:=hvr H6 (qh hn)
      have hs:=(hs.call hn (by rw[List.all_cons,vrL_all];rfl)).perm List.perm_append_comm
      rw[hg]
      repeat' (first|refine nX ?_|refine nY (fun K0 hK0=>?_)|refine bH ?_|refine bM ?_|refine iS hs ?_|refine rS hs ?_|refine eI _ (aI rfl ?_)|refine qg ?_|refine qf ?_|refine qc ?_|refine oJ ?_|refine nN hs (fun _ _ hs=>?_)|refine nS hs (fun _ _ hs=>?_)|refine sX hs (fun _ hs=>?_)|(refine dI (fun hc=>?_) (fun hc=>?_) <;> try (exfalso;omega))|(refine hK0 _ _ ?_;clear hK0)|fail)
      refine c47 hchk (g0.up (qh hs)) (w0.up (qh hs)) z1 z2 hvr2 (hvo _ (HS.start _ _)) hrp hvl hru (fun e=>by first | exact⟨rfl,rfl⟩ | (rw[hj] at e;cases e)) hol hoq (trc_in htr) hfg (fun H7 hn2=>?_)
      have hs:=qI hs hn2
      clear hn2
      repeat' (first|refine nX ?_|refine nY (fun K0 hK0=>?_)|refine bH ?_|refine bM ?_|refine iS hs ?_|refine rS hs ?_|refine eI _ (aI rfl ?_)|refine qg ?_|refine qf ?_|refine qc ?_|refine oJ ?_|refine nN hs (fun _ _ hs=>?_)|refine nS hs (fun _ _ hs=>?_)|refine sX hs (fun _ hs=>?_)|(refine dI (fun hc=>?_) (fun hc=>?_) <;> try (exfalso;omega))|(refine hK0 _ _ ?_;clear hK0)|fail)
      refine works _ ?_
      repeat' (first|refine nX ?_|refine nY (fun K0 hK0=>?_)|refine bH ?_|refine bM ?_|refine iS hs ?_|refine rS hs ?_|refine eI _ (aI rfl ?_)|refine qg ?_|refine qf ?_|refine qc ?_|refine oJ ?_|refine nN hs (fun _ _ hs=>?_)|refine nS hs (fun _ _ hs=>?_)|refine sX hs (fun _ hs=>?_)|(refine dI (fun hc=>?_) (fun hc=>?_) <;> try (exfalso;omega))|(refine hK0 _ _ ?_;clear hK0)|fail)
      rfl
      )
  ·skip
   repeat' (first|refine nX ?_|refine nY (fun K0 hK0=>?_)|refine bH ?_|refine bM ?_|refine iS hs ?_|refine rS hs ?_|refine eI _ (aI rfl ?_)|refine qg ?_|refine qf ?_|refine qc ?_|refine oJ ?_|refine nN hs (fun _ _ hs=>?_)|refine nS hs (fun _ _ hs=>?_)|refine sX hs (fun _ hs=>?_)|(refine dI (fun hc=>?_) (fun hc=>?_) <;> try (exfalso;omega))|(refine hK0 _ _ ?_;clear hK0)|fail)
   all_goals (
    refine works _ ?_
    repeat' (first|refine nX ?_|refine nY (fun K0 hK0=>?_)|refine bH ?_|refine bM ?_|refine iS hs ?_|refine rS hs ?_|refine eI _ (aI rfl ?_)|refine qg ?_|refine qf ?_|refine qc ?_|refine oJ ?_|refine nN hs (fun _ _ hs=>?_)|refine nS hs (fun _ _ hs=>?_)|refine sX hs (fun _ hs=>?_)|(refine dI (fun hc=>?_) (fun hc=>?_) <;> try (exfalso;omega))|(refine hK0 _ _ ?_;clear hK0)|fail)
    rfl)
 ·generalize sndF t l=z at h0
  repeat' (first|refine nX ?_|refine nY (fun K0 hK0=>?_)|refine bH ?_|refine bM ?_|refine iS hs ?_|refine rS hs ?_|refine eI _ (aI rfl ?_)|refine qg ?_|refine qf ?_|refine qc ?_|refine oJ ?_|refine nN hs (fun _ _ hs=>?_)|refine nS hs (fun _ _ hs=>?_)|refine sX hs (fun _ hs=>?_)|(refine dI (fun hc=>?_) (fun hc=>?_) <;> try (exfalso;omega))|(refine hK0 _ _ ?_;clear hK0)|fail)
  refine works _ ?_
  repeat' (first|refine nX ?_|refine nY (fun K0 hK0=>?_)|refine bH ?_|refine bM ?_|refine iS hs ?_|refine rS hs ?_|refine eI _ (aI rfl ?_)|refine qg ?_|refine qf ?_|refine qc ?_|refine oJ ?_|refine nN hs (fun _ _ hs=>?_)|refine nS hs (fun _ _ hs=>?_)|refine sX hs (fun _ hs=>?_)|(refine dI (fun hc=>?_) (fun hc=>?_) <;> try (exfalso;omega))|(refine hK0 _ _ ?_;clear hK0)|fail)
  rfl
end Go.Af.Tryz
