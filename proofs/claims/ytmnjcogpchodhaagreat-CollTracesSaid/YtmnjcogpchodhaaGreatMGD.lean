/-
  Rows of slots: span; the slots that have values at first.
  Grids: the rank of coordinates.
-/
import Derived.Test.YtmnjcogpchodhaaGreatMGB
import Derived.Test.YtmnjcogpchodhaaGreatMGA
set_option linter.all false
namespace Go.Af.Tryz
open Go Go.Proofs
set_option maxRecDepth 100000
set_option maxHeartbeats 4000000
attribute [local irreducible] awp qC vK vS vH qJ isCells qy qp qW qN qw roundEnd

def spnF (t:Tk) (f g:Int):List Int:=(List.range (g*t.pa-f*t.pa).toNat).map (fun i:Nat=>f*t.pa+(i:Int))
theorem wW (t:Tk) (f g:Int):(spnF t f g).length=(g*t.pa-f*t.pa).toNat:=by unfold spnF;simp
theorem spn_take (t:Tk) (f g:Int) {i:Nat} (h:i<(spnF t f g).length):(spnF t f g).take (i+1)=(spnF t f g).take i ++ [f*t.pa+(i:Int)]:=by
 rw[List.take_succ_eq_append_getElem h]
 have e:(spnF t f g)[i]=f*t.pa+(i:Int):=by
  unfold spnF at h ⊢
  rw[List.getElem_map,List.getElem_range]
 rw[e]
theorem c157 {H:List Blk} {t:Tk} {f g:Int} {b c:Nat} {R:Value->List Blk->Prop} (hf:0<=f) (hfg:f<=g) (hg:0<=g*t.pa/\g*t.pa<=100000) (hp:1<=t.pa) (h : ∀ H' k,HS H none' [(true,k,rw' (spnF t f g))] H' -> R (sv k (spnF t f g).length) H'):qC Tryz.prog 157 [tkV t b c, .int .i64 f, .int .i64 g] H R:=by
 have hfp:0<=f*t.pa/\f*t.pa<=g*t.pa:=⟨Int.mul_nonneg hf (by omega),Int.mul_le_mul_of_nonneg_right hfg (by omega)⟩
 have hlen:=wW t f g
 refine ql tok Tryz.call157 Tryz.func157 rfl Tryz.ntmps157 rfl (by simp) ?_
 refine qm (HS.start H none') (fun H1 b1 e1 l1 hs=>?_)
 refine qo (fun _ hKs=>hKs _ _ ?_);clear hKs
 clear e1 l1
 generalize hn:spnF t f g=xs at h hlen
 have htk:=fun i=>@spn_take t f g i
 rw[hn] at htk
 repeat' (first|refine nX ?_|refine nY (fun K0 hK0=>?_)|refine bH ?_|refine bM ?_|refine iS hs ?_|refine rS hs ?_|refine eI _ (aI rfl ?_)|refine qg ?_|refine qf ?_|refine qc ?_|refine oJ ?_|refine nN hs (fun _ _ hs=>?_)|refine nS hs (fun _ _ hs=>?_)|refine sX hs (fun _ hs=>?_)|(refine hK0 _ _ ?_;clear hK0)|fail)
 refine zx (α := List Blk × Nat × Nat) tok (fun z=>HS H none' [(true,z.2.1,rw' (xs.take z.2.2)),(true,b1, .cells true 1 (tkC t b c))] z.1/\z.2.2<=xs.length)
  (fun | ⟨_,k,i⟩=>[(2, .int .i64 g),(3, .pointer (some ⟨b1,0,none⟩)),(7,sv k i),(8, .int .i64 (f*t.pa+(i:Int)))]) (fun | ⟨H',_,_⟩=>H') (fun z=>xs.length-z.2.2)
  ⟨H1 ++ [rw' []],H1.length,0⟩ ⟨(hs.virt _).pick [0,1] (by decide) rfl,Nat.zero_le _⟩ ⟨⟨_,rfl, .rfl⟩,⟨_,rfl, .rfl⟩,⟨_,rfl, .nil _⟩,⟨_,rfl,by rw[show f*t.pa+((0:Nat):Int)=f*t.pa by omega];exact .rfl⟩,trivial⟩ (WkH.rfl.app _) ?_
 clear hs
 rintro ⟨H2,k,i⟩ ⟨hs,hi⟩
 dsimp only at hs hi ⊢
 refine And.intro (by decide) ?_
 refine qj (hs.get 1 rfl) ?_
 refine qi (hs.get 1 rfl) ⟨_,rfl, ?_⟩
 refine Or.inl ⟨_,rfl,by unfold I64;omega, ?_⟩
 refine And.intro (fun hc=>?_) (fun hc=>?_)
 ·have hlt:i<xs.length:=by simp at hc;omega
  clear hc
  have et:=htk i hlt
  refine And.intro (by decide) ?_
  refine vJ hs (fun H3 j e3 l3 hs=>?_)
  refine And.intro rfl ?_
  refine app_hs hs 1 (us := [.int .i64 (f*t.pa+(i:Int))]) rfl (by decide) (hs.get 0 rfl) rfl rfl (by show (ints (xs.take i)).length=i*1;rw[qX,List.length_take];omega) (by show (i+1)*(8+1)<=_;omega) (fun H4 k' e4 l4 hs=>?_)
  refine Or.inl ⟨f*t.pa+((i+1:Nat):Int),by omega,by unfold I64;omega, ?_⟩
  refine⟨⟨H4,k',i+1⟩,⟨?_,hlt⟩,by dsimp only;omega,Or.inl ⟨⟨rfl,rfl,rfl,rfl,trivial⟩,rfl⟩⟩
  dsimp only
  rw[et]
  have:=hs.pick [1,2] (by decide) rfl (L' := [(true,k', .cells true 1 (ints (xs.take i) ++ [.int .i64 (f*t.pa+(i:Int))])),(true,b1, .cells true 1 (tkC t b c))])
  rw[show ints (xs.take i) ++ [.int .i64 (f*t.pa+(i:Int))]=ints (xs.take i ++ [f*t.pa+(i:Int)]) from (by rw[zZ];rfl)] at this
  exact this
 ·have hie:i=xs.length:=by simp at hc;omega
  subst hie
  rw[List.take_length] at hs
  exact h H2 k (hs.pick [0] (by decide) rfl)
theorem c94 {H:List Blk} {t:Tk} {f g:Int} {b c:Nat} {R:Value->List Blk->Prop} (hf:0<=f) (hfg:f<=g) (hg:0<=g*t.pa/\g*t.pa<=100000) (hp:1<=t.pa) (h : ∀ H' k,HS H none' [(true,k,rw' (spnF t f g))] H' -> R (sv k (spnF t f g).length) H'):qC Tryz.prog 94 [tkV t b c, .int .i64 f, .int .i64 g] H R:=by
 have hfp:0<=f*t.pa/\f*t.pa<=g*t.pa:=⟨Int.mul_nonneg hf (by omega),Int.mul_le_mul_of_nonneg_right hfg (by omega)⟩
 have hlen:=wW t f g
 refine ql tok Tryz.call94 Tryz.func94 rfl Tryz.ntmps94 rfl (by simp) ?_
 refine qm (HS.start H none') (fun H1 b1 e1 l1 hs=>?_)
 refine qo (fun _ hKs=>hKs _ _ ?_);clear hKs
 clear e1 l1
 generalize hn:spnF t f g=xs at h hlen
 have htk:=fun i=>@spn_take t f g i
 rw[hn] at htk
 repeat' (first|refine nX ?_|refine nY (fun K0 hK0=>?_)|refine bH ?_|refine bM ?_|refine iS hs ?_|refine rS hs ?_|refine eI _ (aI rfl ?_)|refine qg ?_|refine qf ?_|refine qc ?_|refine oJ ?_|refine nN hs (fun _ _ hs=>?_)|refine nS hs (fun _ _ hs=>?_)|refine sX hs (fun _ hs=>?_)|(refine hK0 _ _ ?_;clear hK0)|fail)
 refine zx (α := List Blk × Nat × Nat) tok (fun z=>HS H none' [(true,z.2.1,rw' (xs.take z.2.2)),(true,b1, .cells true 1 (tkC t b c))] z.1/\z.2.2<=xs.length)
  (fun | ⟨_,k,i⟩=>[(2, .int .i64 g),(3, .pointer (some ⟨b1,0,none⟩)),(7,sv k i),(8, .int .i64 (f*t.pa+(i:Int)))]) (fun | ⟨H',_,_⟩=>H') (fun z=>xs.length-z.2.2)
  ⟨H1 ++ [rw' []],H1.length,0⟩ ⟨(hs.virt _).pick [0,1] (by decide) rfl,Nat.zero_le _⟩ ⟨⟨_,rfl, .rfl⟩,⟨_,rfl, .rfl⟩,⟨_,rfl, .nil _⟩,⟨_,rfl,by rw[show f*t.pa+((0:Nat):Int)=f*t.pa by omega];exact .rfl⟩,trivial⟩ (WkH.rfl.app _) ?_
 clear hs
 rintro ⟨H2,k,i⟩ ⟨hs,hi⟩
 dsimp only at hs hi ⊢
 refine And.intro (by decide) ?_
 refine qj (hs.get 1 rfl) ?_
 refine qi (hs.get 1 rfl) ⟨_,rfl, ?_⟩
 refine Or.inl ⟨_,rfl,by unfold I64;omega, ?_⟩
 refine And.intro (fun hc=>?_) (fun hc=>?_)
 ·have hlt:i<xs.length:=by simp at hc;omega
  clear hc
  have et:=htk i hlt
  refine And.intro (by decide) ?_
  refine vJ hs (fun H3 j e3 l3 hs=>?_)
  refine And.intro rfl ?_
  refine app_hs hs 1 (us := [.int .i64 (f*t.pa+(i:Int))]) rfl (by decide) (hs.get 0 rfl) rfl rfl (by show (ints (xs.take i)).length=i*1;rw[qX,List.length_take];omega) (by show (i+1)*(8+1)<=_;omega) (fun H4 k' e4 l4 hs=>?_)
  refine Or.inl ⟨f*t.pa+((i+1:Nat):Int),by omega,by unfold I64;omega, ?_⟩
  refine⟨⟨H4,k',i+1⟩,⟨?_,hlt⟩,by dsimp only;omega,Or.inl ⟨⟨rfl,rfl,rfl,rfl,trivial⟩,rfl⟩⟩
  dsimp only
  rw[et]
  have:=hs.pick [1,2] (by decide) rfl (L' := [(true,k', .cells true 1 (ints (xs.take i) ++ [.int .i64 (f*t.pa+(i:Int))])),(true,b1, .cells true 1 (tkC t b c))])
  rw[show ints (xs.take i) ++ [.int .i64 (f*t.pa+(i:Int))]=ints (xs.take i ++ [f*t.pa+(i:Int)]) from (by rw[zZ];rfl)] at this
  exact this
 ·have hie:i=xs.length:=by simp at hc;omega
  subst hie
  rw[List.take_length] at hs
  exact h H2 k (hs.pick [0] (by decide) rfl)
theorem zL {t:Tk} (k:TkOk t) {g:Int} (h1:0<=g) (h2:g<=128):0<=g*t.pa/\g*t.pa<=100000:=by
 have hp:=k.pa
 have q:g*t.pa<=128*16:=Int.mul_le_mul h2 hp.2 (by omega) (by omega)
 exact⟨Int.mul_nonneg h1 (by omega),by omega⟩
def fstF (t:Tk) (r:Int):List Int :=
 if (t.op=1\/t.op=6)/\r≠t.ro then []
 else if t.op=5\/t.op=7 then spnF t r (r+1)
 else if t.op=8 then spnF t 0 t.pr
 else if t.op=11 then spnF t 0 1
 else spnF t 0 (blkF t)
theorem c92 {H:List Blk} {t:Tk} {r:Int} {b c:Nat} {R:Value->List Blk->Prop} (kt:TkOk t) (hr:0<=r/\r<t.pr) (h : ∀ H' k,HS H none' [(true,k,rw' (fstF t r))] H' -> R (sv k (fstF t r).length) H'):qC Tryz.prog 92 [tkV t b c, .int .i64 r] H R:=by
 have hb:=wC kt
 have hpr:=kt.pr
 have hpa:=kt.pa
 have hop:=kt.op
 have hdm:=kt.dims
 refine acall_weak ?_
 refine ql tok Tryz.call92 Tryz.func92 rfl Tryz.ntmps92 rfl (by simp) ?_
 refine qm (HS.start H none') (fun H1 b1 e1 l1 hs=>?_)
 refine qo (fun _ hKs=>hKs _ _ ?_);clear hKs
 clear e1 l1
 unfold fstF at h
 repeat' (first|refine nX ?_|refine nY (fun K0 hK0=>?_)|refine bH ?_|refine bM ?_|refine iS hs ?_|refine rS hs ?_|refine eI _ (aI rfl ?_)|refine qg ?_|refine qf ?_|refine qc ?_|refine oJ ?_|refine nN hs (fun _ _ hs=>?_)|refine nS hs (fun _ _ hs=>?_)|refine sX hs (fun _ hs=>?_)|(refine dI (fun hc=>?_) (fun hc=>?_) <;> try (exfalso;omega))|(refine hK0 _ _ ?_;clear hK0)|fail)
 all_goals try (
  refine c157 (by omega) (by omega) (zL kt (by omega) (by omega)) (by omega) (fun H2 j hn=>?_)
  have hs:=hs.call hn rfl
  clear hn
  (repeat (first | rw[if_pos (by omega)] at h | rw[if_neg (by omega)] at h))
  repeat' (first|refine nX ?_|refine nY (fun K0 hK0=>?_)|refine bH ?_|refine bM ?_|refine iS hs ?_|refine rS hs ?_|refine eI _ (aI rfl ?_)|refine qg ?_|refine qf ?_|refine qc ?_|refine oJ ?_|refine nN hs (fun _ _ hs=>?_)|refine nS hs (fun _ _ hs=>?_)|refine sX hs (fun _ hs=>?_)|(refine hK0 _ _ ?_;clear hK0)|fail)
  exact⟨_,_, .rfl, .rfl,h _ j (hs.pick [0] (by decide) rfl)⟩)
 all_goals try (
  rw[if_pos (by omega)] at h
  have hv:=hs.virt (rw' [])
  exact⟨sv H1.length 0,H1 ++ [rw' []], .inl (.nil _),WkH.rfl.app _,h _ _ (hv.pick [0] (by decide) rfl)⟩)
 all_goals (
  (repeat (first | rw[if_pos (by omega)] at h | rw[if_neg (by omega)] at h))
  refine qL tok mx [0,0,2,7,15] [true,false,false,false,false] (.first 1 (.alt 0 (.first 2 (.first 3 (.first 4 .done))) (.alt 2 (.first 0 (.first 3 (.first 4 .done))) .no))) (by kernel_rfl) ?_
  refine qP (fun K0 hK0=>?_)
  repeat' (first|refine nX ?_|refine nY (fun K0 hK0=>?_)|refine bH ?_|refine bM ?_|refine iS hs ?_|refine rS hs ?_|refine eI _ (aI rfl ?_)|refine qg ?_|refine qf ?_|refine qc ?_|refine oJ ?_|refine nN hs (fun _ _ hs=>?_)|refine nS hs (fun _ _ hs=>?_)|refine sX hs (fun _ hs=>?_)|(refine hK0 _ _ ?_;clear hK0)|fail)
  refine And.intro ?_ (And.intro ?_ trivial)
  all_goals (
   repeat' (first|refine nX ?_|refine nY (fun K0 hK0=>?_)|refine bH ?_|refine bM ?_|refine iS hs ?_|refine rS hs ?_|refine eI _ (aI rfl ?_)|refine qg ?_|refine qf ?_|refine qc ?_|refine oJ ?_|refine nN hs (fun _ _ hs=>?_)|refine nS hs (fun _ _ hs=>?_)|refine sX hs (fun _ hs=>?_)|(refine hK0 _ _ ?_;clear hK0)|fail)
   refine c87 (by omega) hpr (fun H3 hn=>?_)
   have hs:=qA hs hn
   clear hn
   repeat' (first|refine nX ?_|refine nY (fun K0 hK0=>?_)|refine bH ?_|refine bM ?_|refine iS hs ?_|refine rS hs ?_|refine eI _ (aI rfl ?_)|refine qg ?_|refine qf ?_|refine qc ?_|refine oJ ?_|refine nN hs (fun _ _ hs=>?_)|refine nS hs (fun _ _ hs=>?_)|refine sX hs (fun _ hs=>?_)|(refine hK0 _ _ ?_;clear hK0)|fail)
   refine c157 (by omega) (by omega) (zL kt (by omega) (by omega)) (by omega) (fun H2 j hn=>?_)
   have hs:=hs.call hn rfl
   clear hn
   repeat' (first|refine nX ?_|refine nY (fun K0 hK0=>?_)|refine bH ?_|refine bM ?_|refine iS hs ?_|refine rS hs ?_|refine eI _ (aI rfl ?_)|refine qg ?_|refine qf ?_|refine qc ?_|refine oJ ?_|refine nN hs (fun _ _ hs=>?_)|refine nS hs (fun _ _ hs=>?_)|refine sX hs (fun _ hs=>?_)|(refine hK0 _ _ ?_;clear hK0)|fail)
   exact⟨_,_, .rfl, .rfl,h _ j (hs.pick [0] (by decide) rfl)⟩))
def iniF (t:Tk) (r:Int):List Int:=if isF t r=0 then fstF t r else []
theorem is_ok {t:Tk} {r:Int} (h:isF t r=0):TkOk t/\0<=r/\r<t.pr:=by
 unfold isF at h
 split at h
 ·rename_i h0;exact absurd h h0
 ·rename_i h0
  split at h
  ·cases h
  ·have h0:chkF t=0:=by simpa using h0
   exact⟨tk_ok h0,by omega,by omega⟩
theorem c38 {H:List Blk} {t:Tk} {r:Int} {b c:Nat} {R:Value->List Blk->Prop} (g:Gr H t.sz b) (hl:t.sz.length<=10) (hw:t.ws.length<=10) (h : ∀ H' k,HS H none' [(true,k,rw' (iniF t r))] H' -> R (.tuple ⟨[sv k (iniF t r).length, .int .i64 (isF t r)]⟩) H'):qC Tryz.prog 38 [tkV t b c, .int .i64 r] H R:=by
 refine acall_weak ?_
 refine ql tok Tryz.call38 Tryz.func38 rfl Tryz.ntmps38 rfl (by simp) ?_
 refine qm (HS.start H none') (fun H1 b1 e1 l1 hs=>?_)
 refine qo (fun _ hKs=>hKs _ _ ?_);clear hKs
 clear e1 l1
 repeat' (first|refine nX ?_|refine nY (fun K0 hK0=>?_)|refine bH ?_|refine bM ?_|refine iS hs ?_|refine rS hs ?_|refine eI _ (aI rfl ?_)|refine qg ?_|refine qf ?_|refine qc ?_|refine oJ ?_|refine nN hs (fun _ _ hs=>?_)|refine nS hs (fun _ _ hs=>?_)|refine sX hs (fun _ hs=>?_)|(refine hK0 _ _ ?_;clear hK0)|fail)
 refine c93 (g.up (qh hs)) hl hw (fun H2 hn=>?_)
 have hs:=qA hs hn
 clear hn
 unfold iniF at h
 by_cases h0:isF t r=0
 ·obtain ⟨kt,hr⟩:=is_ok h0
  have hb:=wC kt
  have hpr:=kt.pr
  have hpa:=kt.pa
  have hop:=kt.op
  have hdm:=kt.dims
  rw[if_pos h0] at h
  unfold fstF at h
  rw[h0] at h ⊢
  repeat' (first|refine nX ?_|refine nY (fun K0 hK0=>?_)|refine bH ?_|refine bM ?_|refine iS hs ?_|refine rS hs ?_|refine eI _ (aI rfl ?_)|refine qg ?_|refine qf ?_|refine qc ?_|refine oJ ?_|refine nN hs (fun _ _ hs=>?_)|refine nS hs (fun _ _ hs=>?_)|refine sX hs (fun _ hs=>?_)|(refine dI (fun hc=>?_) (fun hc=>?_) <;> try (exfalso;omega))|(refine hK0 _ _ ?_;clear hK0)|fail)
  all_goals try (
   refine c94 (by omega) (by omega) (zL kt (by omega) (by omega)) (by omega) (fun H2 j hn=>?_)
   have hs:=hs.call hn rfl
   clear hn
   (repeat (first | rw[if_pos (by omega)] at h | rw[if_neg (by omega)] at h))
   repeat' (first|refine nX ?_|refine nY (fun K0 hK0=>?_)|refine bH ?_|refine bM ?_|refine iS hs ?_|refine rS hs ?_|refine eI _ (aI rfl ?_)|refine qg ?_|refine qf ?_|refine qc ?_|refine oJ ?_|refine nN hs (fun _ _ hs=>?_)|refine nS hs (fun _ _ hs=>?_)|refine sX hs (fun _ hs=>?_)|(refine hK0 _ _ ?_;clear hK0)|fail)
   exact⟨_,_, .rfl, .rfl,h _ j (hs.pick [0] (by decide) rfl)⟩)
  all_goals try (
   rw[if_pos (by omega)] at h
   have hv:=hs.virt (rw' [])
   exact⟨.tuple ⟨[sv H2.length 0, .int .i64 0]⟩,H2 ++ [rw' []], .nil2 _ _,WkH.rfl.app _,h _ _ (hv.pick [0] (by decide) rfl)⟩)
  all_goals (
   (repeat (first | rw[if_pos (by omega)] at h | rw[if_neg (by omega)] at h))
   first
    | refine qL tok mx [0,0,2,7,15,31] [true,false,false,false,false,false] (.first 1 (.alt 0 (.first 2 (.first 3 (.first 4 (.first 5 .done)))) (.alt 2 (.first 0 (.first 3 (.first 4 (.first 5 .done)))) .no))) (by kernel_rfl) ?_
    | refine qL tok mx [0,0,2,7,15,31] [true,false,false,false,false,false] (.first 1 (.alt 0 (.first 2 (.first 3 (.first 4 (.first 5 .done)))) (.alt 2 (.first 0 (.first 3 (.first 4 (.first 5 .done)))) .no))) (by kernel_rfl) ?_
   refine qP (fun K0 hK0=>?_)
   repeat' (first|refine nX ?_|refine nY (fun K0 hK0=>?_)|refine bH ?_|refine bM ?_|refine iS hs ?_|refine rS hs ?_|refine eI _ (aI rfl ?_)|refine qg ?_|refine qf ?_|refine qc ?_|refine oJ ?_|refine nN hs (fun _ _ hs=>?_)|refine nS hs (fun _ _ hs=>?_)|refine sX hs (fun _ hs=>?_)|(refine hK0 _ _ ?_;clear hK0)|fail)
   refine And.intro ?_ (And.intro ?_ trivial)
   all_goals (
    repeat' (first|refine nX ?_|refine nY (fun K0 hK0=>?_)|refine bH ?_|refine bM ?_|refine iS hs ?_|refine rS hs ?_|refine eI _ (aI rfl ?_)|refine qg ?_|refine qf ?_|refine qc ?_|refine oJ ?_|refine nN hs (fun _ _ hs=>?_)|refine nS hs (fun _ _ hs=>?_)|refine sX hs (fun _ hs=>?_)|(refine hK0 _ _ ?_;clear hK0)|fail)
    refine c88 (by omega) hpr (fun H3 hn=>?_)
    have hs:=qA hs hn
    clear hn
    repeat' (first|refine nX ?_|refine nY (fun K0 hK0=>?_)|refine bH ?_|refine bM ?_|refine iS hs ?_|refine rS hs ?_|refine eI _ (aI rfl ?_)|refine qg ?_|refine qf ?_|refine qc ?_|refine oJ ?_|refine nN hs (fun _ _ hs=>?_)|refine nS hs (fun _ _ hs=>?_)|refine sX hs (fun _ hs=>?_)|(refine hK0 _ _ ?_;clear hK0)|fail)
    refine c94 (by omega) (by omega) (zL kt (by omega) (by omega)) (by omega) (fun H2 j hn=>?_)
    have hs:=hs.call hn rfl
    clear hn
    repeat' (first|refine nX ?_|refine nY (fun K0 hK0=>?_)|refine bH ?_|refine bM ?_|refine iS hs ?_|refine rS hs ?_|refine eI _ (aI rfl ?_)|refine qg ?_|refine qf ?_|refine qc ?_|refine oJ ?_|refine nN hs (fun _ _ hs=>?_)|refine nS hs (fun _ _ hs=>?_)|refine sX hs (fun _ hs=>?_)|(refine hK0 _ _ ?_;clear hK0)|fail)
    exact⟨_,_, .rfl, .rfl,h _ j (hs.pick [0] (by decide) rfl)⟩))
 ·rw[if_neg h0] at h
  generalize isF t r=z at h0 h ⊢
  repeat' (first|refine nX ?_|refine nY (fun K0 hK0=>?_)|refine bH ?_|refine bM ?_|refine iS hs ?_|refine rS hs ?_|refine eI _ (aI rfl ?_)|refine qg ?_|refine qf ?_|refine qc ?_|refine oJ ?_|refine nN hs (fun _ _ hs=>?_)|refine nS hs (fun _ _ hs=>?_)|refine sX hs (fun _ hs=>?_)|(refine dI (fun hc=>?_) (fun hc=>?_) <;> try (exfalso;omega))|(refine hK0 _ _ ?_;clear hK0)|fail)
  have hv:=hs.virt (rw' [])
  exact⟨.tuple ⟨[sv H2.length 0, .int .i64 z]⟩,H2 ++ [rw' []], .nil2 _ _,WkH.rfl.app _,h _ _ (hv.pick [0] (by decide) rfl)⟩
end Go.Af.Tryz
namespace Go.Af.Tryz
open Go Go.Proofs
set_option maxRecDepth 100000
set_option maxHeartbeats 4000000
attribute [local irreducible] awp qC vK vS vH qJ isCells qy qp qW qN qw roundEnd

structure Gw (H:List Blk) (ws:List Bool) (b c:Nat):Prop where
 ne:b≠c
 s : ∃ w,bget H c=some (.cells w 1 (bls ws))
theorem Gw.up {H H' : List Blk} {ws:List Bool} {b c:Nat} (g:Gw H ws b c) (h:HS H none' [] H'):Gw H' ws b c:=⟨g.ne,g.s.imp fun _ hb=>zF h hb⟩
theorem xU {xs:List Bool} {i:Nat} {v:Bool} {K:Value->Prop} (hi:i<xs.length) (hv:xs[i]! = v) (h:K (.bool v)):Ld (bls xs) (0+i*1) K:=by
 refine⟨.bool v, ?_,h⟩
 rw[<- hv]
 simp[bls,hi]
theorem wrp_tmod {x s:Int} (hs:1<=s):(x.tmod s+s).tmod s=x % s:=by
 have h0:=Int.emod_nonneg x (b:=s) (by omega)
 have h1:=Int.emod_lt_of_pos x (b:=s) (by omega)
 have e := @Int.tmod_eq_emod x s
 have hn:(s.natAbs:Int)=s:=by omega
 have hp:0<=x.tmod s+s:=by
  split at e
  ·omega
  ·omega
 rw[Int.tmod_eq_emod_of_nonneg hp,Int.add_emod_right,e]
 split
 ·simp
 ·rw[hn,Int.sub_emod];simp
theorem tmod_rng {x s:Int} (hs:1<=s) : -s<x.tmod s/\x.tmod s<s/\(0<=x.tmod s->x.tmod s=x % s)/\(x.tmod s<0->x.tmod s+s=x % s):=by
 have h0:=Int.emod_nonneg x (b:=s) (by omega)
 have h1:=Int.emod_lt_of_pos x (b:=s) (by omega)
 have e := @Int.tmod_eq_emod x s
 have hn:(s.natAbs:Int)=s:=by omega
 split at e
 ·simp at e
  omega
 ·rw[hn] at e
  omega
theorem c325 {H:List Blk} {x s:Int} {R:Value->List Blk->Prop} (hs:1<=s/\s<=64) (h:R (.int .i64 (x % s)) H):qC Tryz.prog 325 [.int .i64 x, .int .i64 s] H R:=by
 have hw:=wrp_tmod (x:=x) hs.1
 have hr:=tmod_rng (x:=x) hs.1
 rw[<- hw] at h
 have hs0:s≠0:=by omega
 refine ql tok Tryz.call325 Tryz.func325 rfl Tryz.ntmps325 rfl (by simp) ?_
 have hs:=HS.start H none'
 repeat' (first|refine nX ?_|refine nY (fun K0 hK0=>?_)|refine bH ?_|refine bM ?_|refine iS hs ?_|refine rS hs ?_|refine eI _ (aI rfl ?_)|refine qg ?_|refine qf ?_|refine qc ?_|refine oJ ?_|refine nN hs (fun _ _ hs=>?_)|refine nS hs (fun _ _ hs=>?_)|refine sX hs (fun _ hs=>?_)|(refine hK0 _ _ ?_;clear hK0)|fail)
 exact h
theorem c312 {H:List Blk} {x s:Int} {R:Value->List Blk->Prop} (hs:1<=s/\s<=64) (h:R (.int .i64 (x % s)) H):qC Tryz.prog 312 [.int .i64 x, .int .i64 s] H R:=by
 have hr:=tmod_rng (x:=x) hs.1
 have hs0:s≠0:=by omega
 refine ql tok Tryz.call312 Tryz.func312 rfl Tryz.ntmps312 rfl (by simp) ?_
 have hs:=HS.start H none'
 repeat' (first|refine nX ?_|refine nY (fun K0 hK0=>?_)|refine bH ?_|refine bM ?_|refine iS hs ?_|refine rS hs ?_|refine eI _ (aI rfl ?_)|refine qg ?_|refine qf ?_|refine qc ?_|refine oJ ?_|refine nN hs (fun _ _ hs=>?_)|refine nS hs (fun _ _ hs=>?_)|refine sX hs (fun _ hs=>?_)|(refine dI (fun hc=>?_) (fun hc=>?_) <;> try (exfalso;omega))|(refine hK0 _ _ ?_;clear hK0)|fail)
 ·rw[<- hr.2.2.2 (by omega)] at h
  exact h
 ·rw[<- hr.2.2.1 (by omega)] at h
  exact h
def wrpF (w:Bool) (s x:Int):Int:=if w then x % s else x
def rnkF:List Int->List Bool->List Int->Int->Int
 | s::sz,w::ws,x::xs,n=>if wrpF w s x<0\/s<=wrpF w s x then -2 else rnkF sz ws xs (n*s+wrpF w s x)
 | _,_,_,n=>n
theorem rnk_step {sz:List Int} {ws:List Bool} {xs:List Int} {i:Nat} (h:i<sz.length) (hw:ws.length=sz.length) (hx:xs.length=sz.length) (n:Int) :
 rnkF (sz.drop i) (ws.drop i) (xs.drop i) n=if wrpF ws[i]! sz[i]! xs[i]! < 0\/sz[i]! <= wrpF ws[i]! sz[i]! xs[i]! then -2 else rnkF (sz.drop (i+1)) (ws.drop (i+1)) (xs.drop (i+1)) (n*sz[i]! + wrpF ws[i]! sz[i]! xs[i]!):=by
 rw[getElem!_pos sz i h,getElem!_pos ws i (by omega),getElem!_pos xs i (by omega),List.drop_eq_getElem_cons h,List.drop_eq_getElem_cons (show i<ws.length by omega),List.drop_eq_getElem_cons (show i<xs.length by omega)]
 rfl
theorem pw_le {i:Nat} (h:i<=4):(1:Int)<=64 ^ i/\(64:Int) ^ i<=16777216:=by
 rcases i with _ | _ | _ | _ | _ | i
 ·decide
 ·decide
 ·decide
 ·decide
 ·decide
 ·omega
theorem rnk_bound {n s y:Int} {i:Nat} (hn:0<=n/\n<64 ^ i) (hs:1<=s/\s<=64) (hy:0<=y/\y<s) (hi:i<=3):0<=n*s/\n*s+y<64 ^ (i+1)/\n*s+y<=16777216:=by
 have a:0<=n*s:=Int.mul_nonneg hn.1 (by omega)
 have b:n*s<=(64 ^ i-1)*s:=Int.mul_le_mul_of_nonneg_right (by omega) (by omega)
 have p:=pw_le (i:=i) (by omega)
 have c:(64 ^ i-1)*s<=(64 ^ i-1)*64:=Int.mul_le_mul_of_nonneg_left hs.2 (by omega)
 have q:=pw_le (i:=i+1) (by omega)
 have e:(64:Int) ^ (i+1)=64 ^ i*64:=Int.pow_succ _ _
 rw[e] at q ⊢
 generalize (64:Int) ^ i=z at *
 omega
theorem c326 {H:List Blk} {sz xs:List Int} {ws:List Bool} {b c k:Nat} {R:Value->List Blk->Prop} (g:Gr H sz b) (gw:Gw H ws b c) (hk : ∃ w,bget H k=some (.cells w 1 (ints xs))) (hbk:b≠k) (hck:c≠k) (hg:rngL sz=true) (hl:sz.length<=4) (hw:ws.length=sz.length) (hx:xs.length=sz.length) (hxr : ∀ x∈xs, -100000<=x/\x<=100000) (h : ∀ H',HS H none' [] H' -> R (.int .i64 (rnkF sz ws xs 0)) H'):qC Tryz.prog 326 [grV b sz.length c ws.length,sv k xs.length] H R:=by
 obtain ⟨wb,hb⟩:=g.s
 obtain ⟨wc,hc⟩:=gw.s
 obtain ⟨wk,hk⟩:=hk
 have hne:=gw.ne
 have ha:=rngL_all hg
 refine ql tok Tryz.call326 Tryz.func326 rfl Tryz.ntmps326 rfl (by simp) ?_
 have hs:=((HS.start H none').add (c:=false) hk (fun i p hi=>by simp at hi) (fun h=>by cases h))
 have hs:=hs.add (c:=false) hc (fun i p hi=>by rcases i with _ | i <;> simp at hi;subst hi;exact hck.symm) (fun h=>by cases h)
 have hs:=hs.add (c:=false) hb (fun i p hi=>by rcases i with _ | _ | i <;> simp at hi <;> subst hi <;> first | exact hne.symm | exact hbk.symm) (fun h=>by cases h)
 refine qm hs (fun H1 b1 e1 l1 hs=>?_)
 refine qo (fun _ hKs=>hKs _ _ ?_);clear hKs
 clear e1 l1
 repeat' (first|refine nX ?_|refine nY (fun K0 hK0=>?_)|refine bH ?_|refine bM ?_|refine iS hs ?_|refine rS hs ?_|refine eI _ (aI rfl ?_)|refine qg ?_|refine qf ?_|refine qc ?_|refine oJ ?_|refine nN hs (fun _ _ hs=>?_)|refine nS hs (fun _ _ hs=>?_)|refine sX hs (fun _ hs=>?_)|(refine hK0 _ _ ?_;clear hK0)|fail)
 refine zx (α := List Blk × Nat × Int) tok (fun z=>HS H none' [(true,b1, .cells true 1 (grC b sz.length c ws.length)),(false,b, .cells wb 1 (ints sz)),(false,c, .cells wc 1 (bls ws)),(false,k, .cells wk 1 (ints xs))] z.1/\z.2.1<=sz.length/\(0<=z.2.2/\z.2.2<64 ^ z.2.1)/\rnkF (sz.drop z.2.1) (ws.drop z.2.1) (xs.drop z.2.1) z.2.2=rnkF sz ws xs 0)
  (fun | ⟨_,i,n⟩=>[(2, .pointer (some ⟨b1,0,none⟩)),(5, .int .i64 n),(8,sv k xs.length),(9, .int .i64 xs.length),(10, .int .i64 i)]) (fun | ⟨H',_,_⟩=>H') (fun z=>sz.length-z.2.1)
  ⟨H1,0,0⟩ ⟨hs,Nat.zero_le _,⟨Int.le_refl 0,show (0:Int)<64 ^ 0 by decide⟩,rfl⟩ ⟨⟨_,rfl, .rfl⟩,⟨_,rfl, .rfl⟩,⟨_,rfl, .rfl⟩,⟨_,rfl, .rfl⟩,⟨_,rfl, .rfl⟩,trivial⟩ WkH.rfl ?_
 clear hs
 rintro ⟨H2,i,n⟩ ⟨hs,hi,hn,hr⟩
 dsimp only at hs hi hn hr ⊢
 repeat' (first|refine nX ?_|refine nY (fun K0 hK0=>?_)|refine bH ?_|refine bM ?_|refine iS hs ?_|refine rS hs ?_|refine eI _ (aI rfl ?_)|refine qg ?_|refine qf ?_|refine qc ?_|refine oJ ?_|refine nN hs (fun _ _ hs=>?_)|refine nS hs (fun _ _ hs=>?_)|refine sX hs (fun _ hs=>?_)|(refine hK0 _ _ ?_;clear hK0)|fail)
 refine And.intro (fun hc=>?_) (fun hc=>?_)
 ·have hlt:i<sz.length:=by simp at hc;omega
  clear hc
  have hst:=rnk_step hlt hw hx n
  have hsm:=ha _ (List.getElem_mem hlt)
  have hxm:=hxr _ (List.getElem_mem (show i<xs.length by omega))
  rw[<- getElem!_pos sz i hlt] at hsm
  rw[<- getElem!_pos xs i (by omega)] at hxm
  have hm0:=Int.emod_nonneg xs[i]! (b:=sz[i]!) (by omega)
  have hm1:=Int.emod_lt_of_pos xs[i]! (b:=sz[i]!) (by omega)
  have hbd:=fun y hy=>rnk_bound (y:=y) hn hsm hy (by omega)
  have hi2:i<xs.length:=by omega
  have hi3:i<ws.length:=by omega
  cases hwi:ws[i]!
  ·rw[hwi] at hst
   simp only[wrpF,Bool.false_eq_true,if_false] at hst
   by_cases hy:0<=xs[i]! /\ xs[i]! < sz[i]!
   ·have hb3:=hbd _ hy
    rw[if_neg (by omega)] at hst
    repeat' (first|refine nX ?_|refine nY (fun K0 hK0=>?_)|refine bH ?_|refine bM ?_|refine iS hs ?_|refine rS hs ?_|refine eI _ (aI rfl ?_)|refine qg ?_|refine qf ?_|refine qc ?_|refine oJ ?_|refine nN hs (fun _ _ hs=>?_)|refine nS hs (fun _ _ hs=>?_)|refine sX hs (fun _ hs=>?_)|(refine dI (fun hc=>?_) (fun hc=>?_) <;> try (exfalso;omega))|(refine hK0 _ _ ?_;clear hK0)|fail)
    iterate 5 (
     all_goals try (
      first
       | refine wo hlt ?_
       | refine wo hi2 ?_
       | refine xU hi3 hwi ?_
      repeat' (first|refine nX ?_|refine nY (fun K0 hK0=>?_)|refine bH ?_|refine bM ?_|refine iS hs ?_|refine rS hs ?_|refine eI _ (aI rfl ?_)|refine qg ?_|refine qf ?_|refine qc ?_|refine oJ ?_|refine nN hs (fun _ _ hs=>?_)|refine nS hs (fun _ _ hs=>?_)|refine sX hs (fun _ hs=>?_)|(refine dI (fun hc=>?_) (fun hc=>?_) <;> try (exfalso;omega))|(refine hK0 _ _ ?_;clear hK0)|fail)
      ))
    exact⟨⟨H2,i+1,n*sz[i]! + xs[i]!⟩,⟨hs,hlt,⟨by dsimp only;omega,hb3.2.1⟩,hst.symm.trans hr⟩,by dsimp only;omega,Or.inl ⟨⟨rfl,rfl,rfl,rfl,rfl,trivial⟩,rfl⟩⟩
   ·rw[if_pos (by omega)] at hst
    have e:rnkF sz ws xs 0 = -2:=by rw[<- hr,hst]
    rw[e] at h
    repeat' (first|refine nX ?_|refine nY (fun K0 hK0=>?_)|refine bH ?_|refine bM ?_|refine iS hs ?_|refine rS hs ?_|refine eI _ (aI rfl ?_)|refine qg ?_|refine qf ?_|refine qc ?_|refine oJ ?_|refine nN hs (fun _ _ hs=>?_)|refine nS hs (fun _ _ hs=>?_)|refine sX hs (fun _ hs=>?_)|(refine dI (fun hc=>?_) (fun hc=>?_) <;> try (exfalso;omega))|(refine hK0 _ _ ?_;clear hK0)|fail)
    iterate 5 (
     all_goals try (
      first
       | refine wo hlt ?_
       | refine wo hi2 ?_
       | refine xU hi3 hwi ?_
      repeat' (first|refine nX ?_|refine nY (fun K0 hK0=>?_)|refine bH ?_|refine bM ?_|refine iS hs ?_|refine rS hs ?_|refine eI _ (aI rfl ?_)|refine qg ?_|refine qf ?_|refine qc ?_|refine oJ ?_|refine nN hs (fun _ _ hs=>?_)|refine nS hs (fun _ _ hs=>?_)|refine sX hs (fun _ hs=>?_)|(refine dI (fun hc=>?_) (fun hc=>?_) <;> try (exfalso;omega))|(refine hK0 _ _ ?_;clear hK0)|fail)
      ))
    all_goals exact h H2 (qh hs)
  ·rw[hwi] at hst
   simp only[wrpF,if_true] at hst
   have hb3:=hbd _ ⟨hm0,hm1⟩
   rw[if_neg (by omega)] at hst
   repeat' (first|refine nX ?_|refine nY (fun K0 hK0=>?_)|refine bH ?_|refine bM ?_|refine iS hs ?_|refine rS hs ?_|refine eI _ (aI rfl ?_)|refine qg ?_|refine qf ?_|refine qc ?_|refine oJ ?_|refine nN hs (fun _ _ hs=>?_)|refine nS hs (fun _ _ hs=>?_)|refine sX hs (fun _ hs=>?_)|(refine dI (fun hc=>?_) (fun hc=>?_) <;> try (exfalso;omega))|(refine hK0 _ _ ?_;clear hK0)|fail)
   iterate 5 (
    all_goals try (
     first
      | refine wo hlt ?_
      | refine wo hi2 ?_
      | refine xU hi3 hwi ?_
     repeat' (first|refine nX ?_|refine nY (fun K0 hK0=>?_)|refine bH ?_|refine bM ?_|refine iS hs ?_|refine rS hs ?_|refine eI _ (aI rfl ?_)|refine qg ?_|refine qf ?_|refine qc ?_|refine oJ ?_|refine nN hs (fun _ _ hs=>?_)|refine nS hs (fun _ _ hs=>?_)|refine sX hs (fun _ hs=>?_)|(refine dI (fun hc=>?_) (fun hc=>?_) <;> try (exfalso;omega))|(refine hK0 _ _ ?_;clear hK0)|fail)
     ))
   refine c325 hsm ?_
   repeat' (first|refine nX ?_|refine nY (fun K0 hK0=>?_)|refine bH ?_|refine bM ?_|refine iS hs ?_|refine rS hs ?_|refine eI _ (aI rfl ?_)|refine qg ?_|refine qf ?_|refine qc ?_|refine oJ ?_|refine nN hs (fun _ _ hs=>?_)|refine nS hs (fun _ _ hs=>?_)|refine sX hs (fun _ hs=>?_)|(refine dI (fun hc=>?_) (fun hc=>?_) <;> try (exfalso;omega))|(refine hK0 _ _ ?_;clear hK0)|fail)
   iterate 5 (
    all_goals try (
     first
      | refine wo hlt ?_
      | refine wo hi2 ?_
      | refine xU hi3 hwi ?_
     repeat' (first|refine nX ?_|refine nY (fun K0 hK0=>?_)|refine bH ?_|refine bM ?_|refine iS hs ?_|refine rS hs ?_|refine eI _ (aI rfl ?_)|refine qg ?_|refine qf ?_|refine qc ?_|refine oJ ?_|refine nN hs (fun _ _ hs=>?_)|refine nS hs (fun _ _ hs=>?_)|refine sX hs (fun _ hs=>?_)|(refine dI (fun hc=>?_) (fun hc=>?_) <;> try (exfalso;omega))|(refine hK0 _ _ ?_;clear hK0)|fail)
     ))
   exact⟨⟨H2,i+1,n*sz[i]! + xs[i]! % sz[i]!⟩,⟨hs,hlt,⟨by dsimp only;omega,hb3.2.1⟩,hst.symm.trans hr⟩,by dsimp only;omega,Or.inl ⟨⟨rfl,rfl,rfl,rfl,rfl,trivial⟩,rfl⟩⟩
 ·have hie:i=sz.length:=by simp at hc;omega
  subst hie
  rw[List.drop_length] at hr
  simp only[rnkF] at hr
  subst hr
  repeat' (first|refine nX ?_|refine nY (fun K0 hK0=>?_)|refine bH ?_|refine bM ?_|refine iS hs ?_|refine rS hs ?_|refine eI _ (aI rfl ?_)|refine qg ?_|refine qf ?_|refine qc ?_|refine oJ ?_|refine nN hs (fun _ _ hs=>?_)|refine nS hs (fun _ _ hs=>?_)|refine sX hs (fun _ hs=>?_)|(refine hK0 _ _ ?_;clear hK0)|fail)
  exact h H2 (qh hs)
theorem c313 {H:List Blk} {sz xs:List Int} {ws:List Bool} {b c k:Nat} {R:Value->List Blk->Prop} (g:Gr H sz b) (gw:Gw H ws b c) (hk : ∃ w,bget H k=some (.cells w 1 (ints xs))) (hbk:b≠k) (hck:c≠k) (hg:rngL sz=true) (hl:sz.length<=4) (hw:ws.length=sz.length) (hx:xs.length=sz.length) (hxr : ∀ x∈xs, -100000<=x/\x<=100000) (h : ∀ H',HS H none' [] H' -> R (.int .i64 (rnkF sz ws xs 0)) H'):qC Tryz.prog 313 [grV b sz.length c ws.length,sv k xs.length] H R:=by
 obtain ⟨wb,hb⟩:=g.s
 obtain ⟨wc,hc⟩:=gw.s
 obtain ⟨wk,hk⟩:=hk
 have hne:=gw.ne
 have ha:=rngL_all hg
 refine ql tok Tryz.call313 Tryz.func313 rfl Tryz.ntmps313 rfl (by simp) ?_
 have hs:=((HS.start H none').add (c:=false) hk (fun i p hi=>by simp at hi) (fun h=>by cases h))
 have hs:=hs.add (c:=false) hc (fun i p hi=>by rcases i with _ | i <;> simp at hi;subst hi;exact hck.symm) (fun h=>by cases h)
 have hs:=hs.add (c:=false) hb (fun i p hi=>by rcases i with _ | _ | i <;> simp at hi <;> subst hi <;> first | exact hne.symm | exact hbk.symm) (fun h=>by cases h)
 refine qm hs (fun H1 b1 e1 l1 hs=>?_)
 refine qo (fun _ hKs=>hKs _ _ ?_);clear hKs
 clear e1 l1
 repeat' (first|refine nX ?_|refine nY (fun K0 hK0=>?_)|refine bH ?_|refine bM ?_|refine iS hs ?_|refine rS hs ?_|refine eI _ (aI rfl ?_)|refine qg ?_|refine qf ?_|refine qc ?_|refine oJ ?_|refine nN hs (fun _ _ hs=>?_)|refine nS hs (fun _ _ hs=>?_)|refine sX hs (fun _ hs=>?_)|(refine hK0 _ _ ?_;clear hK0)|fail)
 refine zx (α := List Blk × Nat × Int) tok (fun z=>HS H none' [(true,b1, .cells true 1 (grC b sz.length c ws.length)),(false,b, .cells wb 1 (ints sz)),(false,c, .cells wc 1 (bls ws)),(false,k, .cells wk 1 (ints xs))] z.1/\z.2.1<=sz.length/\(0<=z.2.2/\z.2.2<64 ^ z.2.1)/\rnkF (sz.drop z.2.1) (ws.drop z.2.1) (xs.drop z.2.1) z.2.2=rnkF sz ws xs 0)
  (fun | ⟨_,i,n⟩=>[(1,sv k xs.length),(2, .pointer (some ⟨b1,0,none⟩)),(5, .int .i64 n),(6, .int .i64 i)]) (fun | ⟨H',_,_⟩=>H') (fun z=>sz.length-z.2.1)
  ⟨H1,0,0⟩ ⟨hs,Nat.zero_le _,⟨Int.le_refl 0,show (0:Int)<64 ^ 0 by decide⟩,rfl⟩ ⟨⟨_,rfl, .rfl⟩,⟨_,rfl, .rfl⟩,⟨_,rfl, .rfl⟩,⟨_,rfl, .rfl⟩,trivial⟩ WkH.rfl ?_
 clear hs
 rintro ⟨H2,i,n⟩ ⟨hs,hi,hn,hr⟩
 dsimp only at hs hi hn hr ⊢
 repeat' (first|refine nX ?_|refine nY (fun K0 hK0=>?_)|refine bH ?_|refine bM ?_|refine iS hs ?_|refine rS hs ?_|refine eI _ (aI rfl ?_)|refine qg ?_|refine qf ?_|refine qc ?_|refine oJ ?_|refine nN hs (fun _ _ hs=>?_)|refine nS hs (fun _ _ hs=>?_)|refine sX hs (fun _ hs=>?_)|(refine hK0 _ _ ?_;clear hK0)|fail)
 refine And.intro (fun hc=>?_) (fun hc=>?_)
 ·have hlt:i<sz.length:=by simp at hc;omega
  clear hc
  have hst:=rnk_step hlt hw hx n
  have hsm:=ha _ (List.getElem_mem hlt)
  have hxm:=hxr _ (List.getElem_mem (show i<xs.length by omega))
  rw[<- getElem!_pos sz i hlt] at hsm
  rw[<- getElem!_pos xs i (by omega)] at hxm
  have hm0:=Int.emod_nonneg xs[i]! (b:=sz[i]!) (by omega)
  have hm1:=Int.emod_lt_of_pos xs[i]! (b:=sz[i]!) (by omega)
  have hbd:=fun y hy=>rnk_bound (y:=y) hn hsm hy (by omega)
  have hi2:i<xs.length:=by omega
  have hi3:i<ws.length:=by omega
  cases hwi:ws[i]!
  ·rw[hwi] at hst
   simp only[wrpF,Bool.false_eq_true,if_false] at hst
   by_cases hy:0<=xs[i]! /\ xs[i]! < sz[i]!
   ·have hb3:=hbd _ hy
    rw[if_neg (by omega)] at hst
    repeat' (first|refine nX ?_|refine nY (fun K0 hK0=>?_)|refine bH ?_|refine bM ?_|refine iS hs ?_|refine rS hs ?_|refine eI _ (aI rfl ?_)|refine qg ?_|refine qf ?_|refine qc ?_|refine oJ ?_|refine nN hs (fun _ _ hs=>?_)|refine nS hs (fun _ _ hs=>?_)|refine sX hs (fun _ hs=>?_)|(refine dI (fun hc=>?_) (fun hc=>?_) <;> try (exfalso;omega))|(refine hK0 _ _ ?_;clear hK0)|fail)
    iterate 5 (
     all_goals try (
      first
       | refine wo hlt ?_
       | refine wo hi2 ?_
       | refine xU hi3 hwi ?_
      repeat' (first|refine nX ?_|refine nY (fun K0 hK0=>?_)|refine bH ?_|refine bM ?_|refine iS hs ?_|refine rS hs ?_|refine eI _ (aI rfl ?_)|refine qg ?_|refine qf ?_|refine qc ?_|refine oJ ?_|refine nN hs (fun _ _ hs=>?_)|refine nS hs (fun _ _ hs=>?_)|refine sX hs (fun _ hs=>?_)|(refine dI (fun hc=>?_) (fun hc=>?_) <;> try (exfalso;omega))|(refine hK0 _ _ ?_;clear hK0)|fail)
      ))
    exact⟨⟨H2,i+1,n*sz[i]! + xs[i]!⟩,⟨hs,hlt,⟨by dsimp only;omega,hb3.2.1⟩,hst.symm.trans hr⟩,by dsimp only;omega,Or.inl ⟨⟨rfl,rfl,rfl,rfl,trivial⟩,rfl⟩⟩
   ·rw[if_pos (by omega)] at hst
    have e:rnkF sz ws xs 0 = -2:=by rw[<- hr,hst]
    rw[e] at h
    repeat' (first|refine nX ?_|refine nY (fun K0 hK0=>?_)|refine bH ?_|refine bM ?_|refine iS hs ?_|refine rS hs ?_|refine eI _ (aI rfl ?_)|refine qg ?_|refine qf ?_|refine qc ?_|refine oJ ?_|refine nN hs (fun _ _ hs=>?_)|refine nS hs (fun _ _ hs=>?_)|refine sX hs (fun _ hs=>?_)|(refine dI (fun hc=>?_) (fun hc=>?_) <;> try (exfalso;omega))|(refine hK0 _ _ ?_;clear hK0)|fail)
    iterate 5 (
     all_goals try (
      first
       | refine wo hlt ?_
       | refine wo hi2 ?_
       | refine xU hi3 hwi ?_
      repeat' (first|refine nX ?_|refine nY (fun K0 hK0=>?_)|refine bH ?_|refine bM ?_|refine iS hs ?_|refine rS hs ?_|refine eI _ (aI rfl ?_)|refine qg ?_|refine qf ?_|refine qc ?_|refine oJ ?_|refine nN hs (fun _ _ hs=>?_)|refine nS hs (fun _ _ hs=>?_)|refine sX hs (fun _ hs=>?_)|(refine dI (fun hc=>?_) (fun hc=>?_) <;> try (exfalso;omega))|(refine hK0 _ _ ?_;clear hK0)|fail)
      ))
    all_goals exact h H2 (qh hs)
  ·rw[hwi] at hst
   simp only[wrpF,if_true] at hst
   have hb3:=hbd _ ⟨hm0,hm1⟩
   rw[if_neg (by omega)] at hst
   repeat' (first|refine nX ?_|refine nY (fun K0 hK0=>?_)|refine bH ?_|refine bM ?_|refine iS hs ?_|refine rS hs ?_|refine eI _ (aI rfl ?_)|refine qg ?_|refine qf ?_|refine qc ?_|refine oJ ?_|refine nN hs (fun _ _ hs=>?_)|refine nS hs (fun _ _ hs=>?_)|refine sX hs (fun _ hs=>?_)|(refine dI (fun hc=>?_) (fun hc=>?_) <;> try (exfalso;omega))|(refine hK0 _ _ ?_;clear hK0)|fail)
   iterate 5 (
    all_goals try (
     first
      | refine wo hlt ?_
      | refine wo hi2 ?_
      | refine xU hi3 hwi ?_
     repeat' (first|refine nX ?_|refine nY (fun K0 hK0=>?_)|refine bH ?_|refine bM ?_|refine iS hs ?_|refine rS hs ?_|refine eI _ (aI rfl ?_)|refine qg ?_|refine qf ?_|refine qc ?_|refine oJ ?_|refine nN hs (fun _ _ hs=>?_)|refine nS hs (fun _ _ hs=>?_)|refine sX hs (fun _ hs=>?_)|(refine dI (fun hc=>?_) (fun hc=>?_) <;> try (exfalso;omega))|(refine hK0 _ _ ?_;clear hK0)|fail)
     ))
   refine c312 hsm ?_
   repeat' (first|refine nX ?_|refine nY (fun K0 hK0=>?_)|refine bH ?_|refine bM ?_|refine iS hs ?_|refine rS hs ?_|refine eI _ (aI rfl ?_)|refine qg ?_|refine qf ?_|refine qc ?_|refine oJ ?_|refine nN hs (fun _ _ hs=>?_)|refine nS hs (fun _ _ hs=>?_)|refine sX hs (fun _ hs=>?_)|(refine dI (fun hc=>?_) (fun hc=>?_) <;> try (exfalso;omega))|(refine hK0 _ _ ?_;clear hK0)|fail)
   iterate 5 (
    all_goals try (
     first
      | refine wo hlt ?_
      | refine wo hi2 ?_
      | refine xU hi3 hwi ?_
     repeat' (first|refine nX ?_|refine nY (fun K0 hK0=>?_)|refine bH ?_|refine bM ?_|refine iS hs ?_|refine rS hs ?_|refine eI _ (aI rfl ?_)|refine qg ?_|refine qf ?_|refine qc ?_|refine oJ ?_|refine nN hs (fun _ _ hs=>?_)|refine nS hs (fun _ _ hs=>?_)|refine sX hs (fun _ hs=>?_)|(refine dI (fun hc=>?_) (fun hc=>?_) <;> try (exfalso;omega))|(refine hK0 _ _ ?_;clear hK0)|fail)
     ))
   exact⟨⟨H2,i+1,n*sz[i]! + xs[i]! % sz[i]!⟩,⟨hs,hlt,⟨by dsimp only;omega,hb3.2.1⟩,hst.symm.trans hr⟩,by dsimp only;omega,Or.inl ⟨⟨rfl,rfl,rfl,rfl,trivial⟩,rfl⟩⟩
 ·have hie:i=sz.length:=by simp at hc;omega
  subst hie
  rw[List.drop_length] at hr
  simp only[rnkF] at hr
  subst hr
  repeat' (first|refine nX ?_|refine nY (fun K0 hK0=>?_)|refine bH ?_|refine bM ?_|refine iS hs ?_|refine rS hs ?_|refine eI _ (aI rfl ?_)|refine qg ?_|refine qf ?_|refine qc ?_|refine oJ ?_|refine nN hs (fun _ _ hs=>?_)|refine nS hs (fun _ _ hs=>?_)|refine sX hs (fun _ hs=>?_)|(refine hK0 _ _ ?_;clear hK0)|fail)
  exact h H2 (qh hs)
end Go.Af.Tryz
