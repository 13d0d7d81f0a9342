/-
  Rows of slots: span; the slots that have values at first.
  Grids: the rank of coordinates.
-/
import Derived.Test.YtgdbclgcbbbenaaGreatMGB
import Derived.Test.YtgdbclgcbbbenaaGreatMGA
set_option linter.all false
namespace Go.Af.Tryz.Co
open Go Go.Proofs
set_option maxRecDepth 100000
set_option maxHeartbeats 4000000
attribute [local irreducible] awp qi qw qH qy qx isCells qo qj qI qG ql roundEnd

def spnF (t:Tk) (f g:Int):List Int:=(List.range (g*t.pa-f*t.pa).toNat).map (fun i:Nat=>f*t.pa+(i:Int))
theorem spn_len (t:Tk) (f g:Int):(spnF t f g).length=(g*t.pa-f*t.pa).toNat:=by unfold spnF;simp
theorem spn_take (t:Tk) (f g:Int) {i:Nat} (h:i<(spnF t f g).length):(spnF t f g).take (i+1)=(spnF t f g).take i ++ [f*t.pa+(i:Int)]:=by
 rw[List.take_succ_eq_append_getElem h]
 have e:(spnF t f g)[i]=f*t.pa+(i:Int):=by
  unfold spnF at h ⊢
  rw[List.getElem_map,List.getElem_range]
 rw[e]
theorem c157 {H:List Blk} {t:Tk} {f g:Int} {b c:Nat} {R:Value->List Blk->Prop} (hf:0<=f) (hfg:f<=g) (hg:0<=g*t.pa/\g*t.pa<=100000) (hp:1<=t.pa) (h : ∀ H' k,HS H none' [(true,k,rw' (spnF t f g))] H' -> R (sv k (spnF t f g).length) H'):qi Tryz.prog 266 [tkV t b c, .int .i64 f, .int .i64 g] H R:=by
 have hfp:0<=f*t.pa/\f*t.pa<=g*t.pa:=⟨Int.mul_nonneg hf (by omega),Int.mul_le_mul_of_nonneg_right hfg (by omega)⟩
 have hlen:=spn_len t f g
 refine qh tok Tryz.call266 Tryz.func266 rfl Tryz.ntmps266 rfl (by simp) ?_
 refine vJ (HS.start H none') (fun H1 b1 e1 l1 hs=>?_)
 refine vw (fun _ hKs=>hKs _ _ ?_);clear hKs
 clear e1 l1
 generalize hn:spnF t f g=xs at h hlen
 have htk:=fun i=>@spn_take t f g i
 rw[hn] at htk
 repeat' (first|refine nX ?_|refine nY (fun K0 hK0=>?_)|refine bH ?_|refine bM ?_|refine iS hs ?_|refine rS hs ?_|refine eI _ (aI rfl ?_)|refine qg ?_|refine qf ?_|refine qc ?_|refine oJ ?_|refine nN hs (fun _ _ hs=>?_)|refine nS hs (fun _ _ hs=>?_)|refine sX hs (fun _ hs=>?_)|(refine hK0 _ _ ?_;clear hK0)|fail)
 refine vcg_loopV (α := List Blk × Nat × Nat) tok (fun z=>HS H none' [(true,z.2.1,rw' (xs.take z.2.2)),(true,b1, .cells true 1 (tkC t b c))] z.1/\z.2.2<=xs.length)
  (fun | ⟨_,k,i⟩=>[(2, .int .i64 g),(3, .pointer (some ⟨b1,0,none⟩)),(7,sv k i),(8, .int .i64 (f*t.pa+(i:Int)))]) (fun | ⟨H',_,_⟩=>H') (fun z=>xs.length-z.2.2)
  ⟨H1 ++ [rw' []],H1.length,0⟩ ⟨(hs.virt _).pick [0,1] (by decide) rfl,Nat.zero_le _⟩ ⟨⟨_,rfl, .rfl⟩,⟨_,rfl, .rfl⟩,⟨_,rfl, .nil _⟩,⟨_,rfl,by rw[show f*t.pa+((0:Nat):Int)=f*t.pa by omega];exact .rfl⟩,trivial⟩ (WkH.rfl.app _) ?_
 clear hs
 rintro ⟨H2,k,i⟩ ⟨hs,hi⟩
 dsimp only at hs hi ⊢
 refine And.intro (by decide) ?_
 refine qQ (hs.get 1 rfl) ?_
 refine qK (hs.get 1 rfl) ⟨_,rfl, ?_⟩
 refine Or.inl ⟨_,rfl,by unfold I64;omega, ?_⟩
 refine And.intro (fun hc=>?_) (fun hc=>?_)
 ·have hlt:i<xs.length:=by simp at hc;omega
  clear hc
  have et:=htk i hlt
  refine And.intro (by decide) ?_
  refine newS_hs hs (fun H3 j e3 l3 hs=>?_)
  refine And.intro rfl ?_
  refine app_hs hs 1 (us := [.int .i64 (f*t.pa+(i:Int))]) rfl (by decide) (hs.get 0 rfl) rfl rfl (by show (ints (xs.take i)).length=i*1;rw[ints_length,List.length_take];omega) (by show (i+1)*(8+1)<=_;omega) (fun H4 k' e4 l4 hs=>?_)
  refine Or.inl ⟨f*t.pa+((i+1:Nat):Int),by omega,by unfold I64;omega, ?_⟩
  refine⟨⟨H4,k',i+1⟩,⟨?_,hlt⟩,by dsimp only;omega,Or.inl ⟨⟨rfl,rfl,rfl,rfl,trivial⟩,rfl⟩⟩
  dsimp only
  rw[et]
  have:=hs.pick [1,2] (by decide) rfl (L' := [(true,k', .cells true 1 (ints (xs.take i) ++ [.int .i64 (f*t.pa+(i:Int))])),(true,b1, .cells true 1 (tkC t b c))])
  rw[show ints (xs.take i) ++ [.int .i64 (f*t.pa+(i:Int))]=ints (xs.take i ++ [f*t.pa+(i:Int)]) from (by rw[ints_append];rfl)] at this
  exact this
 ·have hie:i=xs.length:=by simp at hc;omega
  subst hie
  rw[List.take_length] at hs
  exact h H2 k (hs.pick [0] (by decide) rfl)
theorem mul_pa {t:Tk} (k:TkOk t) {g:Int} (h1:0<=g) (h2:g<=128):0<=g*t.pa/\g*t.pa<=100000:=by
 have hp:=k.pa
 have q:g*t.pa<=128*16:=Int.mul_le_mul h2 hp.2 (by omega) (by omega)
 exact⟨Int.mul_nonneg h1 (by omega),by omega⟩
def fstF (t:Tk) (r:Int):List Int :=
 if (t.op=1\/t.op=6)/\r≠t.ro then []
 else if t.op=5\/t.op=7 then spnF t r (r+1)
 else if t.op=8 then spnF t 0 t.pr
 else if t.op=11 then spnF t 0 1
 else spnF t 0 (blkF t)
theorem c92 {H:List Blk} {t:Tk} {r:Int} {b c:Nat} {R:Value->List Blk->Prop} (kt:TkOk t) (hr:0<=r/\r<t.pr) (h : ∀ H' k,HS H none' [(true,k,rw' (fstF t r))] H' -> R (sv k (fstF t r).length) H'):qi Tryz.prog 304 [tkV t b c, .int .i64 r] H R:=by
 have hb:=xQ kt
 have hpr:=kt.pr
 have hpa:=kt.pa
 have hop:=kt.op
 have hdm:=kt.dims
 refine acall_weak ?_
 refine qh tok Tryz.call304 Tryz.func304 rfl Tryz.ntmps304 rfl (by simp) ?_
 refine vJ (HS.start H none') (fun H1 b1 e1 l1 hs=>?_)
 refine vw (fun _ hKs=>hKs _ _ ?_);clear hKs
 clear e1 l1
 unfold fstF at h
 repeat' (first|refine nX ?_|refine nY (fun K0 hK0=>?_)|refine bH ?_|refine bM ?_|refine iS hs ?_|refine rS hs ?_|refine eI _ (aI rfl ?_)|refine qg ?_|refine qf ?_|refine qc ?_|refine oJ ?_|refine nN hs (fun _ _ hs=>?_)|refine nS hs (fun _ _ hs=>?_)|refine sX hs (fun _ hs=>?_)|(refine dI (fun hc=>?_) (fun hc=>?_) <;> try (exfalso;omega))|(refine hK0 _ _ ?_;clear hK0)|fail)
 all_goals try (
  refine c157 (by omega) (by omega) (mul_pa kt (by omega) (by omega)) (by omega) (fun H2 j hn=>?_)
  have hs:=hs.call hn rfl
  clear hn
  (repeat (first | rw[if_pos (by omega)] at h | rw[if_neg (by omega)] at h))
  repeat' (first|refine nX ?_|refine nY (fun K0 hK0=>?_)|refine bH ?_|refine bM ?_|refine iS hs ?_|refine rS hs ?_|refine eI _ (aI rfl ?_)|refine qg ?_|refine qf ?_|refine qc ?_|refine oJ ?_|refine nN hs (fun _ _ hs=>?_)|refine nS hs (fun _ _ hs=>?_)|refine sX hs (fun _ hs=>?_)|(refine hK0 _ _ ?_;clear hK0)|fail)
  exact⟨_,_, .rfl, .rfl,h _ j (hs.pick [0] (by decide) rfl)⟩)
 all_goals try (
  rw[if_pos (by omega)] at h
  have hv:=hs.virt (rw' [])
  exact⟨sv H1.length 0,H1 ++ [rw' []], .inl (.nil _),WkH.rfl.app _,h _ _ (hv.pick [0] (by decide) rfl)⟩)
 all_goals (
  (repeat (first | rw[if_pos (by omega)] at h | rw[if_neg (by omega)] at h))
  refine vC tok mx [0,0,2,7,15] [true,false,false,false,false] (.first 1 (.alt 0 (.first 2 (.first 3 (.first 4 .done))) (.alt 2 (.first 0 (.first 3 (.first 4 .done))) .no))) (by kernel_rfl) ?_
  refine vG (fun K0 hK0=>?_)
  repeat' (first|refine nX ?_|refine nY (fun K0 hK0=>?_)|refine bH ?_|refine bM ?_|refine iS hs ?_|refine rS hs ?_|refine eI _ (aI rfl ?_)|refine qg ?_|refine qf ?_|refine qc ?_|refine oJ ?_|refine nN hs (fun _ _ hs=>?_)|refine nS hs (fun _ _ hs=>?_)|refine sX hs (fun _ hs=>?_)|(refine hK0 _ _ ?_;clear hK0)|fail)
  refine And.intro ?_ (And.intro ?_ trivial)
  all_goals (
   repeat' (first|refine nX ?_|refine nY (fun K0 hK0=>?_)|refine bH ?_|refine bM ?_|refine iS hs ?_|refine rS hs ?_|refine eI _ (aI rfl ?_)|refine qg ?_|refine qf ?_|refine qc ?_|refine oJ ?_|refine nN hs (fun _ _ hs=>?_)|refine nS hs (fun _ _ hs=>?_)|refine sX hs (fun _ hs=>?_)|(refine hK0 _ _ ?_;clear hK0)|fail)
   refine c87 (by omega) hpr (fun H3 hn=>?_)
   have hs:=vT hs hn
   clear hn
   repeat' (first|refine nX ?_|refine nY (fun K0 hK0=>?_)|refine bH ?_|refine bM ?_|refine iS hs ?_|refine rS hs ?_|refine eI _ (aI rfl ?_)|refine qg ?_|refine qf ?_|refine qc ?_|refine oJ ?_|refine nN hs (fun _ _ hs=>?_)|refine nS hs (fun _ _ hs=>?_)|refine sX hs (fun _ hs=>?_)|(refine hK0 _ _ ?_;clear hK0)|fail)
   refine c157 (by omega) (by omega) (mul_pa kt (by omega) (by omega)) (by omega) (fun H2 j hn=>?_)
   have hs:=hs.call hn rfl
   clear hn
   repeat' (first|refine nX ?_|refine nY (fun K0 hK0=>?_)|refine bH ?_|refine bM ?_|refine iS hs ?_|refine rS hs ?_|refine eI _ (aI rfl ?_)|refine qg ?_|refine qf ?_|refine qc ?_|refine oJ ?_|refine nN hs (fun _ _ hs=>?_)|refine nS hs (fun _ _ hs=>?_)|refine sX hs (fun _ hs=>?_)|(refine hK0 _ _ ?_;clear hK0)|fail)
   exact⟨_,_, .rfl, .rfl,h _ j (hs.pick [0] (by decide) rfl)⟩))
end Go.Af.Tryz.Co
namespace Go.Af.Tryz.Co
open Go Go.Proofs
set_option maxRecDepth 100000
set_option maxHeartbeats 4000000
attribute [local irreducible] awp qi qw qH qy qx isCells qo qj qI qG ql roundEnd

end Go.Af.Tryz.Co
