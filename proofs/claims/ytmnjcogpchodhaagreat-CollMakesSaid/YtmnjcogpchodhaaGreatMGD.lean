/- A part of the proof. -/
import Derived.Test.YtmnjcogpchodhaaGreatMGB
import Derived.Test.YtmnjcogpchodhaaGreatMCA
import Derived.Test.YtmnjcogpchodhaaGreatMGA
set_option linter.all false
set_option maxHeartbeats 4000000
set_option maxRecDepth 100000
namespace Go.Af.Tryz
open Go Go.Proofs Tryz
attribute [local irreducible] awp qj qI qK qE qm isCells ql qi qB qx qh roundEnd

def spnF (t:Tk) (f g:Int):List Int:=(List.range (g*t.pa-f*t.pa).toNat).map (fun i:Nat=>f*t.pa+(i:Int))
theorem yR (t:Tk) (f g:Int):(spnF t f g).length=(g*t.pa-f*t.pa).toNat:=by unfold spnF;simp
theorem UQ (t:Tk) (f g:Int) {i:Nat} (h:i<(spnF t f g).length):(spnF t f g).take (i+1)=(spnF t f g).take i ++ [f*t.pa+(i:Int)]:=by
 rw[List.take_succ_eq_append_getElem h]
 have e:(spnF t f g)[i]=f*t.pa+(i:Int):=by
  unfold spnF at h ⊢;rw[List.getElem_map,List.getElem_range]
 rw[e]
theorem c157 {H:List Blk} {t:Tk} {f g:Int} {b c:Nat} {R:Value->List Blk->Prop} (hf:0<=f) (hfg:f<=g) (hg:0<=g*t.pa/\g*t.pa<=100000) (hp:1<=t.pa) (h : ∀ H' k,HS H none' [(true,k,rw' (spnF t f g))] H' -> R (sv k (spnF t f g).length) H'):qj prog 157 [tkV t b c, .int .i64 f, .int .i64 g] H R:=by
 have hfp:0<=f*t.pa/\f*t.pa<=g*t.pa:=⟨Int.mul_nonneg hf (by omega),Int.mul_le_mul_of_nonneg_right hfg (by omega)⟩;have hlen:=yR t f g;refine avN call157 func157 ntmps157 ?_;refine qo (HS.start H none') (fun H1 b1 e1 l1 hs=>?_);refine qg (fun _ hKs=>hKs _ _ ?_);clear hKs;clear e1 l1;generalize hn:spnF t f g=xs at h hlen;have htk:=fun i=>@UQ t f g i
 rw[hn] at htk
 repeat' first|refine zRw ?_|intro _ _ hs|intro K0 hK0|(refine hK0 _ _ ?_;clear hK0)
 refine vC (α := List Blk × Nat × Nat) tok (fun z=>HS H none' [(true,z.2.1,rw' (xs.take z.2.2)),(true,b1, .cells true 1 (tkC t b c))] z.1/\z.2.2<=xs.length)
  (fun | ⟨_,k,i⟩=>[(2, .int .i64 g),(3, .pointer (some ⟨b1,0,none⟩)),(7,sv k i),(8, .int .i64 (f*t.pa+(i:Int)))]) (fun | ⟨H',_,_⟩=>H') (fun z=>xs.length-z.2.2)
  ⟨H1 ++ [rw' []],H1.length,0⟩ ⟨pkH (hs.virt _) [0,1],Nat.zero_le _⟩ ⟨⟨_,rfl, .rfl⟩,⟨_,rfl, .rfl⟩,⟨_,rfl, .nil _⟩,⟨_,rfl,by rw[show f*t.pa+((0:Nat):Int)=f*t.pa by omega];exact .rfl⟩,trivial⟩ (WkH.rfl.app _) ?_
 clear hs;rintro ⟨H2,k,i⟩ ⟨hs,hi⟩;dsimp only at hs hi ⊢;refine And.intro (by decide) ?_;refine qO (hs.get 1 rfl) ?_;refine qF (hs.get 1 rfl) ⟨_,rfl, ?_⟩;refine Or.inl ⟨_,rfl,by unfold I64;omega, ?_⟩;refine And.intro (fun hc=>?_) (fun hc=>?_)
 ·have hlt:i<xs.length:=by simp at hc;omega
  clear hc;have et:=htk i hlt;refine And.intro (by decide) ?_;refine QD hs (fun H3 j e3 l3 hs=>?_);refine And.intro rfl ?_;refine vZ hs 1 (us := [.int .i64 (f*t.pa+(i:Int))]) rfl (by decide) (hs.get 0 rfl) rfl rfl (by show (ints (xs.take i)).length=i*1;rw[qU,List.length_take];omega) (by show (i+1)*(8+1)<=_;omega) (fun H4 k' e4 l4 hs=>?_);refine Or.inl ⟨f*t.pa+((i+1:Nat):Int),by omega,by unfold I64;omega, ?_⟩;refine⟨⟨H4,k',i+1⟩,⟨?_,hlt⟩,by dsimp only;omega,Or.inl ⟨⟨rfl,rfl,rfl,rfl,trivial⟩,rfl⟩⟩;dsimp only;rw[et];have:=pkH hs [1,2] (L' := [(true,k', .cells true 1 (ints (xs.take i) ++ [.int .i64 (f*t.pa+(i:Int))])),(true,b1, .cells true 1 (tkC t b c))]);rw[show ints (xs.take i) ++ [.int .i64 (f*t.pa+(i:Int))]=ints (xs.take i ++ [f*t.pa+(i:Int)]) from (by rw[zi];rfl)] at this;exact this
 ·have hie:i=xs.length:=by simp at hc;omega
  subst hie;rw[List.take_length] at hs;exact h H2 k (pkH hs [0])
theorem c94 {H:List Blk} {t:Tk} {f g:Int} {b c:Nat} {R:Value->List Blk->Prop} (hf:0<=f) (hfg:f<=g) (hg:0<=g*t.pa/\g*t.pa<=100000) (hp:1<=t.pa) (h : ∀ H' k,HS H none' [(true,k,rw' (spnF t f g))] H' -> R (sv k (spnF t f g).length) H'):qj prog 94 [tkV t b c, .int .i64 f, .int .i64 g] H R:=by
 have hfp:0<=f*t.pa/\f*t.pa<=g*t.pa:=⟨Int.mul_nonneg hf (by omega),Int.mul_le_mul_of_nonneg_right hfg (by omega)⟩;have hlen:=yR t f g;refine avN call94 func94 ntmps94 ?_;refine qo (HS.start H none') (fun H1 b1 e1 l1 hs=>?_);refine qg (fun _ hKs=>hKs _ _ ?_);clear hKs;clear e1 l1;generalize hn:spnF t f g=xs at h hlen;have htk:=fun i=>@UQ t f g i
 rw[hn] at htk
 repeat' first|refine zRw ?_|intro _ _ hs|intro K0 hK0|(refine hK0 _ _ ?_;clear hK0)
 refine vC (α := List Blk × Nat × Nat) tok (fun z=>HS H none' [(true,z.2.1,rw' (xs.take z.2.2)),(true,b1, .cells true 1 (tkC t b c))] z.1/\z.2.2<=xs.length)
  (fun | ⟨_,k,i⟩=>[(2, .int .i64 g),(3, .pointer (some ⟨b1,0,none⟩)),(7,sv k i),(8, .int .i64 (f*t.pa+(i:Int)))]) (fun | ⟨H',_,_⟩=>H') (fun z=>xs.length-z.2.2)
  ⟨H1 ++ [rw' []],H1.length,0⟩ ⟨pkH (hs.virt _) [0,1],Nat.zero_le _⟩ ⟨⟨_,rfl, .rfl⟩,⟨_,rfl, .rfl⟩,⟨_,rfl, .nil _⟩,⟨_,rfl,by rw[show f*t.pa+((0:Nat):Int)=f*t.pa by omega];exact .rfl⟩,trivial⟩ (WkH.rfl.app _) ?_
 clear hs;rintro ⟨H2,k,i⟩ ⟨hs,hi⟩;dsimp only at hs hi ⊢;refine And.intro (by decide) ?_;refine qO (hs.get 1 rfl) ?_;refine qF (hs.get 1 rfl) ⟨_,rfl, ?_⟩;refine Or.inl ⟨_,rfl,by unfold I64;omega, ?_⟩;refine And.intro (fun hc=>?_) (fun hc=>?_)
 ·have hlt:i<xs.length:=by simp at hc;omega
  clear hc;have et:=htk i hlt;refine And.intro (by decide) ?_;refine QD hs (fun H3 j e3 l3 hs=>?_);refine And.intro rfl ?_;refine vZ hs 1 (us := [.int .i64 (f*t.pa+(i:Int))]) rfl (by decide) (hs.get 0 rfl) rfl rfl (by show (ints (xs.take i)).length=i*1;rw[qU,List.length_take];omega) (by show (i+1)*(8+1)<=_;omega) (fun H4 k' e4 l4 hs=>?_);refine Or.inl ⟨f*t.pa+((i+1:Nat):Int),by omega,by unfold I64;omega, ?_⟩;refine⟨⟨H4,k',i+1⟩,⟨?_,hlt⟩,by dsimp only;omega,Or.inl ⟨⟨rfl,rfl,rfl,rfl,trivial⟩,rfl⟩⟩;dsimp only;rw[et];have:=pkH hs [1,2] (L' := [(true,k', .cells true 1 (ints (xs.take i) ++ [.int .i64 (f*t.pa+(i:Int))])),(true,b1, .cells true 1 (tkC t b c))]);rw[show ints (xs.take i) ++ [.int .i64 (f*t.pa+(i:Int))]=ints (xs.take i ++ [f*t.pa+(i:Int)]) from (by rw[zi];rfl)] at this;exact this
 ·have hie:i=xs.length:=by simp at hc;omega
  subst hie;rw[List.take_length] at hs;exact h H2 k (pkH hs [0])
theorem yy0 {t:Tk} (k:TkOk t) {g:Int} (h1:0<=g) (h2:g<=128):0<=g*t.pa/\g*t.pa<=100000:=by
 have hp:=k.pa;have q:g*t.pa<=128*16:=Int.mul_le_mul h2 hp.2 (by omega) (by omega);exact⟨Int.mul_nonneg h1 (by omega),by omega⟩
end Go.Af.Tryz
namespace Go.Af.Tryz
open Go Go.Proofs Tryz
attribute [local irreducible] awp qj qI qK qE qm isCells ql qi qB qx qh roundEnd
variable {H:List Blk}
variable {R:Value->List Blk->Prop}

structure Gw (H:List Blk) (ws:List Bool) (b c:Nat):Prop where
 ne:b≠c
 s : ∃ w,bget H c=some (.cells w 1 (bls ws))
theorem Gw.up {H H' : List Blk} {ws:List Bool} {b c:Nat} (g:Gw H ws b c) (h:HS H none' [] H'):Gw H' ws b c:=⟨g.ne,g.s.imp fun _ hb=>vz h hb⟩
theorem yh {xs:List Bool} {i:Nat} {v:Bool} {K:Value->Prop} (hi:i<xs.length) (hv:xs[i]! = v) (h:K (.bool v)):Ld (bls xs) (0+i*1) K:=by
 refine⟨.bool v, ?_,h⟩;rw[<- hv];simp[bls,hi]
theorem UH {x s:Int} (hs:1<=s):(x.tmod s+s).tmod s=x % s:=by
 have h0:=Int.emod_nonneg x (b:=s) (by omega);have h1:=Int.emod_lt_of_pos x (b:=s) (by omega);have e := @Int.tmod_eq_emod x s;have hn:(s.natAbs:Int)=s:=by omega
 have hp:0<=x.tmod s+s:=by
  split at e
  ·omega
  ·omega
 rw[Int.tmod_eq_emod_of_nonneg hp,Int.add_emod_right,e];split
 ·simp
 ·rw[hn,Int.sub_emod];simp
theorem QQ {x s:Int} (hs:1<=s) : -s<x.tmod s/\x.tmod s<s/\(0<=x.tmod s->x.tmod s=x % s)/\(x.tmod s<0->x.tmod s+s=x % s):=by
 have h0:=Int.emod_nonneg x (b:=s) (by omega);have h1:=Int.emod_lt_of_pos x (b:=s) (by omega);have e := @Int.tmod_eq_emod x s;have hn:(s.natAbs:Int)=s:=by omega
 split at e
 ·simp at e
  omega
 ·rw[hn] at e
  omega
theorem c325 {x s:Int} (hs:1<=s/\s<=64) (h:R (.int .i64 (x % s)) H):qj prog 325 [.int .i64 x, .int .i64 s] H R:=by
 have hw:=UH (x:=x) hs.1;have hr:=QQ (x:=x) hs.1;rw[<- hw] at h;have hs0:s≠0:=by omega
 refine avN call325 func325 ntmps325 ?_;have hs:=HS.start H none'
 repeat' first|refine zPw ?_|intro _ _ hs|intro K0 hK0
 exact h
theorem c312 {x s:Int} (hs:1<=s/\s<=64) (h:R (.int .i64 (x % s)) H):qj prog 312 [.int .i64 x, .int .i64 s] H R:=by
 have hr:=QQ (x:=x) hs.1;have hs0:s≠0:=by omega
 refine avN call312 func312 ntmps312 ?_;have hs:=HS.start H none'
 repeat' first|refine zQw ?_|intro _ _ hs|intro K0 hK0|intro hc|refine dI ?_ ?_
 ·rw[<- hr.2.2.2 (by omega)] at h
  exact h
 ·rw[<- hr.2.2.1 (by omega)] at h
  exact h
def wrpF (w:Bool) (s x:Int):Int:=if w then x % s else x
def rnkF:List Int->List Bool->List Int->Int->Int
 | s::sz,w::ws,x::xs,n=>if wrpF w s x<0\/s<=wrpF w s x then -2 else rnkF sz ws xs (n*s+wrpF w s x)
 | _,_,_,n=>n
theorem UV {sz:List Int} {ws:List Bool} {xs:List Int} {i:Nat} (h:i<sz.length) (hw:ws.length=sz.length) (hx:xs.length=sz.length) (n:Int) :
 rnkF (sz.drop i) (ws.drop i) (xs.drop i) n=if wrpF ws[i]! sz[i]! xs[i]! < 0\/sz[i]! <= wrpF ws[i]! sz[i]! xs[i]! then -2 else rnkF (sz.drop (i+1)) (ws.drop (i+1)) (xs.drop (i+1)) (n*sz[i]! + wrpF ws[i]! sz[i]! xs[i]!):=by
 rw[getElem!_pos sz i h,getElem!_pos ws i (by omega),getElem!_pos xs i (by omega),List.drop_eq_getElem_cons h,List.drop_eq_getElem_cons (show i<ws.length by omega),List.drop_eq_getElem_cons (show i<xs.length by omega)];rfl
theorem pw_le {i:Nat} (h:i<=4):(1:Int)<=64 ^ i/\(64:Int) ^ i<=16777216:=by
 rcases i with _ | _ | _ | _ | _ | i
 ·decide
 ·decide
 ·decide
 ·decide
 ·decide
 ·omega
theorem Ye {n s y:Int} {i:Nat} (hn:0<=n/\n<64 ^ i) (hs:1<=s/\s<=64) (hy:0<=y/\y<s) (hi:i<=3):0<=n*s/\n*s+y<64 ^ (i+1)/\n*s+y<=16777216:=by
 have a:0<=n*s:=Int.mul_nonneg hn.1 (by omega);have b:n*s<=(64 ^ i-1)*s:=Int.mul_le_mul_of_nonneg_right (by omega) (by omega);have p:=pw_le (i:=i) (by omega);have c:(64 ^ i-1)*s<=(64 ^ i-1)*64:=Int.mul_le_mul_of_nonneg_left hs.2 (by omega);have q:=pw_le (i:=i+1) (by omega);have e:(64:Int) ^ (i+1)=64 ^ i*64:=Int.pow_succ _ _;rw[e] at q ⊢;generalize (64:Int) ^ i=z at *;omega
theorem c326 {sz xs:List Int} {ws:List Bool} {b c k:Nat} (g:Gr H sz b) (gw:Gw H ws b c) (hk : ∃ w,bget H k=some (.cells w 1 (ints xs))) (hbk:b≠k) (hck:c≠k) (hg:rngL sz=true) (hl:sz.length<=4) (hw:ws.length=sz.length) (hx:xs.length=sz.length) (hxr : ∀ x∈xs, -100000<=x/\x<=100000) (h : ∀ H',HS H none' [] H' -> R (.int .i64 (rnkF sz ws xs 0)) H'):qj prog 326 [grV b sz.length c ws.length,sv k xs.length] H R:=by
 obtain ⟨wb,hb⟩:=g.s;obtain ⟨wc,hc⟩:=gw.s;obtain ⟨wk,hk⟩:=hk;have hne:=gw.ne;have ha:=yu hg;refine avN call326 func326 ntmps326 ?_;have hs:=(adH (HS.start H none') hk);have hs:=hs.add (c:=false) hc (fun i p hi=>by rcases i with _ | i <;> simp at hi;subst hi;exact hck.symm) (fun h=>by cases h);have hs:=hs.add (c:=false) hb (fun i p hi=>by rcases i with _ | _ | i <;> simp at hi <;> subst hi <;> first | exact hne.symm | exact hbk.symm) (fun h=>by cases h);refine qo hs (fun H1 b1 e1 l1 hs=>?_);refine qg (fun _ hKs=>hKs _ _ ?_);clear hKs;clear e1 l1
 repeat' first|refine zPw ?_|intro _ _ hs|intro K0 hK0
 refine vC (α := List Blk × Nat × Int) tok (fun z=>HS H none' [(true,b1, .cells true 1 (grC b sz.length c ws.length)),(false,b, .cells wb 1 (ints sz)),(false,c, .cells wc 1 (bls ws)),(false,k, .cells wk 1 (ints xs))] z.1/\z.2.1<=sz.length/\(0<=z.2.2/\z.2.2<64 ^ z.2.1)/\rnkF (sz.drop z.2.1) (ws.drop z.2.1) (xs.drop z.2.1) z.2.2=rnkF sz ws xs 0)
  (fun | ⟨_,i,n⟩=>[(2, .pointer (some ⟨b1,0,none⟩)),(5, .int .i64 n),(8,sv k xs.length),(9, .int .i64 xs.length),(10, .int .i64 i)]) (fun | ⟨H',_,_⟩=>H') (fun z=>sz.length-z.2.1)
  ⟨H1,0,0⟩ ⟨hs,Nat.zero_le _,⟨Int.le_refl 0,show (0:Int)<64 ^ 0 by decide⟩,rfl⟩ ⟨⟨_,rfl, .rfl⟩,⟨_,rfl, .rfl⟩,⟨_,rfl, .rfl⟩,⟨_,rfl, .rfl⟩,⟨_,rfl, .rfl⟩,trivial⟩ WkH.rfl ?_
 clear hs;rintro ⟨H2,i,n⟩ ⟨hs,hi,hn,hr⟩;dsimp only at hs hi hn hr ⊢
 repeat' first|refine zPw ?_|intro _ _ hs|intro K0 hK0
 refine And.intro (fun hc=>?_) (fun hc=>?_)
 ·have hlt:i<sz.length:=by simp at hc;omega
  clear hc;have hst:=UV hlt hw hx n;have hsm:=ha _ (List.getElem_mem hlt);have hxm:=hxr _ (List.getElem_mem (show i<xs.length by omega));rw[<- getElem!_pos sz i hlt] at hsm;rw[<- getElem!_pos xs i (by omega)] at hxm;have hm0:=Int.emod_nonneg xs[i]! (b:=sz[i]!) (by omega);have hm1:=Int.emod_lt_of_pos xs[i]! (b:=sz[i]!) (by omega);have hbd:=fun y hy=>Ye (y:=y) hn hsm hy (by omega)
  have hi2:i<xs.length:=by omega
  have hi3:i<ws.length:=by omega
  cases hwi:ws[i]!
  ·rw[hwi] at hst
   simp only[wrpF,Bool.false_eq_true,if_false] at hst;by_cases hy:0<=xs[i]! /\ xs[i]! < sz[i]!
   ·have hb3:=hbd _ hy
    rw[if_neg (by omega)] at hst
    repeat' first|refine zQw ?_|intro _ _ hs|intro K0 hK0|intro hc|refine dI ?_ ?_
    iterate 5 (
     all_goals try (
      first
       | refine vM hlt ?_
       | refine vM hi2 ?_
       | refine yh hi3 hwi ?_
      repeat' first|refine zQw ?_|intro _ _ hs|intro K0 hK0|intro hc|refine dI ?_ ?_
      ))
    exact⟨⟨H2,i+1,n*sz[i]! + xs[i]!⟩,⟨hs,hlt,⟨by dsimp only;omega,hb3.2.1⟩,hst.symm.trans hr⟩,by dsimp only;omega,Or.inl ⟨⟨rfl,rfl,rfl,rfl,rfl,trivial⟩,rfl⟩⟩
   ·rw[if_pos (by omega)] at hst
    have e:rnkF sz ws xs 0 = -2:=by rw[<- hr,hst]
    rw[e] at h
    repeat' first|refine zQw ?_|intro _ _ hs|intro K0 hK0|intro hc|refine dI ?_ ?_
    iterate 5 (
     all_goals try (
      first
       | refine vM hlt ?_
       | refine vM hi2 ?_
       | refine yh hi3 hwi ?_
      repeat' first|refine zQw ?_|intro _ _ hs|intro K0 hK0|intro hc|refine dI ?_ ?_
      ))
    all_goals exact h H2 (qc hs)
  ·rw[hwi] at hst
   simp only[wrpF,if_true] at hst;have hb3:=hbd _ ⟨hm0,hm1⟩;rw[if_neg (by omega)] at hst
   repeat' first|refine zQw ?_|intro _ _ hs|intro K0 hK0|intro hc|refine dI ?_ ?_
   iterate 5 (
    all_goals try (
     first
      | refine vM hlt ?_
      | refine vM hi2 ?_
      | refine yh hi3 hwi ?_
     repeat' first|refine zQw ?_|intro _ _ hs|intro K0 hK0|intro hc|refine dI ?_ ?_
     ))
   refine c325 hsm ?_
   repeat' first|refine zQw ?_|intro _ _ hs|intro K0 hK0|intro hc|refine dI ?_ ?_
   iterate 5 (
    all_goals try (
     first
      | refine vM hlt ?_
      | refine vM hi2 ?_
      | refine yh hi3 hwi ?_
     repeat' first|refine zQw ?_|intro _ _ hs|intro K0 hK0|intro hc|refine dI ?_ ?_
     ))
   exact⟨⟨H2,i+1,n*sz[i]! + xs[i]! % sz[i]!⟩,⟨hs,hlt,⟨by dsimp only;omega,hb3.2.1⟩,hst.symm.trans hr⟩,by dsimp only;omega,Or.inl ⟨⟨rfl,rfl,rfl,rfl,rfl,trivial⟩,rfl⟩⟩
 ·have hie:i=sz.length:=by simp at hc;omega
  subst hie;rw[List.drop_length] at hr;simp only[rnkF] at hr;subst hr
  repeat' first|refine zPw ?_|intro _ _ hs|intro K0 hK0
  exact h H2 (qc hs)
theorem c313 {sz xs:List Int} {ws:List Bool} {b c k:Nat} (g:Gr H sz b) (gw:Gw H ws b c) (hk : ∃ w,bget H k=some (.cells w 1 (ints xs))) (hbk:b≠k) (hck:c≠k) (hg:rngL sz=true) (hl:sz.length<=4) (hw:ws.length=sz.length) (hx:xs.length=sz.length) (hxr : ∀ x∈xs, -100000<=x/\x<=100000) (h : ∀ H',HS H none' [] H' -> R (.int .i64 (rnkF sz ws xs 0)) H'):qj prog 313 [grV b sz.length c ws.length,sv k xs.length] H R:=by
 obtain ⟨wb,hb⟩:=g.s;obtain ⟨wc,hc⟩:=gw.s;obtain ⟨wk,hk⟩:=hk;have hne:=gw.ne;have ha:=yu hg;refine avN call313 func313 ntmps313 ?_;have hs:=(adH (HS.start H none') hk);have hs:=hs.add (c:=false) hc (fun i p hi=>by rcases i with _ | i <;> simp at hi;subst hi;exact hck.symm) (fun h=>by cases h);have hs:=hs.add (c:=false) hb (fun i p hi=>by rcases i with _ | _ | i <;> simp at hi <;> subst hi <;> first | exact hne.symm | exact hbk.symm) (fun h=>by cases h);refine qo hs (fun H1 b1 e1 l1 hs=>?_);refine qg (fun _ hKs=>hKs _ _ ?_);clear hKs;clear e1 l1
 repeat' first|refine zPw ?_|intro _ _ hs|intro K0 hK0
 refine vC (α := List Blk × Nat × Int) tok (fun z=>HS H none' [(true,b1, .cells true 1 (grC b sz.length c ws.length)),(false,b, .cells wb 1 (ints sz)),(false,c, .cells wc 1 (bls ws)),(false,k, .cells wk 1 (ints xs))] z.1/\z.2.1<=sz.length/\(0<=z.2.2/\z.2.2<64 ^ z.2.1)/\rnkF (sz.drop z.2.1) (ws.drop z.2.1) (xs.drop z.2.1) z.2.2=rnkF sz ws xs 0)
  (fun | ⟨_,i,n⟩=>[(1,sv k xs.length),(2, .pointer (some ⟨b1,0,none⟩)),(5, .int .i64 n),(6, .int .i64 i)]) (fun | ⟨H',_,_⟩=>H') (fun z=>sz.length-z.2.1)
  ⟨H1,0,0⟩ ⟨hs,Nat.zero_le _,⟨Int.le_refl 0,show (0:Int)<64 ^ 0 by decide⟩,rfl⟩ ⟨⟨_,rfl, .rfl⟩,⟨_,rfl, .rfl⟩,⟨_,rfl, .rfl⟩,⟨_,rfl, .rfl⟩,trivial⟩ WkH.rfl ?_
 clear hs;rintro ⟨H2,i,n⟩ ⟨hs,hi,hn,hr⟩;dsimp only at hs hi hn hr ⊢
 repeat' first|refine zPw ?_|intro _ _ hs|intro K0 hK0
 refine And.intro (fun hc=>?_) (fun hc=>?_)
 ·have hlt:i<sz.length:=by simp at hc;omega
  clear hc;have hst:=UV hlt hw hx n;have hsm:=ha _ (List.getElem_mem hlt);have hxm:=hxr _ (List.getElem_mem (show i<xs.length by omega));rw[<- getElem!_pos sz i hlt] at hsm;rw[<- getElem!_pos xs i (by omega)] at hxm;have hm0:=Int.emod_nonneg xs[i]! (b:=sz[i]!) (by omega);have hm1:=Int.emod_lt_of_pos xs[i]! (b:=sz[i]!) (by omega);have hbd:=fun y hy=>Ye (y:=y) hn hsm hy (by omega)
  have hi2:i<xs.length:=by omega
  have hi3:i<ws.length:=by omega
  cases hwi:ws[i]!
  ·rw[hwi] at hst
   simp only[wrpF,Bool.false_eq_true,if_false] at hst;by_cases hy:0<=xs[i]! /\ xs[i]! < sz[i]!
   ·have hb3:=hbd _ hy
    rw[if_neg (by omega)] at hst
    repeat' first|refine zQw ?_|intro _ _ hs|intro K0 hK0|intro hc|refine dI ?_ ?_
    iterate 5 (
     all_goals try (
      first
       | refine vM hlt ?_
       | refine vM hi2 ?_
       | refine yh hi3 hwi ?_
      repeat' first|refine zQw ?_|intro _ _ hs|intro K0 hK0|intro hc|refine dI ?_ ?_
      ))
    exact⟨⟨H2,i+1,n*sz[i]! + xs[i]!⟩,⟨hs,hlt,⟨by dsimp only;omega,hb3.2.1⟩,hst.symm.trans hr⟩,by dsimp only;omega,Or.inl ⟨⟨rfl,rfl,rfl,rfl,trivial⟩,rfl⟩⟩
   ·rw[if_pos (by omega)] at hst
    have e:rnkF sz ws xs 0 = -2:=by rw[<- hr,hst]
    rw[e] at h
    repeat' first|refine zQw ?_|intro _ _ hs|intro K0 hK0|intro hc|refine dI ?_ ?_
    iterate 5 (
     all_goals try (
      first
       | refine vM hlt ?_
       | refine vM hi2 ?_
       | refine yh hi3 hwi ?_
      repeat' first|refine zQw ?_|intro _ _ hs|intro K0 hK0|intro hc|refine dI ?_ ?_
      ))
    all_goals exact h H2 (qc hs)
  ·rw[hwi] at hst
   simp only[wrpF,if_true] at hst;have hb3:=hbd _ ⟨hm0,hm1⟩;rw[if_neg (by omega)] at hst
   repeat' first|refine zQw ?_|intro _ _ hs|intro K0 hK0|intro hc|refine dI ?_ ?_
   iterate 5 (
    all_goals try (
     first
      | refine vM hlt ?_
      | refine vM hi2 ?_
      | refine yh hi3 hwi ?_
     repeat' first|refine zQw ?_|intro _ _ hs|intro K0 hK0|intro hc|refine dI ?_ ?_
     ))
   refine c312 hsm ?_
   repeat' first|refine zQw ?_|intro _ _ hs|intro K0 hK0|intro hc|refine dI ?_ ?_
   iterate 5 (
    all_goals try (
     first
      | refine vM hlt ?_
      | refine vM hi2 ?_
      | refine yh hi3 hwi ?_
     repeat' first|refine zQw ?_|intro _ _ hs|intro K0 hK0|intro hc|refine dI ?_ ?_
     ))
   exact⟨⟨H2,i+1,n*sz[i]! + xs[i]! % sz[i]!⟩,⟨hs,hlt,⟨by dsimp only;omega,hb3.2.1⟩,hst.symm.trans hr⟩,by dsimp only;omega,Or.inl ⟨⟨rfl,rfl,rfl,rfl,trivial⟩,rfl⟩⟩
 ·have hie:i=sz.length:=by simp at hc;omega
  subst hie;rw[List.drop_length] at hr;simp only[rnkF] at hr;subst hr
  repeat' first|refine zPw ?_|intro _ _ hs|intro K0 hK0
  exact h H2 (qc hs)
end Go.Af.Tryz
namespace Go.Af.Tryz
open Go Go.Proofs Tryz
attribute [local irreducible] awp qj qI qK qE qm isCells ql qi qB qx qh roundEnd
variable {H:List Blk}
variable {R:Value->List Blk->Prop}

structure Msg where
 fr:Int
 to:Int
 sr:List Int
 ds:List Int
 jn:Int
deriving DecidableEq
instance:Inhabited Msg:=⟨⟨0,0,[],[],0⟩⟩
abbrev mgC (m:Msg) (a b:Nat):List Value := [.int .i64 m.fr, .int .i64 m.to,sv a m.sr.length,sv b m.ds.length, .int .i64 m.jn]
abbrev mgV (m:Msg) (a b:Nat):Value := .agg ⟨mgC m a b⟩
def relF (t:Tk) (v:Int):Int:=(v+t.ro) % t.pr
theorem c210 {t:Tk} {a:Int} {b c:Nat} (hp:1<=t.pr/\t.pr<=64) (ha : -1000000<=a/\a<=1000000) (h : ∀ H',HS H none' [] H' -> R (.int .i64 (a % t.pr)) H'):qj prog 210 [tkV t b c, .int .i64 a] H R:=by
 have hw:=UH (x:=a) hp.1;have hr:=QQ (x:=a) hp.1;have hs0:t.pr≠0:=by omega
 rw[<- hw] at h;refine avN call210 func210 ntmps210 ?_;refine qo (HS.start H none') (fun H1 b1 e1 l1 hs=>?_);refine qg (fun _ hKs=>hKs _ _ ?_);clear hKs;clear e1 l1;refine qp tok mx [0,0,2,7,0,16,63,0,128,511,1023] [false,false,false,false,true,true,false,true,true,false,false] (.first 0 (.first 1 (.first 2 (.first 3 (.first 4 (.first 5 (.first 6 (.first 7 (.first 8 (.first 9 (.first 10 .done))))))))))) (by kernel_rfl) ?_;refine qw (fun K0 hK0=>?_)
 repeat' first|refine zPw ?_|intro _ _ hs|intro K0 hK0
 exact h _ (qc hs)
abbrev roBl (xs:List Bool):Blk := .cells false 1 (bls xs)
theorem BRen.bl {ι : List (Nat × Nat)} {wr:Bool} {xs:List Bool}:BRen ι 0 (.cells false 1 (bls xs)) (.cells wr 1 (bls xs)):=BRen.cells (fun h=>by cases h) (fun i x hx=>⟨x,by rw[Nat.zero_add];exact hx,by
 unfold bls at hx;rw[List.getElem?_map] at hx
 cases e:xs[i]? with
 | none=>rw[e] at hx;cases hx
 | some y=>rw[e] at hx;cases hx;exact VRen.plain rfl⟩)
theorem vQ0 {f:Nat} {t:Tk} {b c:Nat} {xs:List Value} {z:Int} (gr:Gr H t.sz b) (gw:Gw H t.ws b c) (hx:xs.all (wS 6)=true)
 (hc : ∀ {R:Value->List Blk->Prop},(∀ H',HS [ro t.sz,roBl t.ws] none' [] H' -> R (.int .i64 z) H')->qj prog f (tkV t 0 1::xs) [ro t.sz,roBl t.ws] R) (h:R (.int .i64 z) H):qI prog f (tkV t b c::xs) H R:=by
 obtain ⟨w,hb⟩:=gr.s;obtain ⟨w2,hcw⟩:=gw.s
 have hl:qj prog f (tkV t 0 1::xs) [ro t.sz,roBl t.ws] (fun v H=>v = .int .i64 z/\H = [ro t.sz,roBl t.ws]):=by
  refine Qm (hc (fun H' hs=>?_));have e0:=vz hs (b:=0) (B:=ro t.sz) rfl;have e1:=vz hs (b:=1) (B:=roBl t.ws) rfl;refine⟨[(0,0),(1,0)], .int .i64 z,[ro t.sz,roBl t.ws],by simp, ?_,⟨⟨_,e0,BRen.ints _ _ _⟩,⟨_,e1,BRen.bl⟩,trivial⟩,rfl,VRen.plain rfl,rfl,rfl⟩;intro i hi
  match i,hi with
  | 0,_=>rfl
  | 1,_=>rfl
 refine XR hl [(b,0),(c,0)] rfl ?_ ⟨⟨_,hb,BRen.seg fun i x hx=>by rw[Nat.zero_add,yw,hx];rfl⟩,⟨_,hcw,BRen.bl⟩,trivial⟩ rfl h;refine .cons (.agg (.cons (.int _ _) (.cons (.int _ _) (.cons (.int _ _) (.cons (.int _ _) (.cons (VRen.slice rfl rfl (Nat.le_refl _)) (.cons (VRen.slice rfl rfl (Nat.le_refl _)) .nil))))))) ?_;clear hl hc
 induction xs with
 | nil=>exact .nil
 | cons x xs ih =>
   rw[List.all_cons,Bool.and_eq_true] at hx;exact .cons (VRen.plain hx.1) (ih hx.2)
theorem zq {t:Tk} {a:Int} {b c:Nat} (gr:Gr H t.sz b) (gw:Gw H t.ws b c) (hp:1<=t.pr/\t.pr<=64) (ha : -1000000<=a/\a<=1000000) (h:R (.int .i64 (a % t.pr)) H):qI prog 210 [tkV t b c, .int .i64 a] H R :=
 vQ0 gr gw rfl (c210 hp ha) h
theorem c201 {t:Tk} {v:Int} {b c:Nat} (hp:1<=t.pr/\t.pr<=64) (hro:0<=t.ro/\t.ro<t.pr) (hv : -100000<=v/\v<=100000) (h : ∀ H',HS H none' [] H' -> R (.int .i64 (relF t v)) H'):qj prog 201 [tkV t b c, .int .i64 v] H R:=by
 refine avN call201 func201 ntmps201 ?_;refine qo (HS.start H none') (fun H1 b1 e1 l1 hs=>?_);refine qg (fun _ hKs=>hKs _ _ ?_);clear hKs;clear e1 l1
 repeat' first|refine zPw ?_|intro _ _ hs|intro K0 hK0|refine c210 hp (by omega) (kNo hs (fun H2 hs=>?_))
 exact h _ (qc hs)
theorem wz {t:Tk} {v:Int} {b c:Nat} (gr:Gr H t.sz b) (gw:Gw H t.ws b c) (hp:1<=t.pr/\t.pr<=64) (hro:0<=t.ro/\t.ro<t.pr) (hv : -100000<=v/\v<=100000) (h:R (.int .i64 (relF t v)) H):qI prog 201 [tkV t b c, .int .i64 v] H R :=
 vQ0 gr gw rfl (c201 hp hro hv) h
theorem c202 {t:Tk} {b c:Nat} (hp:1<=t.pa/\t.pa<=16) (h : ∀ H' k,HS H none' [(true,k,rw' (spnF t 0 1))] H' -> R (sv k (spnF t 0 1).length) H'):qj prog 202 [tkV t b c] H R:=by
 refine avN call202 func202 ntmps202 ?_;refine qo (HS.start H none') (fun H1 b1 e1 l1 hs=>?_);refine qg (fun _ hKs=>hKs _ _ ?_);clear hKs;clear e1 l1
 repeat' first|refine zPw ?_|intro _ _ hs|intro K0 hK0|(refine c157 (by omega) (by omega) (by omega) (by omega) (fun H2 k hn=>?_);have hs:=hs.call hn rfl;clear hn)
 exact h _ k (pkH hs [0])
theorem c200 {fr to jn:Int} {x:Value} {p:Option Addr} {n k:Nat} (hx:x = .slice p n k) (h : ∀ H',HS H none' [] H' -> R (.agg ⟨[.int .i64 fr, .int .i64 to,x,x, .int .i64 jn]⟩) H'):qj prog 200 [.int .i64 fr, .int .i64 to,x, .int .i64 jn] H R:=by
 subst hx;refine avN call200 func200 ntmps200 ?_;refine qo (HS.start H none') (fun H1 b1 e1 l1 hs=>?_);refine qg (fun _ hKs=>hKs _ _ ?_);clear hKs;clear e1 l1
 repeat' first|refine zPw ?_|intro _ _ hs|intro K0 hK0
 change resK T _ _ _ _;refine vV (by rfl) (by rfl) (hs.get 0 rfl) (by rfl) ?_;refine⟨_,rfl,_,rfl,_,rfl,_,rfl,_,rfl, ?_⟩;exact h _ (qc hs)
theorem zg {p x:Int} (hp:1<=p/\p<=16) (h:0<=x/\x<=1000):0<=x*p/\x*p<=100000:=by
 have a:0<=x*p:=Int.mul_nonneg h.1 (by omega);have b:x*p<=1000*16:=Int.mul_le_mul h.2 hp.2 (by omega) (by omega);omega
theorem c222 {t:Tk} {fr to sr ds jn:Int} {b c:Nat} (hp:1<=t.pa/\t.pa<=16) (h1:0<=sr/\sr<=128) (h2:0<=ds/\ds<=128) (h : ∀ H' x y,HS H none' [(true,y,rw' (spnF t ds (ds+1))),(true,x,rw' (spnF t sr (sr+1)))] H' -> R (mgV ⟨fr,to,spnF t sr (sr+1),spnF t ds (ds+1),jn⟩ x y) H') :
 qj prog 222 [tkV t b c, .int .i64 fr, .int .i64 to, .int .i64 sr, .int .i64 ds, .int .i64 jn] H R:=by
 have m1:=zg (x:=sr+1) hp (by omega);have m2:=zg (x:=ds+1) hp (by omega);refine avN call222 func222 ntmps222 ?_;refine qo (HS.start H none') (fun H1 b1 e1 l1 hs=>?_);refine qo hs (fun H1 b2 e2 l2 hs=>?_);clear e1 l1 e2 l2;refine qp tok mx [0,0,0,0,0,16,60,0,0,0,512,2044,0,8191,16383] [false,false,false,true,true,true,false,true,true,true,true,false,true,false,false] (.first 0 (.first 1 (.first 2 (.first 3 (.first 4 (.first 5 (.first 8 (.first 9 (.first 10 (.first 12 (.alt 6 (.first 7 (.first 11 (.first 13 (.first 14 .done)))) (.alt 7 (.first 6 (.first 11 (.first 13 (.first 14 .done)))) .no)))))))))))) (by kernel_rfl) ?_;refine qw (fun K0 hK0=>?_)
 repeat' first|refine zPw ?_|intro _ _ hs|intro K0 hK0
 refine And.intro ?_ (And.intro ?_ trivial)
 all_goals (
  repeat' first|refine zPw ?_|intro _ _ hs|intro K0 hK0
  refine c157 h1.1 (by omega) m1 (by omega) (fun H2 x hn=>?_);have hs:=hs.call hn rfl;clear hn
  repeat' first|refine zPw ?_|intro _ _ hs|intro K0 hK0|(refine c157 h2.1 (by omega) m2 (by omega) (fun H3 y hn=>?_);have hs:=hs.call hn rfl;clear hn)
  change resK T _ _ _ _;refine vV (by rfl) (by rfl) (hs.get 2 rfl) (by rfl) ?_;refine⟨_,rfl,_,rfl,_,rfl,_,rfl,_,rfl, ?_⟩;exact h _ x y (pkH hs [0,1])
  )
def parF (t:Tk) (i:Int):List Int:=(List.range ((i+1)*t.pa / t.pr-i*t.pa / t.pr).toNat).map (fun k:Nat=>i*t.pa / t.pr+(k:Int))
def sidF (a b:Int):Int:=if a<b then 1 else 2
theorem c216 {x y:Int} (h:R (.int .i64 (sidF x y)) H):qj prog 216 [.int .i64 x, .int .i64 y] H R:=by
 refine avN call216 func216 ntmps216 ?_;have hs:=HS.start H none';unfold sidF at h
 repeat' first|refine zQw ?_|intro _ _ hs|intro K0 hK0|intro hc|refine dI ?_ ?_
 all_goals (
  (repeat (first | rw[if_pos (by omega)] at h | rw[if_neg (by omega)] at h))
  exact h)
end Go.Af.Tryz
