/-
  Processes spread over the homes of a network (Spread), in the program and in the reference.
  Is it small enough (few); the law PlanChecks, as a call.
-/
import Derived.Test.YtgdbclgcbbbenaaGreatMPD
import Derived.Test.YtgdbclgcbbbenaaGreatMY2
import Derived.Test.YtgdbclgcbbbenaaGreatMG6
set_option linter.all false
namespace Go.Af.Tryz
open Go Go.Proofs Go.Af.Pl Co
open Ne hiding none' bls
open Go.Af.Coll (St)
set_option maxRecDepth 100000
set_option maxHeartbeats 4000000
attribute [local irreducible] awp qo qA qN qI qG isCells qC qw qY ve qM roundEnd xK zN keyK wY zS xA
def spL (s:Sh) (ho:Int) (n:Nat):List Int:=(List.range n).map fun i=>s.snk[i % s.snk.length]! * ho+((i / s.snk.length:Nat):Int)
theorem spL_succ (s:Sh) (ho:Int) (n:Nat):spL s ho (n+1)=spL s ho n ++ [s.snk[n % s.snk.length]! * ho+((n / s.snk.length:Nat):Int)]:=by unfold spL;rw[List.range_succ,List.map_append];rfl
theorem spL_len (s:Sh) (ho:Int) (n:Nat):(spL s ho n).length=n:=by simp[spL]
def spE (o:Option Sh) (ho procs:Int):Int:=match o with
 | none=>2
 | some s=>if procs<0\/s.hm*ho<procs then 3 else 0
structure K2 where
 H:List Blk
 k:Nat
 i:Nat
theorem c37 {H:List Blk} {kd ho procs:Int} {sd:List Int} {b:Nat} {R:Value->List Blk->Prop} (hb : ∃ w,bget H b=some (.cells w 1 (ints sd)))
 (h0:spE (qp kd sd ho) ho procs≠0->∀ H',HS H none' [] H' -> R (.tuple ⟨[.slice none 0 0, .int .i64 (spE (qp kd sd ho) ho procs)]⟩) H')
 (h1 : ∀ (s:Sh) (n:Nat),qp kd sd ho=some s->procs=n->procs<=s.hm*ho->∀ H' k,HS H none' [(true,k,rw' (spL s ho n))] H' -> R (.tuple ⟨[sv k n, .int .i64 0]⟩) H'):qo Tryz.prog 37 [spV kd (sv b sd.length) ho, .int .i64 procs] H R:=by
 obtain ⟨w0,hb0⟩:=hb
 refine qj tok Tryz.call37 Tryz.func37 rfl Tryz.ntmps37 rfl (by simp) ?_
 refine vO (HS.start H none') (fun H1 b2 e1 l1 hs=>?_)
 refine qZ (fun _ hKs=>hKs _ _ ?_);clear hKs
 clear e1 l1
 repeat' (first|refine nX ?_|refine nY (fun K0 hK0=>?_)|refine bH ?_|refine bM ?_|refine iS hs ?_|refine rS hs ?_|refine eI _ (aI rfl ?_)|refine qi ?_|refine qh ?_|refine qf ?_|refine oJ ?_|refine nN hs (fun _ _ hs=>?_)|refine nS hs (fun _ _ hs=>?_)|refine sX hs (fun _ hs=>?_)|(refine hK0 _ _ ?_;clear hK0)|fail)
 have hb:=zq (qU hs) hb0
 (first | refine c22 hb (Nat.le_refl _) ?_ | refine (c22 hb (Nat.le_refl _) ?_).call)
 unfold spE at h0
 cases hsh:qp kd sd ho with
 | none =>
   rw[hsh] at h0
   unfold sizeV
   repeat' (first|refine nX ?_|refine nY (fun K0 hK0=>?_)|refine bH ?_|refine bM ?_|refine iS hs ?_|refine rS hs ?_|refine eI _ (aI rfl ?_)|refine qi ?_|refine qh ?_|refine qf ?_|refine oJ ?_|refine nN hs (fun _ _ hs=>?_)|refine nS hs (fun _ _ hs=>?_)|refine sX hs (fun _ hs=>?_)|(refine dI (fun hc=>?_) (fun hc=>?_) <;> try (exfalso;omega))|(refine hK0 _ _ ?_;clear hK0)|fail)
   exact h0 (show (2:Int)≠0 by decide) _ (qU hs)
 | some s =>
   rw[hsh] at h0
   unfold sizeV
   dsimp only at h0
   have hok:=wP hsh
   have hho:=zB hsh
   have hbd:=sw_bd hok
   obtain ⟨L,hL⟩ : ∃ L:Nat,s.hm=L:=⟨s.hm.toNat,by omega⟩
   have hlen:=snk_len s
   rw[hL,Int.toNat_natCast] at hlen
   by_cases hp:procs<0\/s.hm*ho<procs
   ·rw[if_pos hp] at h0
    repeat' (first|refine nX ?_|refine nY (fun K0 hK0=>?_)|refine bH ?_|refine bM ?_|refine iS hs ?_|refine rS hs ?_|refine eI _ (aI rfl ?_)|refine qi ?_|refine qh ?_|refine qf ?_|refine oJ ?_|refine nN hs (fun _ _ hs=>?_)|refine nS hs (fun _ _ hs=>?_)|refine sX hs (fun _ hs=>?_)|(refine dI (fun hc=>?_) (fun hc=>?_) <;> try (exfalso;omega))|(refine hK0 _ _ ?_;clear hK0)|fail)
    all_goals first | exact h0 (by decide) _ (qU hs) | (exfalso;omega)
   clear h0
   obtain ⟨n,rfl⟩ : ∃ n:Nat,procs=n:=⟨procs.toNat,by omega⟩
   have hm8:s.hm*ho<=65536*8:=Int.mul_le_mul hbd.2.2 hho.2 (by omega) (by decide)
   have hn:(n:Int)<=524288:=by omega
   repeat' (first|refine nX ?_|refine nY (fun K0 hK0=>?_)|refine bH ?_|refine bM ?_|refine iS hs ?_|refine rS hs ?_|refine eI _ (aI rfl ?_)|refine qi ?_|refine qh ?_|refine qf ?_|refine oJ ?_|refine nN hs (fun _ _ hs=>?_)|refine nS hs (fun _ _ hs=>?_)|refine sX hs (fun _ hs=>?_)|(refine dI (fun hc=>?_) (fun hc=>?_) <;> try (exfalso;omega))|(refine hK0 _ _ ?_;clear hK0)|fail)
   all_goals try (exfalso;omega)
   refine g34 hsh hb (fun H2 k hn=>?_)
   have hs:=hs.call hn rfl
   repeat' (first|refine nX ?_|refine nY (fun K0 hK0=>?_)|refine bH ?_|refine bM ?_|refine iS hs ?_|refine rS hs ?_|refine eI _ (aI rfl ?_)|refine qi ?_|refine qh ?_|refine qf ?_|refine oJ ?_|refine nN hs (fun _ _ hs=>?_)|refine nS hs (fun _ _ hs=>?_)|refine sX hs (fun _ hs=>?_)|(refine hK0 _ _ ?_;clear hK0)|fail)
   refine xG (α := K2) tok (fun z=>HS H none' [(true,z.k,rw' (spL s ho z.i)),(true,k,rw' s.snk),(true,b2, .cells true 1 [.int .i64 kd,sv b sd.length, .int .i64 ho])] z.H/\z.i<=n)
    (fun z=>[(2,pV b2),(9,sv k s.snk.length),(11,sv z.k (spL s ho z.i).length),(35, .int .i64 n),(36, .int .i64 z.i)]) (fun z=>z.H) (fun z=>n-z.i)
    ⟨_ ++ [rw' []],_,0⟩ ⟨hs.virt _,Nat.zero_le _⟩ ⟨⟨_,rfl, .rfl⟩,⟨_,rfl, .rfl⟩,⟨_,rfl,WkV.nil _⟩,⟨_,rfl, .rfl⟩,⟨_,rfl, .rfl⟩,trivial⟩ (WkH.rfl.app _) ?_
   clear hs
   rintro ⟨H3,q,i⟩ ⟨hs,hi⟩
   dsimp only at hs hi ⊢
   repeat' (first|refine nX ?_|refine nY (fun K0 hK0=>?_)|refine bH ?_|refine bM ?_|refine iS hs ?_|refine rS hs ?_|refine eI _ (aI rfl ?_)|refine qi ?_|refine qh ?_|refine qf ?_|refine oJ ?_|refine nN hs (fun _ _ hs=>?_)|refine nS hs (fun _ _ hs=>?_)|refine sX hs (fun _ hs=>?_)|(refine hK0 _ _ ?_;clear hK0)|fail)
   refine aI (fun hc=>?_) (fun hc=>?_)
   ·have hlt:i<n:=by simp at hc;omega
    clear hc
    have hsn:=snk_in hok hL (i:=i % L) (Nat.mod_lt _ (by omega))
    have hsl:=spL_succ s ho i
    have hsl2:=spL_len s ho i
    rw[hlen] at hsl
    have hL0:(L:Int)≠0:=by omega
    have hmod:(i:Int).tmod (L:Int)=((i % L:Nat):Int):=by rw[Int.tmod_eq_emod_of_nonneg (by omega)];rfl
    have hdiv:(i:Int).tdiv (L:Int)=((i / L:Nat):Int):=by rw[Int.tdiv_eq_ediv_of_nonneg (by omega)];rfl
    have hlt2:i % L<L:=Nat.mod_lt _ (by omega)
    have hle2:i / L<=i:=Nat.div_le_self i L
    generalize i / L=qd at hsl hdiv hle2
    rw[hlen]
    repeat' (first|refine nX ?_|refine nY (fun K0 hK0=>?_)|refine bH ?_|refine bM ?_|refine iS hs ?_|refine rS hs ?_|refine eI _ (aI rfl ?_)|refine qi ?_|refine qh ?_|refine qf ?_|refine oJ ?_|refine nN hs (fun _ _ hs=>?_)|refine nS hs (fun _ _ hs=>?_)|refine sX hs (fun _ hs=>?_)|(refine hK0 _ _ ?_;clear hK0)|fail)
    refine wC tok mx [0,0,0,0,8,28,62,126,0,256,1022,0,0,4096,14336,32766,65534,131071,262143] [false,false,false,false,false,false,false,false,true,true,false,true,true,true,true,false,false,false,false] (.first 0 (.first 1 (.first 2 (.first 3 (.first 4 (.first 5 (.first 6 (.first 7 (.first 8 (.first 9 (.first 10 (.first 11 (.first 12 (.first 13 (.first 14 (.first 15 (.first 16 (.first 17 (.first 18 .done))))))))))))))))))) (by kernel_rfl) ?_
    refine wK (fun K0 hK0=>?_)
    have hltk:i % L<s.snk.length:=by omega
    have hmul0:I64 ((i:Int).tmod (L:Int)):=by rw[hmod];unfold I64;omega
    have hmul:0<=s.snk[i % L]! * ho/\s.snk[i % L]! * ho<=65536*8:=⟨Int.mul_nonneg hsn.1 (by omega),Int.mul_le_mul (by omega) hho.2 (by omega) (by decide)⟩
    have hdb:0<=(i:Int).tdiv (L:Int)/\(i:Int).tdiv (L:Int)<=524288:=by rw[hdiv];omega
    repeat' (first|refine iS hs ?_|refine rS hs ?_|refine eI _ (aI rfl ?_)|refine eI 0 (aI (by decide) ?_)|refine eI 1 (aI (by decide) ?_)|refine eI 2 (aI (by decide) ?_)|refine eI 3 (aI (by decide) ?_)|refine qi ?_|refine qh ?_|refine qf ?_|refine oJ ?_|refine vO hs (fun _ _ _ _ hs=>?_)|refine xx hs (fun _ _ _ _ hs=>?_)|refine sS hs 0 (fun _ _ hs=>?_)|refine sS hs 1 (fun _ _ hs=>?_)|refine sS hs 2 (fun _ _ hs=>?_)|refine sS hs 3 (fun _ _ hs=>?_)|refine sS hs 4 (fun _ _ hs=>?_)|refine sS hs 5 (fun _ _ hs=>?_)|refine vK tok (hs.get 0 rfl) ?_|refine qP hs 0 rfl (fun _ hs=>?_)|refine vk hs 0 rfl (fun _ hs=>?_)|refine qW hs 0 rfl (by intro h;cases h) (fun _ hs=>?_)|refine vK tok (hs.get 1 rfl) ?_|refine qP hs 1 rfl (fun _ hs=>?_)|refine vk hs 1 rfl (fun _ hs=>?_)|refine qW hs 1 rfl (by intro h;cases h) (fun _ hs=>?_)|refine vK tok (hs.get 2 rfl) ?_|refine qP hs 2 rfl (fun _ hs=>?_)|refine vk hs 2 rfl (fun _ hs=>?_)|refine qW hs 2 rfl (by intro h;cases h) (fun _ hs=>?_)|refine vK tok (hs.get 3 rfl) ?_|refine qP hs 3 rfl (fun _ hs=>?_)|refine vk hs 3 rfl (fun _ hs=>?_)|refine qW hs 3 rfl (by intro h;cases h) (fun _ hs=>?_)|refine vK tok (hs.get 4 rfl) ?_|refine qP hs 4 rfl (fun _ hs=>?_)|refine vk hs 4 rfl (fun _ hs=>?_)|refine qW hs 4 rfl (by intro h;cases h) (fun _ hs=>?_)|refine vK tok (hs.get 5 rfl) ?_|refine qP hs 5 rfl (fun _ hs=>?_)|refine vk hs 5 rfl (fun _ hs=>?_)|refine qW hs 5 rfl (by intro h;cases h) (fun _ hs=>?_)|first|(refine qg (hs.get 1 rfl) ⟨i % L,hmod,hltk, ?_⟩)|(refine Ld_at hltk ?_)|(refine app_hs hs 1 rfl (by decide) (hs.get 0 rfl) rfl rfl (by simp[hsl2]) (by simp only[hsl2];omega) (fun H4 k' _ _ hs=>?_))|refine hK0 _ _ ?_|fail)
    have hs:=hs.tail
    rw[hdiv] at hs
    refine⟨⟨H4,k',i+1⟩,⟨?_,hlt⟩,by dsimp only;omega,Or.inl ⟨⟨rfl,rfl,congrArg (fun z=>some (sv k' z)) (by rw[hsl];simp),rfl,rfl,trivial⟩,rfl⟩⟩
    dsimp only
    rw[hsl,rw',wo]
    exact hs
   ·have hie:i=n:=by simp at hc;omega
    subst hie
    repeat' (first|refine nX ?_|refine nY (fun K0 hK0=>?_)|refine bH ?_|refine bM ?_|refine iS hs ?_|refine rS hs ?_|refine eI _ (aI rfl ?_)|refine qi ?_|refine qh ?_|refine qf ?_|refine oJ ?_|refine nN hs (fun _ _ hs=>?_)|refine nS hs (fun _ _ hs=>?_)|refine sX hs (fun _ hs=>?_)|(refine dI (fun hc=>?_) (fun hc=>?_) <;> try (exfalso;omega))|(refine hK0 _ _ ?_;clear hK0)|fail)
    have e:=h1 s i hsh rfl (by omega) _ q (hs.pick [0] (by decide) rfl)
    rw[show sv q i=sv q (spL s ho i).length by rw[spL_len]] at e
    exact e
theorem c38 {H:List Blk} {kd ho procs:Int} {sd:List Int} {b:Nat} {R:Value->List Blk->Prop} (hb : ∃ w,bget H b=some (.cells w 1 (ints sd)))
 (h0:spE (qp kd sd ho) ho procs≠0->∀ H',HS H none' [] H' -> R (.tuple ⟨[.slice none 0 0, .int .i64 (spE (qp kd sd ho) ho procs)]⟩) H')
 (h1 : ∀ (s:Sh) (n:Nat),qp kd sd ho=some s->procs=n->procs<=s.hm*ho->∀ H' k,HS H none' [(true,k,rw' (spL s ho n))] H' -> R (.tuple ⟨[sv k n, .int .i64 0]⟩) H'):qo Tryz.prog 38 [spV kd (sv b sd.length) ho, .int .i64 procs] H R:=by
 obtain ⟨w0,hb0⟩:=hb
 refine qj tok Tryz.call38 Tryz.func38 rfl Tryz.ntmps38 rfl (by simp) ?_
 refine vO (HS.start H none') (fun H1 b2 e1 l1 hs=>?_)
 refine qZ (fun _ hKs=>hKs _ _ ?_);clear hKs
 clear e1 l1
 repeat' (first|refine nX ?_|refine nY (fun K0 hK0=>?_)|refine bH ?_|refine bM ?_|refine iS hs ?_|refine rS hs ?_|refine eI _ (aI rfl ?_)|refine qi ?_|refine qh ?_|refine qf ?_|refine oJ ?_|refine nN hs (fun _ _ hs=>?_)|refine nS hs (fun _ _ hs=>?_)|refine sX hs (fun _ hs=>?_)|(refine hK0 _ _ ?_;clear hK0)|fail)
 have hb:=zq (qU hs) hb0
 (first | refine Ne.c23 hb (Nat.le_refl _) ?_ | refine (Ne.c23 hb (Nat.le_refl _) ?_).call)
 unfold spE at h0
 cases hsh:qp kd sd ho with
 | none =>
   rw[hsh] at h0
   unfold sizeV
   repeat' (first|refine nX ?_|refine nY (fun K0 hK0=>?_)|refine bH ?_|refine bM ?_|refine iS hs ?_|refine rS hs ?_|refine eI _ (aI rfl ?_)|refine qi ?_|refine qh ?_|refine qf ?_|refine oJ ?_|refine nN hs (fun _ _ hs=>?_)|refine nS hs (fun _ _ hs=>?_)|refine sX hs (fun _ hs=>?_)|(refine dI (fun hc=>?_) (fun hc=>?_) <;> try (exfalso;omega))|(refine hK0 _ _ ?_;clear hK0)|fail)
   exact h0 (show (2:Int)≠0 by decide) _ (qU hs)
 | some s =>
   rw[hsh] at h0
   unfold sizeV
   dsimp only at h0
   have hok:=wP hsh
   have hho:=zB hsh
   have hbd:=sw_bd hok
   obtain ⟨L,hL⟩ : ∃ L:Nat,s.hm=L:=⟨s.hm.toNat,by omega⟩
   have hlen:=snk_len s
   rw[hL,Int.toNat_natCast] at hlen
   by_cases hp:procs<0\/s.hm*ho<procs
   ·rw[if_pos hp] at h0
    repeat' (first|refine nX ?_|refine nY (fun K0 hK0=>?_)|refine bH ?_|refine bM ?_|refine iS hs ?_|refine rS hs ?_|refine eI _ (aI rfl ?_)|refine qi ?_|refine qh ?_|refine qf ?_|refine oJ ?_|refine nN hs (fun _ _ hs=>?_)|refine nS hs (fun _ _ hs=>?_)|refine sX hs (fun _ hs=>?_)|(refine dI (fun hc=>?_) (fun hc=>?_) <;> try (exfalso;omega))|(refine hK0 _ _ ?_;clear hK0)|fail)
    all_goals first | exact h0 (by decide) _ (qU hs) | (exfalso;omega)
   clear h0
   obtain ⟨n,rfl⟩ : ∃ n:Nat,procs=n:=⟨procs.toNat,by omega⟩
   have hm8:s.hm*ho<=65536*8:=Int.mul_le_mul hbd.2.2 hho.2 (by omega) (by decide)
   have hn:(n:Int)<=524288:=by omega
   repeat' (first|refine nX ?_|refine nY (fun K0 hK0=>?_)|refine bH ?_|refine bM ?_|refine iS hs ?_|refine rS hs ?_|refine eI _ (aI rfl ?_)|refine qi ?_|refine qh ?_|refine qf ?_|refine oJ ?_|refine nN hs (fun _ _ hs=>?_)|refine nS hs (fun _ _ hs=>?_)|refine sX hs (fun _ hs=>?_)|(refine dI (fun hc=>?_) (fun hc=>?_) <;> try (exfalso;omega))|(refine hK0 _ _ ?_;clear hK0)|fail)
   all_goals try (exfalso;omega)
   refine g35 hsh hb (fun H2 k hn=>?_)
   have hs:=hs.call hn rfl
   repeat' (first|refine nX ?_|refine nY (fun K0 hK0=>?_)|refine bH ?_|refine bM ?_|refine iS hs ?_|refine rS hs ?_|refine eI _ (aI rfl ?_)|refine qi ?_|refine qh ?_|refine qf ?_|refine oJ ?_|refine nN hs (fun _ _ hs=>?_)|refine nS hs (fun _ _ hs=>?_)|refine sX hs (fun _ hs=>?_)|(refine hK0 _ _ ?_;clear hK0)|fail)
   refine xG (α := K2) tok (fun z=>HS H none' [(true,z.k,rw' (spL s ho z.i)),(true,k,rw' s.snk),(true,b2, .cells true 1 [.int .i64 kd,sv b sd.length, .int .i64 ho])] z.H/\z.i<=n)
    (fun z=>[(1, .int .i64 n),(2,pV b2),(9,sv k s.snk.length),(11,sv z.k (spL s ho z.i).length),(12, .int .i64 z.i)]) (fun z=>z.H) (fun z=>n-z.i)
    ⟨_ ++ [rw' []],_,0⟩ ⟨hs.virt _,Nat.zero_le _⟩ ⟨⟨_,rfl, .rfl⟩,⟨_,rfl, .rfl⟩,⟨_,rfl, .rfl⟩,⟨_,rfl,WkV.nil _⟩,⟨_,rfl, .rfl⟩,trivial⟩ (WkH.rfl.app _) ?_
   clear hs
   rintro ⟨H3,q,i⟩ ⟨hs,hi⟩
   dsimp only at hs hi ⊢
   repeat' (first|refine nX ?_|refine nY (fun K0 hK0=>?_)|refine bH ?_|refine bM ?_|refine iS hs ?_|refine rS hs ?_|refine eI _ (aI rfl ?_)|refine qi ?_|refine qh ?_|refine qf ?_|refine oJ ?_|refine nN hs (fun _ _ hs=>?_)|refine nS hs (fun _ _ hs=>?_)|refine sX hs (fun _ hs=>?_)|(refine hK0 _ _ ?_;clear hK0)|fail)
   refine aI (fun hc=>?_) (fun hc=>?_)
   ·have hlt:i<n:=by simp at hc;omega
    clear hc
    have hsn:=snk_in hok hL (i:=i % L) (Nat.mod_lt _ (by omega))
    have hsl:=spL_succ s ho i
    have hsl2:=spL_len s ho i
    rw[hlen] at hsl
    have hL0:(L:Int)≠0:=by omega
    have hmod:(i:Int).tmod (L:Int)=((i % L:Nat):Int):=by rw[Int.tmod_eq_emod_of_nonneg (by omega)];rfl
    have hdiv:(i:Int).tdiv (L:Int)=((i / L:Nat):Int):=by rw[Int.tdiv_eq_ediv_of_nonneg (by omega)];rfl
    have hlt2:i % L<L:=Nat.mod_lt _ (by omega)
    have hle2:i / L<=i:=Nat.div_le_self i L
    generalize i / L=qd at hsl hdiv hle2
    rw[hlen]
    repeat' (first|refine nX ?_|refine nY (fun K0 hK0=>?_)|refine bH ?_|refine bM ?_|refine iS hs ?_|refine rS hs ?_|refine eI _ (aI rfl ?_)|refine qi ?_|refine qh ?_|refine qf ?_|refine oJ ?_|refine nN hs (fun _ _ hs=>?_)|refine nS hs (fun _ _ hs=>?_)|refine sX hs (fun _ hs=>?_)|(refine hK0 _ _ ?_;clear hK0)|fail)
    refine wC tok mx [0,0,0,0,8,28,62,126,0,256,1022,0,0,4096,14336,32766,65534,131071,262143] [false,false,false,false,false,false,false,false,true,true,false,true,true,true,true,false,false,false,false] (.first 0 (.first 1 (.first 2 (.first 3 (.first 4 (.first 5 (.first 6 (.first 7 (.first 8 (.first 9 (.first 10 (.first 11 (.first 12 (.first 13 (.first 14 (.first 15 (.first 16 (.first 17 (.first 18 .done))))))))))))))))))) (by kernel_rfl) ?_
    refine wK (fun K0 hK0=>?_)
    have hltk:i % L<s.snk.length:=by omega
    have hmul0:I64 ((i:Int).tmod (L:Int)):=by rw[hmod];unfold I64;omega
    have hmul:0<=s.snk[i % L]! * ho/\s.snk[i % L]! * ho<=65536*8:=⟨Int.mul_nonneg hsn.1 (by omega),Int.mul_le_mul (by omega) hho.2 (by omega) (by decide)⟩
    have hdb:0<=(i:Int).tdiv (L:Int)/\(i:Int).tdiv (L:Int)<=524288:=by rw[hdiv];omega
    repeat' (first|refine iS hs ?_|refine rS hs ?_|refine eI _ (aI rfl ?_)|refine eI 0 (aI (by decide) ?_)|refine eI 1 (aI (by decide) ?_)|refine eI 2 (aI (by decide) ?_)|refine eI 3 (aI (by decide) ?_)|refine qi ?_|refine qh ?_|refine qf ?_|refine oJ ?_|refine vO hs (fun _ _ _ _ hs=>?_)|refine xx hs (fun _ _ _ _ hs=>?_)|refine sS hs 0 (fun _ _ hs=>?_)|refine sS hs 1 (fun _ _ hs=>?_)|refine sS hs 2 (fun _ _ hs=>?_)|refine sS hs 3 (fun _ _ hs=>?_)|refine sS hs 4 (fun _ _ hs=>?_)|refine sS hs 5 (fun _ _ hs=>?_)|refine vK tok (hs.get 0 rfl) ?_|refine qP hs 0 rfl (fun _ hs=>?_)|refine vk hs 0 rfl (fun _ hs=>?_)|refine qW hs 0 rfl (by intro h;cases h) (fun _ hs=>?_)|refine vK tok (hs.get 1 rfl) ?_|refine qP hs 1 rfl (fun _ hs=>?_)|refine vk hs 1 rfl (fun _ hs=>?_)|refine qW hs 1 rfl (by intro h;cases h) (fun _ hs=>?_)|refine vK tok (hs.get 2 rfl) ?_|refine qP hs 2 rfl (fun _ hs=>?_)|refine vk hs 2 rfl (fun _ hs=>?_)|refine qW hs 2 rfl (by intro h;cases h) (fun _ hs=>?_)|refine vK tok (hs.get 3 rfl) ?_|refine qP hs 3 rfl (fun _ hs=>?_)|refine vk hs 3 rfl (fun _ hs=>?_)|refine qW hs 3 rfl (by intro h;cases h) (fun _ hs=>?_)|refine vK tok (hs.get 4 rfl) ?_|refine qP hs 4 rfl (fun _ hs=>?_)|refine vk hs 4 rfl (fun _ hs=>?_)|refine qW hs 4 rfl (by intro h;cases h) (fun _ hs=>?_)|refine vK tok (hs.get 5 rfl) ?_|refine qP hs 5 rfl (fun _ hs=>?_)|refine vk hs 5 rfl (fun _ hs=>?_)|refine qW hs 5 rfl (by intro h;cases h) (fun _ hs=>?_)|first|(refine qg (hs.get 1 rfl) ⟨i % L,hmod,hltk, ?_⟩)|(refine Ld_at hltk ?_)|(refine app_hs hs 1 rfl (by decide) (hs.get 0 rfl) rfl rfl (by simp[hsl2]) (by simp only[hsl2];omega) (fun H4 k' _ _ hs=>?_))|refine hK0 _ _ ?_|fail)
    have hs:=hs.tail
    rw[hdiv] at hs
    refine⟨⟨H4,k',i+1⟩,⟨?_,hlt⟩,by dsimp only;omega,Or.inl ⟨⟨rfl,rfl,rfl,congrArg (fun z=>some (sv k' z)) (by rw[hsl];simp),rfl,trivial⟩,rfl⟩⟩
    dsimp only
    rw[hsl,rw',wo]
    exact hs
   ·have hie:i=n:=by simp at hc;omega
    subst hie
    repeat' (first|refine nX ?_|refine nY (fun K0 hK0=>?_)|refine bH ?_|refine bM ?_|refine iS hs ?_|refine rS hs ?_|refine eI _ (aI rfl ?_)|refine qi ?_|refine qh ?_|refine qf ?_|refine oJ ?_|refine nN hs (fun _ _ hs=>?_)|refine nS hs (fun _ _ hs=>?_)|refine sX hs (fun _ hs=>?_)|(refine dI (fun hc=>?_) (fun hc=>?_) <;> try (exfalso;omega))|(refine hK0 _ _ ?_;clear hK0)|fail)
    have e:=h1 s i hsh rfl (by omega) _ q (hs.pick [0] (by decide) rfl)
    rw[show sv q i=sv q (spL s ho i).length by rw[spL_len]] at e
    exact e
end Go.Af.Tryz
namespace Go.Af.Tryz
open Go Go.Proofs Go.Af.Pl Co
open Ne hiding none' bls
open Go.Af.Coll (St)
set_option maxRecDepth 100000
set_option maxHeartbeats 4000000
attribute [local irreducible] awp qo qA qN qI qG isCells qC qw qY ve qM roundEnd xK zN keyK wY zS xA
def fewP (m:Mc) (t:Tk) (sw pr:Int):Prop:=m.sd.length<=10/\m.hs.length<=100/\t.sz.length<=10/\t.ws.length<=10/\(∀ s,qp m.kd m.sd m.ho=some s->s.sw<=sw)/\(chkF t=0->t.pr<=pr/\sltF t<=40)
theorem c12 {H:List Blk} {m:Mc} {t:Tk} {b c e f:Nat} {sw pr:Int} {R:Value->List Blk->Prop} (g:Mr H m b c) (gr:Gr H t.sz e) (hl:t.sz.length<=9223372036854775807) (hw:t.ws.length<=9223372036854775807)
 (h : ∀ H' u,HS H none' [] H' -> (u=true->fewP m t sw pr)->R (.bool u) H'):qo Tryz.prog 12 [mcV m b c,tkV t e f, .int .i64 sw, .int .i64 pr] H R:=by
 obtain ⟨w0,hb0⟩:=g.s
 refine qj tok Tryz.call12 Tryz.func12 rfl Tryz.ntmps12 rfl (by simp) ?_
 refine vO (HS.start H none') (fun H1 b2 e1 l1 hs=>?_)
 refine vO hs (fun H2 b3 e2 l2 hs=>?_)
 refine qZ (fun _ hKs=>hKs _ _ ?_);clear hKs
 clear e1 l1 e2 l2
 repeat' (first|refine nX ?_|refine nY (fun K0 hK0=>?_)|refine bH ?_|refine bM ?_|refine iS hs ?_|refine rS hs ?_|refine eI _ (aI rfl ?_)|refine qi ?_|refine qh ?_|refine qf ?_|refine oJ ?_|refine nN hs (fun _ _ hs=>?_)|refine nS hs (fun _ _ hs=>?_)|refine sX hs (fun _ hs=>?_)|(refine hK0 _ _ ?_;clear hK0)|fail)
 have hb:=zq (qU hs) hb0
 (first | refine Ne.c23 hb (Nat.le_refl _) ?_ | refine (Ne.c23 hb (Nat.le_refl _) ?_).call)
 cases hsh:qp m.kd m.sd m.ho with
 | none =>
   unfold sizeV
   repeat' (first|refine nX ?_|refine nY (fun K0 hK0=>?_)|refine bH ?_|refine bM ?_|refine iS hs ?_|refine rS hs ?_|refine eI _ (aI rfl ?_)|refine qi ?_|refine qh ?_|refine qf ?_|refine oJ ?_|refine nN hs (fun _ _ hs=>?_)|refine nS hs (fun _ _ hs=>?_)|refine sX hs (fun _ hs=>?_)|(refine hK0 _ _ ?_;clear hK0)|fail)
   (first | refine c18 (fun H3 hn=>?_) | refine (c18 (fun H3 hn=>?_)).call)
   have hs:=vP hs hn
   clear hn
   repeat' (first|refine nX ?_|refine nY (fun K0 hK0=>?_)|refine bH ?_|refine bM ?_|refine iS hs ?_|refine rS hs ?_|refine eI _ (aI rfl ?_)|refine qi ?_|refine qh ?_|refine qf ?_|refine oJ ?_|refine nN hs (fun _ _ hs=>?_)|refine nS hs (fun _ _ hs=>?_)|refine sX hs (fun _ hs=>?_)|(refine hK0 _ _ ?_;clear hK0)|fail)
   refine c35L (gr.up (qU hs)) hl hw (fun H4 hn=>?_)
   have hs:=vP hs hn
   clear hn
   unfold fewP at h
   generalize chkF t=ce at h ⊢
   generalize sltF t=sl at h ⊢
   repeat' (first|refine nX ?_|refine nY (fun K0 hK0=>?_)|refine bH ?_|refine bM ?_|refine iS hs ?_|refine rS hs ?_|refine eI _ (aI rfl ?_)|refine qi ?_|refine qh ?_|refine qf ?_|refine oJ ?_|refine nN hs (fun _ _ hs=>?_)|refine nS hs (fun _ _ hs=>?_)|refine sX hs (fun _ hs=>?_)|(refine dI (fun hc=>?_) (fun hc=>?_) <;> try (exfalso;omega))|(refine hK0 _ _ ?_;clear hK0)|fail)
   all_goals (
    refine h _ _ (qU hs) (fun hu=>?_)
    first
    | exact absurd hu (by decide)
    | (have hu' := hu
       first | (have hu' := of_decide_eq_true hu) | skip
       exact⟨by omega,by omega,by omega,by omega,fun s' he=>(by rw[hsh] at he;cases he),fun e=>by omega⟩))
 | some s =>
   unfold sizeV
   repeat' (first|refine nX ?_|refine nY (fun K0 hK0=>?_)|refine bH ?_|refine bM ?_|refine iS hs ?_|refine rS hs ?_|refine eI _ (aI rfl ?_)|refine qi ?_|refine qh ?_|refine qf ?_|refine oJ ?_|refine nN hs (fun _ _ hs=>?_)|refine nS hs (fun _ _ hs=>?_)|refine sX hs (fun _ hs=>?_)|(refine hK0 _ _ ?_;clear hK0)|fail)
   (first | refine c18 (fun H3 hn=>?_) | refine (c18 (fun H3 hn=>?_)).call)
   have hs:=vP hs hn
   clear hn
   repeat' (first|refine nX ?_|refine nY (fun K0 hK0=>?_)|refine bH ?_|refine bM ?_|refine iS hs ?_|refine rS hs ?_|refine eI _ (aI rfl ?_)|refine qi ?_|refine qh ?_|refine qf ?_|refine oJ ?_|refine nN hs (fun _ _ hs=>?_)|refine nS hs (fun _ _ hs=>?_)|refine sX hs (fun _ hs=>?_)|(refine hK0 _ _ ?_;clear hK0)|fail)
   refine c35L (gr.up (qU hs)) hl hw (fun H4 hn=>?_)
   have hs:=vP hs hn
   clear hn
   unfold fewP at h
   generalize chkF t=ce at h ⊢
   generalize sltF t=sl at h ⊢
   repeat' (first|refine nX ?_|refine nY (fun K0 hK0=>?_)|refine bH ?_|refine bM ?_|refine iS hs ?_|refine rS hs ?_|refine eI _ (aI rfl ?_)|refine qi ?_|refine qh ?_|refine qf ?_|refine oJ ?_|refine nN hs (fun _ _ hs=>?_)|refine nS hs (fun _ _ hs=>?_)|refine sX hs (fun _ hs=>?_)|(refine dI (fun hc=>?_) (fun hc=>?_) <;> try (exfalso;omega))|(refine hK0 _ _ ?_;clear hK0)|fail)
   all_goals (
    refine h _ _ (qU hs) (fun hu=>?_)
    first
    | exact absurd hu (by decide)
    | (have hu' := hu
       first | (have hu' := of_decide_eq_true hu) | skip
       exact⟨by omega,by omega,by omega,by omega,fun s' he=>(by rw[hsh] at he;cases he;omega),fun e=>by omega⟩))
theorem c36n {H:List Blk} {R:Value->List Blk->Prop} (h:R (.bool true) H):qo Tryz.prog 36 [.slice none 0 0, .slice none 0 0] H R:=by
 refine qj tok Tryz.call36 Tryz.func36 rfl Tryz.ntmps36 rfl (by simp) ?_
 refine qZ (fun _ hKs=>hKs _ _ ?_);clear hKs
 have hs:=HS.start H none'
 repeat' (first|refine nX ?_|refine nY (fun K0 hK0=>?_)|refine bH ?_|refine bM ?_|refine iS hs ?_|refine rS hs ?_|refine eI _ (aI rfl ?_)|refine qi ?_|refine qh ?_|refine qf ?_|refine oJ ?_|refine nN hs (fun _ _ hs=>?_)|refine nS hs (fun _ _ hs=>?_)|refine sX hs (fun _ hs=>?_)|(refine dI (fun hc=>?_) (fun hc=>?_) <;> try (exfalso;omega))|(refine hK0 _ _ ?_;clear hK0)|fail)
 refine xG (α := Nat) tok (fun i=>i=0) (fun i=>[(0, .slice none 0 0),(1, .slice none 0 0),(5, .int .i64 i)]) (fun _=>H) (fun i=>0)
  0 rfl ⟨⟨_,rfl, .rfl⟩,⟨_,rfl, .rfl⟩,⟨_,rfl, .rfl⟩,trivial⟩ WkH.rfl ?_
 rintro i rfl
 repeat' (first|refine nX ?_|refine nY (fun K0 hK0=>?_)|refine bH ?_|refine bM ?_|refine iS hs ?_|refine rS hs ?_|refine eI _ (aI rfl ?_)|refine qi ?_|refine qh ?_|refine qf ?_|refine oJ ?_|refine nN hs (fun _ _ hs=>?_)|refine nS hs (fun _ _ hs=>?_)|refine sX hs (fun _ hs=>?_)|(refine dI (fun hc=>?_) (fun hc=>?_) <;> try (exfalso;omega))|(refine hK0 _ _ ?_;clear hK0)|fail)
 exact h
end Go.Af.Tryz
