/- A part of the proof. -/
import Derived.Test.YtmnjcogpchodhaaGreatMRF
import Derived.Test.YtmnjcogpchodhaaGreatMHJ
import Derived.Test.YtmnjcogpchodhaaGreatMHR
import Derived.Test.YtmnjcogpchodhaaGreatMV2
import Derived.Test.YtmnjcogpchodhaaGreatMCA
set_option linter.all false
set_option maxHeartbeats 4000000
set_option maxRecDepth 100000
namespace Go.Af.Tryz
open Go Go.Proofs
open Go.Af.Coll (St befF)
attribute [local irreducible] awp qj qJ qL qC qo isCells qx qp qA qw qh roundEnd zG wX keyK vY

theorem c54 {H:List Blk} {a b c d:Int} {R:Value->List Blk->Prop} (h : ∀ H',HS H none' [] H' -> R (stV ⟨a,b,c,0,0,d⟩) H'):qj Tryz.prog 54 [.int .i64 a, .int .i64 b, .int .i64 c, .int .i64 d] H R:=by
 refine qf tok Tryz.call54 Tryz.func54 rfl Tryz.ntmps54 rfl (by simp) ?_;have hs:=HS.start H none'
 repeat' (first|refine nY (fun K0 hK0=>?_)|refine zAw ?_|refine zNw (fun _ _ hs=>?_)|fail)
 change resK T _ _ _ _;refine ve (by rfl) (by rfl) (hs.get 0 rfl) (by rfl) ?_;exact⟨_,rfl,_,rfl,_,rfl,_,rfl,_,rfl,_,rfl,h _ (qc hs)⟩
theorem x54 {H:List Blk} {a b c d:Int} {R:Value->List Blk->Prop} (h:R (stV ⟨a,b,c,0,0,d⟩) H):qJ Tryz.prog 54 [.int .i64 a, .int .i64 b, .int .i64 c, .int .i64 d] H R:=by
 have hl:qj Tryz.prog 54 [.int .i64 a, .int .i64 b, .int .i64 c, .int .i64 d] [] (fun v H=>v=stV ⟨a,b,c,0,0,d⟩/\H = []) :=
  uu (c54 (fun H' _=>⟨[],stV ⟨a,b,c,0,0,d⟩,[],by simp,fun i hi=>by simp at hi,trivial,rfl,VRen.plain rfl,rfl,rfl⟩))
 exact VG hl [] rfl (.cons (.int _ _) (.cons (.int _ _) (.cons (.int _ _) (.cons (.int _ _) .nil)))) trivial rfl h
abbrev tkN (t:Tk):List Value := [.int .i64 t.op, .int .i64 t.pr, .int .i64 t.ro, .int .i64 t.pa, .slice none 0 0, .slice none 0 0]
theorem c16z {H:List Blk} {t:Tk} (h1:t.sz = []) (h2:t.ws = []) {alg:Int} {R:Value->List Blk->Prop} (h0:chkF t=0) (hin:alg∈algS t)
 (hok : ∀ H' k b' c' ys,HS H none' [(true,k, .cells true 6 (stsC ys)),(true,b',rw' t.sz),(true,c', .cells true 1 (bls t.ws))] H' -> ys.Perm (mkF t alg)->ys.Pairwise (fun a b=>befF b a=false)->R (.tuple ⟨[.agg ⟨tkC t b' c' ++ [.int .i64 alg,sv k ys.length]⟩, .int .i64 0]⟩) H') :
 qj Tryz.prog 16 [.agg ⟨tkN t⟩, .int .i64 alg] H R:=by
 have hv:=((HS.start H none').virt (rw' t.sz)).virt (.cells true 1 (bls t.ws));have hl1:t.sz.length=0:=by rw[h1];rfl
 have hl2:t.ws.length=0:=by rw[h2];rfl
 refine acall_seen (Hs:=(H ++ [rw' t.sz]) ++ [.cells true 1 (bls t.ws)]) (args' := [tkV t H.length (H ++ [rw' t.sz]).length, .int .i64 alg]) ?_ ?_ ((WkH.rfl.app _).app _)
 ·refine c16 ⟨_,hv.get 1 rfl⟩ ⟨by simp,_,hv.get 0 rfl⟩ (by omega) (by omega) (fun h=>absurd h0 h) (fun _ h=>absurd hin h) (fun _ _ H' k b' c' ys hn hp hs=>hok H' k b' c' ys ?_ hp hs)
  exact ((hv.call hn rfl).pick [0,1,2] (by decide) rfl)
 ·refine LUp.cons (VUp.agg (LUp.cons VUp.rfl (LUp.cons VUp.rfl (LUp.cons VUp.rfl (LUp.cons VUp.rfl (LUp.cons ?_ (LUp.cons ?_ LUp.nil))))))) (LUp.cons VUp.rfl LUp.nil)
  ·rw[hl1];exact VUp.nil _
  ·rw[hl2];exact VUp.nil _
theorem aggEq48:AggEq Tryz.prog 48 [.i64, .i64, .i64, .i64, .i64, .i64]:=Vm (by kernel_rfl) (by kernel_rfl) (by kernel_rfl) (yO (by kernel_rfl))
theorem c53 {H:List Blk} {t:Tk} (h1:t.sz = []) (h2:t.ws = []) {alg:Int} {L:List St} {kl:Nat} {R:Value->List Blk->Prop} (h0:chkF t=0) (hin:alg∈algS t) (hu : ∀ ys:List St,ys.Perm (mkF t alg)->ys.Pairwise (fun a b=>befF b a=false)->ys=L)
 (hL:L.length<=1000) (hb : ∃ w,bget H kl=some (.cells w 6 (stsC L))) (h : ∀ H',HS H none' [] H' -> R (.bool true) H'):qj Tryz.prog 53 [.agg ⟨tkN t⟩, .int .i64 alg,sv kl L.length] H R:=by
 obtain ⟨wl,hb⟩:=hb;refine qf tok Tryz.call53 Tryz.func53 rfl Tryz.ntmps53 rfl (by simp) ?_;have hs:HS H none' [(false,kl, .cells wl 6 (stsC L))] H:=(HS.start H none').add hb (fun i p hi=>by simp at hi) (fun e=>by cases e)
 repeat' (first|refine nY (fun K0 hK0=>?_)|refine zAw ?_|refine zNw (fun _ _ hs=>?_)|fail)
 refine c16z h1 h2 h0 hin (fun H3 k3 b3 c3 ys hn hp hsr=>?_);have hs:=hs.call hn rfl;clear hn;have he:=hu ys hp hsr;subst he
 repeat' (first|refine nY (fun K0 hK0=>?_)|refine zAw ?_|refine zNw (fun _ _ hs=>?_)|(refine dI (fun hc=>?_) (fun hc=>?_) <;> try (exfalso;omega))|fail)
 refine qE (α := List Blk × Nat) tok (fun z=>HS H none' [(true,_, .cells true 1 (tkC t b3 c3 ++ [.int .i64 alg,sv k3 ys.length])),(true,k3, .cells true 6 (stsC ys)),(false,kl, .cells wl 6 (stsC ys))] z.1/\z.2<=ys.length)
  (fun z=>[(2,sv kl ys.length),(7,pM _),(9, .int .i64 (z.2:Int))]) (fun z=>z.1) (fun z=>ys.length-z.2) ⟨_,0⟩ ⟨hs.pick [0,1,5] (by decide) rfl,Nat.zero_le _⟩ (Or.inl ⟨⟨rfl,rfl,rfl,trivial⟩,rfl⟩) ?_
 clear hs;rintro ⟨H4,i⟩ ⟨hs,hi⟩;dsimp only at hs hi ⊢;by_cases hil:i<ys.length
 ·skip
  repeat' (first|refine nY (fun K0 hK0=>?_)|refine zAw ?_|refine zNw (fun _ _ hs=>?_)|(refine dI (fun hc=>?_) (fun hc=>?_) <;> try (exfalso;omega))|fail)
  refine qm tok mx [0,1,0,7,15,0,0,96,224,511] [false,false,true,false,false,true,true,true,true,false] (.first 0 (.first 1 (.first 2 (.first 3 (.first 4 (.first 5 (.first 6 (.first 7 (.first 8 (.first 9 .done)))))))))) (by kernel_rfl) ?_;refine ql (fun K0 hK0=>?_)
  repeat' (first|refine nY (fun K0 hK0=>?_)|refine zAw ?_|refine zNw (fun _ _ hs=>?_)|(refine dI (fun hc=>?_) (fun hc=>?_) <;> try (exfalso;omega))|fail)
  iterate 3 (
   all_goals try (first | refine And.intro ?_ trivial | refine And.intro ?_ (And.intro ?_ trivial) | refine And.intro ?_ (And.intro ?_ (And.intro ?_ trivial)))
   all_goals try (
    repeat' (first|refine nY (fun K0 hK0=>?_)|refine zAw ?_|refine zNw (fun _ _ hs=>?_)|(refine dI (fun hc=>?_) (fun hc=>?_) <;> try (exfalso;omega))|fail)
    )
   all_goals try (
    refine seg_st (l:=ys) (by omega) ?_
    repeat' (first|refine nY (fun K0 hK0=>?_)|refine zAw ?_|refine zNw (fun _ _ hs=>?_)|(refine dI (fun hc=>?_) (fun hc=>?_) <;> try (exfalso;omega))|fail)
    )
   )
  all_goals (
   refine⟨[.i64, .i64, .i64, .i64, .i64, .i64],aggEq48, ?_⟩;generalize ys[i]! = sx;simp only[intsOf,QD];rw[show decide True=true from rfl]
   repeat' (first|refine nY (fun K0 hK0=>?_)|refine zAw ?_|refine zNw (fun _ _ hs=>?_)|(refine dI (fun hc=>?_) (fun hc=>?_) <;> try (exfalso;omega))|fail)
   exact⟨(H4,i+1),⟨hs,hil⟩,by dsimp only;omega,Or.inl ⟨⟨rfl,rfl,rfl,trivial⟩,rfl⟩⟩)
 ·skip
  have hie:i=ys.length:=by omega
  repeat' (first|refine nY (fun K0 hK0=>?_)|refine zAw ?_|refine zNw (fun _ _ hs=>?_)|(refine dI (fun hc=>?_) (fun hc=>?_) <;> try (exfalso;omega))|fail)
  exact h _ (qc hs)
abbrev tA:Tk:=⟨1,3,1,1,[],[]⟩
abbrev tB:Tk:=⟨4,3,0,1,[],[]⟩
def lA:List St := [⟨0,1,2,0,0,0⟩,⟨1,1,0,0,0,0⟩]
def lB' : List St := [⟨0,0,1,0,0,1⟩,⟨0,1,2,0,0,1⟩,⟨1,0,2,0,0,1⟩]
theorem chA:chkF tA=0:=by decide
theorem chB:chkF tB=0:=by decide
theorem inA:(2:Int)∈algS tA:=by decide
theorem inB:(6:Int)∈algS tB:=by decide
theorem mkfA:mkF tA 2=lA:=by decide +kernel
theorem mkfB:mkF tB 6=lB' := by decide +kernel
theorem unA : ∀ ys:List St,ys.Perm (mkF tA 2)->ys.Pairwise (fun a b=>befF b a=false)->ys=lA:=fun ys hp hs=>make_eq (yz chA) hp (by rw[<- mkfA];exact List.Perm.refl _) hs (by decide)
theorem unB : ∀ ys:List St,ys.Perm (mkF tB 6)->ys.Pairwise (fun a b=>befF b a=false)->ys=lB' := fun ys hp hs=>make_eq (yz chB) hp (by rw[<- mkfB];exact List.Perm.refl _) hs (by decide)
theorem riB:sndF tB lB' = 0/\rgtF tB lB' = true:=by decide +kernel
def trB:Tr := [[[(0,0)]],[[(0,0),(1,0)]],[[(0,0),(1,0),(2,0)]]]
theorem tcB:trcF tB lB' = some trB:=by decide +kernel
theorem oB (k1 k2 k3:Nat):outF tB trB [(k1,[1]),(k2,[2]),(k3,[4])] 1 = [3]/\outF tB trB [(k1,[1]),(k2,[2]),(k3,[4])] 2 = [7]:=⟨rfl,rfl⟩
theorem c15 {H:List Blk} {R:Value->List Blk->Prop} (h : ∀ H',HS H none' [] H' -> R (.bool true) H'):qj Tryz.prog 15 [] H R:=by
 refine qf tok Tryz.call15 Tryz.func15 rfl Tryz.ntmps15 rfl (by simp) ?_;have hs:=HS.start H none'
 repeat' (first|refine nY (fun K0 hK0=>?_)|refine zAw ?_|refine zNw (fun _ _ hs=>?_)|(refine dI (fun hc=>?_) (fun hc=>?_) <;> try (exfalso;omega))|fail)
 refine qm tok mx [0,0,2,6,15,31,63,127,127,383,895,1919,4095,8191,16383] [false,false,false,false,false,false,false,false,true,true,true,true,false,false,false] (.first 0 (.first 1 (.first 2 (.first 3 (.first 4 (.first 5 (.first 6 (.first 7 (.first 8 (.first 9 (.first 10 (.first 11 (.first 12 (.first 13 (.first 14 .done))))))))))))))) (by kernel_rfl) ?_;refine ql (fun K0 hK0=>?_);refine c54 (kNo hs (fun H2 hs=>?_));refine c54 (kNo hs (fun H3 hs=>?_))
 repeat' (first|refine nY (fun K0 hK0=>?_)|refine zAw ?_|refine zNw (fun _ _ hs=>?_)|(refine dI (fun hc=>?_) (fun hc=>?_) <;> try (exfalso;omega))|fail)
 refine c53 (t:=tA) (L:=lA) rfl rfl chA inA unA (by decide) ⟨_,hs.get 0 rfl⟩ (kNo hs (fun H4 hs=>?_))
 repeat' (first|refine nY (fun K0 hK0=>?_)|refine zAw ?_|refine zNw (fun _ _ hs=>?_)|(refine dI (fun hc=>?_) (fun hc=>?_) <;> try (exfalso;omega))|fail)
 refine x54 ?_
 repeat' (first|refine nY (fun K0 hK0=>?_)|refine zAw ?_|refine zNw (fun _ _ hs=>?_)|(refine dI (fun hc=>?_) (fun hc=>?_) <;> try (exfalso;omega))|fail)
 refine x54 ?_
 repeat' (first|refine nY (fun K0 hK0=>?_)|refine zAw ?_|refine zNw (fun _ _ hs=>?_)|(refine dI (fun hc=>?_) (fun hc=>?_) <;> try (exfalso;omega))|refine x54 ?_|refine c53 (t:=tB) (L:=lB') rfl rfl chB inB unB (by decide) ⟨_,hs.get 0 rfl⟩ (kNo hs (fun H5 hs=>?_))|fail)
 refine c16z (t:=tB) rfl rfl chB inB (fun H6 k6 b6 c6 ys hn hp hsr=>?_);have hs:=hs.call hn rfl;clear hn;have he:=unB ys hp hsr;subst he
 repeat' (first|refine nY (fun K0 hK0=>?_)|refine zAw ?_|refine zNw (fun _ _ hs=>?_)|(refine dI (fun hc=>?_) (fun hc=>?_) <;> try (exfalso;omega))|fail)
 refine c26 (t:=tB) (alg:=6) (l:=lB') (b:=b6) (c:=c6) (d:=k6) ⟨_,hs.get 2 rfl⟩ ⟨hs.ne 2 3 rfl rfl (by decide),_,hs.get 3 rfl⟩ ⟨_,hs.get 1 rfl⟩ (by decide) (by decide) (by decide) (kNo hs (fun H7 hs=>?_));rw[riB.1,riB.2,decide_eq_true rfl,Bool.true_and]
 repeat' (first|refine nY (fun K0 hK0=>?_)|refine zAw ?_|refine zNw (fun _ _ hs=>?_)|(refine dI (fun hc=>?_) (fun hc=>?_) <;> try (exfalso;omega))|fail)
 refine c21 (t:=tB) (alg:=6) (l:=lB') (b:=b6) (c:=c6) (d:=k6) (vrows := [(_,[1]),(_,[2]),(_,[4])]) ⟨_,hs.get 6 rfl⟩ ⟨hs.ne 6 7 rfl rfl (by decide),_,hs.get 7 rfl⟩ ⟨_,hs.get 5 rfl⟩ (by decide) (by decide) (by decide) riB.1 ⟨⟨_,hs.get 0 rfl⟩, ?_⟩ rfl ?_ (by decide) (fun e=>?_) (fun H8 oo out tr hn htr hfg hlen hout=>?_)
 ·intro q hq
  simp only[List.mem_cons,List.not_mem_nil,or_false] at hq;rcases hq with rfl | rfl | rfl
  ·exact⟨_,hs.get 3 rfl⟩
  ·exact⟨_,hs.get 2 rfl⟩
  ·exact⟨_,hs.get 1 rfl⟩
 ·intro r q hq
  match r,hq with
  | 0,hq=>cases hq;rfl
  | 1,hq=>cases hq;rfl
  | 2,hq=>cases hq;rfl
  | r+3,hq=>simp at hq
 ·rw[riB.2] at e;cases e
 ·skip
  have hs:=(hs.call hn (by simp[vrL])).left;clear hn;rw[tcB] at htr;cases htr
  obtain ⟨⟨k0,l0⟩,⟨k1,l1⟩,⟨k2,l2⟩,rfl⟩ : ∃ a b c,out = [a,b,c]:=by
   match out,hlen with
   | [a,b,c],_=>exact⟨a,b,c,rfl⟩
  have h1:=hout 1 (k1,l1) rfl;have h2:=hout 2 (k2,l2) rfl;rw[show ((1:Nat):Int)=1 from rfl,(oB _ _ _).1] at h1;rw[show ((2:Nat):Int)=2 from rfl,(oB _ _ _).2] at h2;dsimp only at h1 h2;subst h1;subst h2;have hs:=hs.pick [0,1,2,3] (by decide) rfl (L' := [(true,oo, .cells true 1 [sv k0 l0.length,sv k1 1,sv k2 1]),(true,k0, .cells true 2 (vaC l0)),(true,k1, .cells true 2 [.int .u64 3, .int .i64 0]),(true,k2, .cells true 2 [.int .u64 7, .int .i64 0])]);rw[show [(k0,l0),(k1,[(3:Int)]),(k2,[(7:Int)])].length=3 from rfl]
  repeat' (first|refine nY (fun K0 hK0=>?_)|refine zAw ?_|refine zNw (fun _ _ hs=>?_)|(refine dI (fun hc=>?_) (fun hc=>?_) <;> try (exfalso;omega))|fail)
  exact h _ (qc hs)
theorem VL (H:List Blk) {R:Value->List Blk->Prop} (h:R (.bool true) H):qj Tryz.prog 15 [] H R:=by
 have hl:qj Tryz.prog 15 [] [] (fun v H=>v = .bool true/\H = []) :=
  uu (c15 (fun H' _=>⟨[], .bool true,[],by simp,fun i hi=>by simp at hi,trivial,rfl,VRen.plain rfl,rfl,rfl⟩))
 exact (VG hl [] rfl .nil trivial rfl h).call
end Go.Af.Tryz
