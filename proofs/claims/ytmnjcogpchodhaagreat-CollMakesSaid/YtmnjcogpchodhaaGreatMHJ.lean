/- A part of the proof. -/
import Derived.Test.YtmnjcogpchodhaaGreatMHH
import Derived.Test.YtmnjcogpchodhaaGreatMHI
import Derived.Test.YtmnjcogpchodhaaGreatMGT
import Derived.Test.YtmnjcogpchodhaaGreatMCA
set_option linter.all false
set_option maxHeartbeats 4000000
set_option maxRecDepth 100000
namespace Go.Af.Tryz
open Go Go.Proofs Tryz
open Go.Af.Coll (St befF)
attribute [local irreducible] awp qj qI qK qE qm isCells ql qi qB qx qh roundEnd zG wZ keyK wE
variable {H:List Blk}
variable {R:Value->List Blk->Prop}

theorem yP0 {P:Program} {T' : TT} {t:TypeId} {xo yo:Operand} {i:TI} {e:TypeId} {b o:Nat} {K:Bool->Prop} (ht:tget T' t=some i) (hk:i.kind = .slice e) (h:K true/\K false):aeq P T' H t xo yo (.slice (some ⟨b,o,none⟩) 0 0) (.slice none 0 0) K:=by
 unfold aeq;simp only[ht,hk];exact h
theorem yO0 {P:Program} {T' : TT} {t:TypeId} {xo yo:Operand} {i:TI} {e:TypeId} {b o l c z:Nat} {wr:Bool} {vs:List Value} {K:Bool->Prop} (ht:tget T' t=some i) (hk:i.kind = .slice e) (hb:bget H b=some (.cells wr z vs)) (hl:0<l) (k:K false):aeq P T' H t xo yo (.slice (some ⟨b,o,none⟩) l c) (.slice none 0 0) K:=by
 obtain ⟨l,rfl⟩ : ∃ k,l=k+1:=⟨l-1,by omega⟩;unfold aeq;simp only[ht,hk,hb];exact k
theorem yN0 {size bytes b j c2 z:Nat} {wr:Bool} {us:List Value} {K:Value->List Blk->Prop} (hsz:0<size) (hj:bget H j=some (.cells wr z us)) (h:K (.slice (some ⟨b,0,none⟩) 0 0) H) :
 qB H size bytes (.slice (some ⟨b,0,none⟩) 0 0) (.slice (some ⟨j,0,none⟩) 0 c2) K:=by
 unfold qB;refine⟨hsz, ?_⟩;simp only[Vq,hj];refine⟨.inl (by simp),[],by simp,by simp, .inl ⟨by simp,Nat.le_refl _,h⟩⟩
section
attribute [local irreducible] aeq
theorem c57 {b:Nat} {w:Bool} {xs:List Int} (hb:bget H b=some (.cells w 1 (ints xs))) (hl:xs.length<=1000) (h : ∀ H' k,HS H none' [(true,k, .cells true 1 (ints xs))] H' -> R (sv k xs.length) H'):qj prog 57 [sv b xs.length] H R:=by
 refine Ql ?_;refine avN call57 func57 ntmps57 ?_;have hs:=HS.start H none';have hln:(ints xs).length=xs.length:=by simp[ints]
 cases xs with
 | nil =>
   repeat' first|refine sX hs (fun _ hs=>?_)|refine zTw ?_|intro _ _ hs|intro K0 hK0|intro hc|refine dI ?_ ?_|(refine hK0 _ _ ?_;clear hK0)
   refine yP0 (P:=prog) (T' := T) (t:=22) (by rfl) (by rfl) ⟨?_, ?_⟩
   ·skip
    repeat' first|refine sX hs (fun _ hs=>?_)|refine zTw ?_|intro _ _ hs|intro K0 hK0|intro hc|refine dI ?_ ?_|(refine hK0 _ _ ?_;clear hK0)
    exact⟨sv H.length 0,H ++ [.cells true 1 (ints [])], .inl (.nil _),WkH.rfl.app _,h _ _ (hs.virt _)⟩
   ·skip
    repeat' first|refine sX hs (fun _ hs=>?_)|refine zTw ?_|intro _ _ hs|intro K0 hK0|intro hc|refine dI ?_ ?_|(refine hK0 _ _ ?_;clear hK0)
    refine yN0 (by decide) (vz (qc hs) hb) ?_
    repeat' first|refine sX hs (fun _ hs=>?_)|refine zTw ?_|intro _ _ hs|intro K0 hK0|intro hc|refine dI ?_ ?_|(refine hK0 _ _ ?_;clear hK0)
    exact⟨_,_, .rfl, .rfl,h _ _ hs⟩
 | cons x r =>
   repeat' first|refine sX hs (fun _ hs=>?_)|refine zTw ?_|intro _ _ hs|intro K0 hK0|intro hc|refine dI ?_ ?_|(refine hK0 _ _ ?_;clear hK0)
   refine yO0 (P:=prog) (T' := T) (t:=22) (by rfl) (by rfl) hb (by simp) ?_
   repeat' first|refine sX hs (fun _ hs=>?_)|refine zTw ?_|intro _ _ hs|intro K0 hK0|intro hc|refine dI ?_ ?_|(refine hK0 _ _ ?_;clear hK0)
   refine XN hs 0 (m:=(x::r).length) (n:=0) (us:=ints (x::r)) rfl (by decide) (vz (qc hs) hb) (by simp) (by rw[hln,Nat.mul_one]) (by simp[ints,vK]) (by simp) (by show (_+_)*(8+1)<=_;omega) (fun H4 k' _ _ hs=>?_);rw[Nat.zero_add]
   repeat' first|refine sX hs (fun _ hs=>?_)|refine zTw ?_|intro _ _ hs|intro K0 hK0|intro hc|refine dI ?_ ?_|(refine hK0 _ _ ?_;clear hK0)
   exact⟨_,_, .rfl, .rfl,h _ k' (pkH hs [0])⟩
theorem c58 {b:Nat} {w:Bool} {xs:List Bool} (hb:bget H b=some (.cells w 1 (bls xs))) (hl:xs.length<=1000) (h : ∀ H' k,HS H none' [(true,k, .cells true 1 (bls xs))] H' -> R (sv k xs.length) H'):qj prog 58 [sv b xs.length] H R:=by
 refine Ql ?_;refine avN call58 func58 ntmps58 ?_;have hs:=HS.start H none';have hln:(bls xs).length=xs.length:=by simp[bls]
 cases xs with
 | nil =>
   repeat' first|refine sX hs (fun _ hs=>?_)|refine zTw ?_|intro _ _ hs|intro K0 hK0|intro hc|refine dI ?_ ?_|(refine hK0 _ _ ?_;clear hK0)
   refine yP0 (P:=prog) (T' := T) (t:=23) (by rfl) (by rfl) ⟨?_, ?_⟩
   ·skip
    repeat' first|refine sX hs (fun _ hs=>?_)|refine zTw ?_|intro _ _ hs|intro K0 hK0|intro hc|refine dI ?_ ?_|(refine hK0 _ _ ?_;clear hK0)
    exact⟨sv H.length 0,H ++ [.cells true 1 (bls [])], .inl (.nil _),WkH.rfl.app _,h _ _ (hs.virt _)⟩
   ·skip
    repeat' first|refine sX hs (fun _ hs=>?_)|refine zTw ?_|intro _ _ hs|intro K0 hK0|intro hc|refine dI ?_ ?_|(refine hK0 _ _ ?_;clear hK0)
    refine yN0 (by decide) (vz (qc hs) hb) ?_
    repeat' first|refine sX hs (fun _ hs=>?_)|refine zTw ?_|intro _ _ hs|intro K0 hK0|intro hc|refine dI ?_ ?_|(refine hK0 _ _ ?_;clear hK0)
    exact⟨_,_, .rfl, .rfl,h _ _ hs⟩
 | cons x r =>
   repeat' first|refine sX hs (fun _ hs=>?_)|refine zTw ?_|intro _ _ hs|intro K0 hK0|intro hc|refine dI ?_ ?_|(refine hK0 _ _ ?_;clear hK0)
   refine yO0 (P:=prog) (T' := T) (t:=23) (by rfl) (by rfl) hb (by simp) ?_
   repeat' first|refine sX hs (fun _ hs=>?_)|refine zTw ?_|intro _ _ hs|intro K0 hK0|intro hc|refine dI ?_ ?_|(refine hK0 _ _ ?_;clear hK0)
   refine XN hs 0 (m:=(x::r).length) (n:=0) (us:=bls (x::r)) rfl (by decide) (vz (qc hs) hb) (by simp) (by rw[hln,Nat.mul_one]) (by simp[bls,vK]) (by simp) (by show (_+_)*(1+1)<=_;omega) (fun H4 k' _ _ hs=>?_);rw[Nat.zero_add]
   repeat' first|refine sX hs (fun _ hs=>?_)|refine zTw ?_|intro _ _ hs|intro K0 hK0|intro hc|refine dI ?_ ?_|(refine hK0 _ _ ?_;clear hK0)
   exact⟨_,_, .rfl, .rfl,h _ k' (pkH hs [0])⟩
end
abbrev scZ:List Value := [.int .i64 0, .int .i64 0, .int .i64 0, .int .i64 0, .slice none 0 0, .slice none 0 0, .int .i64 0, .slice none 0 0]
def mkF (t:Tk) (a:Int):List St:=stsF 0 (vJ t a)
theorem qy0 {t:Tk} {a:Int} (h0:chkF t=0) (h:a∈algS t):a∈algK t.op:=by
 unfold algS at h;rw[if_pos h0] at h;have hp:=(XQ (Xi h0).op (powB t.pr)).1;exact (List.mem_filter.1 (hp.mem_iff.2 h)).1
theorem qx0 (t:Tk) (h0:chkF t=0):(algS t).length<=4:=by
 unfold algS;rw[if_pos h0];exact (qw0 (Xi h0).op _).1
theorem uj0 {r:Int} {ms:List Msg} {i:Nat} (h:i<ms.length):stRd r ms=stRd r (ms.take i)++(stM r ms[i]! ++ stRd r (ms.drop (i+1))):=by
 conv=>lhs;rw[<- List.take_append_drop i ms,List.drop_eq_getElem_cons h]
 rw[getElem!_pos ms i h];unfold stRd;rw[List.flatMap_append,List.flatMap_cons]
theorem vx0 {r:Int} {ms:List Msg} {i:Nat} (h:i<ms.length):stRd r (ms.take (i+1))=stRd r (ms.take i)++stM r ms[i]! := by
 rw[List.take_succ_eq_append_getElem h,getElem!_pos ms i h];unfold stRd;rw[List.flatMap_append,List.flatMap_cons,List.flatMap_nil,List.append_nil]
structure MkS where
 H:List Blk
 k:Nat
 S:List St
 i:Nat
def MkI (t:Tk) (b' c' : Nat) (alg:Int) (lr sb tb ks:Nat) (H14:List Blk) (L:Blk) (ps:List (List Msg)) (oo:Nat->Prop) (HH:List Blk):Prop :=
 ∃ kk,(∀ q,oo q↔q=lr\/q=sb\/q=tb\/q=kk)/\bget HH lr=some L/\bget HH sb=some (.cells true 1 (tkC t b' c' ++ [.int .i64 alg,sv kk (stsF 0 ps).length]))/\bget HH tb=some (.cells true 1 [.int .i64 (ps.length:Int)]) /\
   bget HH kk=some (.cells true 6 (stsC (stsF 0 ps)))/\kk≠lr/\kk≠sb/\kk≠tb/\H14.length<=HH.length/\(kk=ks\/H14.length<=kk)/\∀ q,q<H14.length->q≠lr->q≠sb->q≠tb->q≠ks->bget HH q=bget H14 q
theorem c16 {t:Tk} {b c:Nat} {alg:Int} (g:Gr H t.sz b) (gw:Gw H t.ws b c) (hl:t.sz.length<=1000) (hw:t.ws.length<=1000)
 (hbad:chkF t≠0->∀ H',HS H none' [] H' -> R (.tuple ⟨[.agg ⟨scZ⟩, .int .i64 (chkF t)]⟩) H')
 (hno:chkF t=0->alg ∉ algS t->∀ H',HS H none' [] H' -> R (.tuple ⟨[.agg ⟨scZ⟩, .int .i64 4]⟩) H')
 (hok:chkF t=0->alg∈algS t->∀ H' k b' c' ys,HS H none' [(true,k, .cells true 6 (stsC ys)),(true,b',rw' t.sz),(true,c', .cells true 1 (bls t.ws))] H' -> ys.Perm (mkF t alg)->ys.Pairwise (fun a b=>befF b a=false)->R (.tuple ⟨[.agg ⟨tkC t b' c' ++ [.int .i64 alg,sv k ys.length]⟩, .int .i64 0]⟩) H') :
 qj prog 16 [tkV t b c, .int .i64 alg] H R:=by
 obtain ⟨wb,hb⟩:=g.s;obtain ⟨wc,hc⟩:=gw.s;refine uZ tok call16 func16 rfl ntmps16 rfl (by simp) ?_;have hs:=HS.start H none';refine ve tok ?_;refine qo hs (fun H1 xb e1 l1 hs=>?_);refine qo hs (fun H2 rb e2 l2 hs=>?_)
 repeat' first|refine sX hs (fun _ hs=>?_)|refine zRw ?_|intro _ _ hs|intro K0 hK0|(refine hK0 _ _ ?_;clear hK0)
 clear e1 l1 e2 l2;refine ve tok ?_
 repeat' first|refine sX hs (fun _ hs=>?_)|refine zRw ?_|intro _ _ hs|intro K0 hK0|(refine hK0 _ _ ?_;clear hK0)
 refine c41 (g.up (qc hs)) (by omega) (by omega) (fun H3 ka hn=>?_);have hs:=hs.call hn rfl;clear hn;by_cases h0:chkF t=0
 ·have hal:=qx0 t h0
  rw[h0]
  repeat' first|refine sX hs (fun _ hs=>?_)|refine zTw ?_|intro _ _ hs|intro K0 hK0|intro hc|refine dI ?_ ?_|(refine hK0 _ _ ?_;clear hK0)
  refine ve tok ?_
  repeat' first|refine sX hs (fun _ hs=>?_)|refine zTw ?_|intro _ _ hs|intro K0 hK0|intro hc|refine dI ?_ ?_|(refine hK0 _ _ ?_;clear hK0)
  refine c56 (hs.get 0 rfl) (by omega) ?_
  repeat' first|refine sX hs (fun _ hs=>?_)|refine zRw ?_|intro _ _ hs|intro K0 hK0|(refine hK0 _ _ ?_;clear hK0)
  by_cases hin:alg∈algS t
  ·rw[decide_eq_true hin]
   repeat' first|refine sX hs (fun _ hs=>?_)|refine zTw ?_|intro _ _ hs|intro K0 hK0|intro hc|refine dI ?_ ?_|(refine hK0 _ _ ?_;clear hK0)
   have kt:=Xi h0;have hpr:=kt.pr
   refine QP (α := List Blk × Nat × Nat) (fun z=>HS H none' [(true,z.2.2, .cells true 1 (bls t.ws)),(true,z.2.1,rw' t.sz),(true,rb, .cells true 1 scZ),(true,xb, .cells true 1 (tkC t z.2.1 z.2.2))] z.1)
    (fun z=>[(1, .int .i64 alg),(2,pM xb),(4,pM rb),(5, .int .i64 0)]) (fun z=>z.1) (vg tok _ ?_) ?_
   ·refine qp tok mx [0,1,3,7,0,16,48,127,127,383,1023,2047,4095,8191] [false,false,false,false,true,true,true,false,false,false,false,false,false,false] (.first 0 (.first 1 (.first 2 (.first 4 (.first 5 (.alt 3 (.first 6 (.first 8 (.first 9 (.first 7 (.first 10 (.first 11 (.first 12 (.first 13 .done)))))))) (.alt 6 (.first 3 (.first 8 (.first 9 (.first 7 (.first 10 (.first 11 (.first 12 (.first 13 .done)))))))) .no))))))) (by kernel_rfl) ?_
    refine qw (fun K0 hK0=>?_)
    repeat' first|refine sX hs (fun _ hs=>?_)|refine zRw ?_|intro _ _ hs|intro K0 hK0|(refine hK0 _ _ ?_;clear hK0)
    iterate 4 (
     all_goals try (first | refine And.intro ?_ trivial | refine And.intro ?_ (And.intro ?_ trivial) | refine And.intro ?_ (And.intro ?_ (And.intro ?_ trivial)))
     all_goals try (
      repeat' first|refine sX hs (fun _ hs=>?_)|refine zRw ?_|intro _ _ hs|intro K0 hK0|(refine hK0 _ _ ?_;clear hK0)
      )
     all_goals try (
      refine c57 (vz (qc hs) hb) hl (fun H4 b' hn=>?_);have hs:=hs.call hn rfl;clear hn
      repeat' first|refine sX hs (fun _ hs=>?_)|refine zRw ?_|intro _ _ hs|intro K0 hK0|(refine hK0 _ _ ?_;clear hK0)
      )
     all_goals try (
      refine c58 (vz (qc hs) hc) hw (fun H5 c' hn=>?_);have hs:=hs.call hn rfl;clear hn
      repeat' first|refine sX hs (fun _ hs=>?_)|refine zRw ?_|intro _ _ hs|intro K0 hK0|(refine hK0 _ _ ?_;clear hK0)
      )
     )
    all_goals exact⟨(_,_,_),pkH hs [0,1,3,4],Or.inl ⟨⟨rfl,rfl,rfl,rfl,trivial⟩,rfl⟩⟩
   ·clear hs
    rintro ⟨H6,b',c'⟩ hs;dsimp only at hs ⊢;refine ve tok ?_
    repeat' first|refine sX hs (fun _ hs=>?_)|refine zRw ?_|intro _ _ hs|intro K0 hK0|(refine hK0 _ _ ?_;clear hK0)
    refine ve tok ?_
    repeat' first|refine sX hs (fun _ hs=>?_)|refine zRw ?_|intro _ _ hs|intro K0 hK0|(refine hK0 _ _ ?_;clear hK0)
    rename_i _ sb _ _ _ _ tb _ _ H10;have hs:=pkH hs [0,1,2,3,4,5] (L' := [(true,tb, .cells true 1 [.int .i64 0]),(true,sb, .cells true 1 (tkC t b' c' ++ [.int .i64 alg, .slice none 0 0])),(true,c', .cells true 1 (bls t.ws)),(true,b',rw' t.sz),(true,rb, .cells true 1 scZ),(true,xb, .cells true 1 (tkC t b' c'))])
    have hh:WkH H10 ((H10 ++ [Blk.cells true 6 []]).set sb (Blk.cells true 1 (tkC t b' c' ++ [.int .i64 alg,sv H10.length 0]))):=WkH.set (WkH.rfl.app [Blk.cells true 6 []]) (hs.get 1 rfl) (vs' := tkC t b' c' ++ [.int .i64 alg,sv H10.length 0]) rfl (fun i v v' h1 h2=>by
     rcases i with _ | _ | _ | _ | _ | _ | _ | _ | i
     all_goals first
      | (cases h1;cases h2;exact .rfl)
      | (cases h1;cases h2;exact .nil _)
      | (simp at h1))
    have hs:=pkH ((hs.virt (.cells true 6 [])).vset 2 rfl (B' := .cells true 1 (tkC t b' c' ++ [.int .i64 alg,sv H10.length 0]))) [1,2,0,3,4,5,6] (L' := [(true,tb, .cells true 1 [.int .i64 0]),(true,sb, .cells true 1 (tkC t b' c' ++ [.int .i64 alg,sv H10.length 0])),(true,H10.length, .cells true 6 []),(true,c', .cells true 1 (bls t.ws)),(true,b',rw' t.sz),(true,rb, .cells true 1 scZ),(true,xb, .cells true 1 (tkC t b' c'))]);refine Vo (S := [(1, .int .i64 alg),(2,pM xb),(4,pM rb),(5, .int .i64 0),(8,pM sb),(9,pM tb)]) ⟨⟨_,rfl, .rfl⟩,⟨_,rfl, .rfl⟩,⟨_,rfl, .rfl⟩,⟨_,rfl, .rfl⟩,⟨_,rfl, .rfl⟩,⟨_,rfl, .rfl⟩,trivial⟩ hh ?_;clear hh;generalize (H10 ++ [Blk.cells true 6 []]).set sb (.cells true 1 (tkC t b' c' ++ [.int .i64 alg,sv H10.length 0]))=H11 at hs ⊢;generalize H10.length=ks at hs;have ltb:=hs.lt 0 rfl;have lsb:=hs.lt 1 rfl;have lks:=hs.lt 2 rfl;have hok:=hok h0 hin;clear hbad hno;refine YG ?_
    refine QP (α := List Blk × Value) (fun z=>HS H none' [(true,tb, .cells true 1 [.int .i64 0]),(true,sb, .cells true 1 (tkC t b' c' ++ [.int .i64 alg,sv ks 0])),(true,ks, .cells true 6 []),(true,c', .cells true 1 (bls t.ws)),(true,b',rw' t.sz),(true,rb, .cells true 1 scZ),(true,xb, .cells true 1 (tkC t b' c'))] z.1/\ItV (DN H11.length b' c') z.1 z.2 (vJ t alg)/\H11.length<=z.1.length)
     (fun z=>[(4,pM rb),(8,pM sb),(9,pM tb),(53,z.2)]) (fun z=>z.1) (vg tok _ ?_) ?_
    ·refine qp tok mx [0,0,2,7,0,31,0,127] [false,false,false,false,false,false,true,false] (.first 1 (.first 4 (.alt 0 (.first 2 (.first 3 (.first 5 (.first 6 (.first 7 .done))))) (.alt 2 (.alt 0 (.first 3 (.first 5 (.first 6 (.first 7 .done)))) (.alt 6 (.first 0 (.first 3 (.first 5 (.first 7 .done)))) .no)) (.alt 6 (.alt 0 (.first 2 (.first 3 (.first 5 (.first 7 .done)))) (.alt 2 (.first 0 (.first 3 (.first 5 (.first 7 .done)))) .no)) .no))))) (by kernel_rfl) ?_
     refine qw (fun K0 hK0=>?_)
     repeat' first|refine sX hs (fun _ hs=>?_)|refine zRw ?_|intro _ _ hs|intro K0 hK0|(refine hK0 _ _ ?_;clear hK0)
     iterate 4 (
      all_goals try (first | refine And.intro ?_ trivial | refine And.intro ?_ (And.intro ?_ trivial) | refine And.intro ?_ (And.intro ?_ (And.intro ?_ trivial)))
      all_goals try (
       repeat' first|refine sX hs (fun _ hs=>?_)|refine zRw ?_|intro _ _ hs|intro K0 hK0|(refine hK0 _ _ ?_;clear hK0)
       )
      )
     all_goals (
      refine c59v (N0:=H11.length) kt (Nat.le_refl _) (qy0 h0 hin) (fun H12 m mb j jj M S v hn hj hall hjj hall2 hav=>?_);have hs:=hs.call hn rfl;have hle:=hn.le;clear hn
      obtain ⟨gv,cv,hve⟩ : ∃ gv cv,v=cloV gv cv:=by
       obtain ⟨g,cs,e,_⟩:=hav;exact⟨g,cs,e⟩
      subst hve
      repeat' first|refine sX hs (fun _ hs=>?_)|refine zRw ?_|intro _ _ hs|intro K0 hK0|(refine hK0 _ _ ?_;clear hK0)
      refine uO0 (hs.get 0 rfl) hj hall ?_
      repeat' first|refine sX hs (fun _ hs=>?_)|refine zRw ?_|intro _ _ hs|intro K0 hK0|(refine hK0 _ _ ?_;clear hK0)
      refine uO0 (hs.get 1 rfl) hjj hall2 ?_
      repeat' first|refine sX hs (fun _ hs=>?_)|refine zRw ?_|intro _ _ hs|intro K0 hK0|(refine hK0 _ _ ?_;clear hK0)
      refine hav.clo (Nat.le_refl _) (fun _ _ _=>rfl) ⟨_,hs.get 6 rfl⟩ ⟨neH hs 6 5,_,hs.get 5 rfl⟩ (fun v' H13 hn hit=>?_);have hs:=qL hs hn;have hle2:=hn.le;clear hn
      repeat' first|refine sX hs (fun _ hs=>?_)|refine zRw ?_|intro _ _ hs|intro K0 hK0|(refine hK0 _ _ ?_;clear hK0)
      exact⟨(H13,v'),⟨pkH hs [2,3,4,5,6,7,8],hit,by dsimp only;omega⟩,Or.inl ⟨⟨rfl,rfl,rfl,rfl,trivial⟩,rfl⟩⟩
      )
    ·clear hs
     rintro ⟨H13,itv⟩ ⟨hs,hit,hle⟩;dsimp only at hs hit hle ⊢;have hro:=Ud kt (qy0 h0 hin);obtain ⟨gi,ci,hv,hgo⟩:=hit;subst hv;have n1:tb≠sb:=neH hs 0 1;have n2:tb≠ks:=neH hs 0 2;have n3:sb≠ks:=neH hs 1 2;have nb:b' ≠ tb/\b' ≠ sb/\b' ≠ ks:=⟨neH hs 4 0,neH hs 4 1,neH hs 4 2⟩;have nc:c' ≠ tb/\c' ≠ sb/\c' ≠ ks:=⟨neH hs 3 0,neH hs 3 1,neH hs 3 2⟩;have ftb:=hs.get 0 rfl;have fsb:=hs.get 1 rfl;have fks:=hs.get 2 rfl;have hs0:=hs;clear hs;have hs:=HS.start H13 none';refine vg tok _ ?_
     repeat' first|refine sX hs (fun _ hs=>?_)|refine zRw ?_|intro _ _ hs|intro K0 hK0|(refine hK0 _ _ ?_;clear hK0)
     rename_i lr H14;have hlr:H13.length<=lr:=((hs.g (i:=0) rfl).2 rfl).elim (fun h=>h.elim) id;have hlt14:=hs.lt 0 rfl;have g0:=hs.get 0 rfl;have hle14:=hs.le;have same14 : ∀ q,q<H13.length->bget H14 q=bget H13 q:=fun q hq=>hs.u.2 q hq id
     clear hs;generalize hL:Blk.loop LoopState.ready none _ _ _ _ _=L at g0
     refine hgo (H2:=H14) (l:=lr) (o:=fun q=>q=lr\/q=sb\/q=tb\/q=ks) (I:=MkI t b' c' alg lr sb tb ks H14 L)
      hle14 (fun q hq hl=>⟨fun hh=>?_,same14 q hl⟩) ⟨?_, ?_, ?_⟩ ⟨ks,fun _=>Iff.rfl,g0,(same14 sb (by omega)).trans fsb,(same14 tb (by omega)).trans ftb,(same14 ks (by omega)).trans fks,by omega,n3.symm,n2.symm,Nat.le_refl _, .inl rfl,fun _ _ _ _ _ _=>rfl⟩ ?_
     ·rcases hq with hq | rfl | rfl
      ·rcases hh with rfl | rfl | rfl | rfl <;> omega
      ·rcases hh with h1 | h1 | h1 | h1
       ·omega
       ·exact nb.2.1 h1
       ·exact nb.1 h1
       ·exact nb.2.2 h1
      ·rcases hh with h1 | h1 | h1 | h1
       ·omega
       ·exact nc.2.1 h1
       ·exact nc.1 h1
       ·exact nc.2.2 h1
     ·rintro p oo HH ⟨kk,q1,q2,q3,q4,q5,q6,q7,q8,q9,q10,q11⟩ q hq
      rcases (q1 q).1 hq with rfl | rfl | rfl | rfl
      ·exact qJ q2
      ·exact qJ q3
      ·exact qJ q4
      ·exact qJ q5
     ·rintro p oo HH HH' ⟨kk,q1,q2,q3,q4,q5,q6,q7,q8,q9,q10,q11⟩ hle hsame
      exact⟨kk,q1,(hsame _ (.inr ((q1 _).2 (.inl rfl)))).trans q2,(hsame _ (.inr ((q1 _).2 (.inr (.inl rfl))))).trans q3,(hsame _ (.inr ((q1 _).2 (.inr (.inr (.inl rfl)))))).trans q4,(hsame _ (.inr ((q1 _).2 (.inr (.inr (.inr rfl)))))).trans q5,q6,q7,q8,by omega,q10,fun q h1 h2 h3 h4 h5=>(hsame q (.inl h1)).trans (q11 q h1 h2 h3 h4 h5)⟩
     ·rintro p ms oo HH km hp hN ⟨kk,q1,q2,q3,q4,q5,q6,q7,q8,q9,q10,q11⟩ hO
      subst hL;obtain ⟨E,w,a1,a2,a3,a4⟩:=hO;have km1:km≠lr/\km≠sb/\km≠tb/\km≠kk:=⟨fun e=>a2 ((q1 _).2 (.inl e)),fun e=>a2 ((q1 _).2 (.inr (.inl e))),fun e=>a2 ((q1 _).2 (.inr (.inr (.inl e)))),fun e=>a2 ((q1 _).2 (.inr (.inr (.inr e))))⟩;have hmem:ms∈vJ t alg:=hp.subset (List.mem_append_right _ (List.mem_singleton.2 rfl));have hmok:=hro.ok ms hmem;have hmle:=hro.le ms hmem;have hEl:E.length=ms.length:=by rw[<- a3,List.length_map]
      have hpl:p.length<=200:=by
       have h1:=hp.length_le;have h2:=hro.len;rw[List.length_append,List.length_singleton] at h1;omega
      have hsl:(stsF 0 p++stRd (p.length:Int) ms).length<=2000000000:=by
       obtain ⟨q,hq⟩:=hp;have h1:=QR 0 hro.le hro.ok;have h2:=hro.len;rw[<- hq,xg,List.length_append,WI,Nat.zero_add] at h1;have h3:(vJ t alg).length*4194304<=200*4194304:=Nat.mul_le_mul_right _ h2;rw[<- hq] at h3;omega
      refine xE tok q2 ?_;refine yV q2 (fun H8 d1 d2 d3=>?_)
      have hs:HS H8 (fun q=>q=sb\/q=tb\/q=kk) [(true,sb, .cells true 1 (tkC t b' c' ++ [.int .i64 alg,sv kk (stsF 0 p).length])),(true,tb, .cells true 1 [.int .i64 (p.length:Int)]),(true,kk, .cells true 6 (stsC (stsF 0 p)))] H8:=by
       have r1:=(d3 sb (by omega)).trans q3;have r2:=(d3 tb (by omega)).trans q4;have r3:=(d3 kk q6).trans q5
       exact (((HS.start H8 _).add (c:=true) r3 (fun i p hi=>by simp at hi) (fun _=>.inl (.inr (.inr rfl)))).add (c:=true) r2 (fun i p hi=>by
        match i,hi with
        | 0,hi=>cases hi;exact q8) (fun _=>.inl (.inr (.inl rfl)))).add (c:=true) r1 (fun i p hi=>by
        match i,hi with
        | 0,hi=>cases hi;exact n1
        | 1,hi=>cases hi;exact q7) (fun _=>.inl (.inl rfl))
      have hkm:bget H8 km=some (.cells w 5 (mgsC E)):=(d3 km km1.1).trans a1
      repeat' first|refine sX hs (fun _ hs=>?_)|refine zRw ?_|intro _ _ hs|intro K0 hK0|(refine hK0 _ _ ?_;clear hK0)
      refine qf (α := MkS) tok (fun z=>HS H8 (fun q=>q=sb\/q=tb\/q=kk) [(true,sb, .cells true 1 (tkC t b' c' ++ [.int .i64 alg,sv z.k z.S.length])),(true,tb, .cells true 1 [.int .i64 (p.length:Int)]),(true,z.k, .cells true 6 (stsC z.S))] z.H/\z.S=stsF 0 p++stRd (p.length:Int) (ms.take z.i)/\z.i<=ms.length)
       (fun z=>[(4,pM rb),(8,pM sb),(9,pM tb),(53,cloV gi ci),(55,sv km ms.length),(56, .int .i64 (ms.length:Int)),(57, .int .i64 (z.i:Int))]) (fun z=>z.H) (fun z=>ms.length-z.i)
       ⟨H8,kk,stsF 0 p,0⟩ ⟨hs,by simp[stRd],Nat.zero_le _⟩ (Or.inl ⟨⟨rfl,rfl,rfl,rfl,rfl,rfl,rfl,trivial⟩,rfl⟩) ?_
      clear hs;rintro ⟨H9,k9,S9,i⟩ ⟨hs,hS,hi⟩;dsimp only at hs hS hi ⊢;by_cases him:(i:Int)<(ms.length:Int)
      ·have him2:i<ms.length:=by omega
       have hiE:i<E.length:=by omega
       have hEi:E[i]!.1=ms[i]! := by
        rw[getElem!_pos E i hiE,getElem!_pos ms i him2];have:=congrArg (fun l=>l[i]?) a3;simp only[List.getElem?_map,List.getElem?_eq_getElem hiE,List.getElem?_eq_getElem him2,Option.map_some] at this;exact Option.some.inj this
       obtain ⟨⟨b1,w1,b2⟩,b3,w2,b4⟩:=a4 E[i]! (by rw[getElem!_pos E i hiE];exact List.getElem_mem hiE);have hmo:=hmok ms[i]! (by rw[getElem!_pos ms i him2];exact List.getElem_mem him2);rw[hEi] at b2 b4;generalize ex:E[i]!.2.1=x at b1 b2;generalize ey:E[i]!.2.2=y at b3 b4;have uk : ∀ {L H'},HS H8 (fun q=>q=sb\/q=tb\/q=kk) L H' -> bget H' km=some (.cells w 5 (mgsC E)):=fun hs=>(hs.u.2 km (qJ hkm) (fun hh=>a2 ((q1 _).2 (.inr hh)))).trans hkm
       have ux : ∀ {L H'},HS H8 (fun q=>q=sb\/q=tb\/q=kk) L H' -> bget H' x=some (.cells w1 1 (ints ms[i]!.sr)):=fun hs=>(hs.u.2 x (by have:=qJ b2;omega) (fun hh=>b1 ((q1 _).2 (.inr hh)))).trans ((d3 x (fun e=>b1 ((q1 _).2 (.inl e)))).trans b2)
       have uy : ∀ {L H'},HS H8 (fun q=>q=sb\/q=tb\/q=kk) L H' -> bget H' y=some (.cells w2 1 (ints ms[i]!.ds)):=fun hs=>(hs.u.2 y (by have:=qJ b4;omega) (fun hh=>b3 ((q1 _).2 (.inr hh)))).trans ((d3 y (fun e=>b3 ((q1 _).2 (.inl e)))).trans b4)
       repeat' first|refine sX hs (fun _ hs=>?_)|refine zTw ?_|intro _ _ hs|intro K0 hK0|intro hc|refine dI ?_ ?_|(refine hK0 _ _ ?_;clear hK0)
       refine qO (uk hs) ⟨i,rfl,him2, ?_⟩
       repeat' first|refine sX hs (fun _ hs=>?_)|refine zRw ?_|intro _ _ hs|intro K0 hK0|(refine hK0 _ _ ?_;clear hK0)
       refine qF (uk hs) (seg_mg hiE ?_);rw[hEi,ex,ey]
       repeat' first|refine sX hs (fun _ hs=>?_)|refine zRw ?_|intro _ _ hs|intro K0 hK0|(refine hK0 _ _ ?_;clear hK0)
       refine vN hs 0 (p:=0) (n:=5) (v := .agg ⟨mgC ms[i]! x y⟩) rfl (mgC ms[i]! x y) rfl rfl (by decide) rfl (fun _ _ hs=>?_)
       repeat' first|refine sX hs (fun _ hs=>?_)|refine zRw ?_|intro _ _ hs|intro K0 hK0|(refine hK0 _ _ ?_;clear hK0)
       rename_i mb _ _ H5 _;generalize hm:ms[i]! = m at hmo ux uy hs ⊢;have hml:=hmo.len;have hmb:=hmo.le
       have hsub:S9.length+m.sr.length<=2000000000:=by
        refine Nat.le_trans ?_ hsl;rw[hS,uj0 him2,hm,<- qN (p.length:Int) m];simp only[List.length_append];omega
       refine qf (α := MkS) tok (fun z=>HS H8 (fun q=>q=sb\/q=tb\/q=kk) [(true,mb, .cells true 1 (mgC m x y)),(true,sb, .cells true 1 (tkC t b' c' ++ [.int .i64 alg,sv z.k z.S.length])),(true,tb, .cells true 1 [.int .i64 (p.length:Int)]),(true,z.k, .cells true 6 (stsC z.S))] z.H/\z.S=S9++(stM (p.length:Int) m).take z.i/\z.i<=m.sr.length)
        (fun z=>[(4,pM rb),(8,pM sb),(9,pM tb),(12,pM mb),(53,cloV gi ci),(55,sv km ms.length),(56, .int .i64 (ms.length:Int)),(57, .int .i64 (i:Int)),(62,sv x m.sr.length),(63, .int .i64 (m.sr.length:Int)),(64, .int .i64 (z.i:Int))]) (fun z=>z.H) (fun z=>m.sr.length-z.i)
        ⟨H5,k9,S9,0⟩ ⟨hs,by simp,Nat.zero_le _⟩ (Or.inl ⟨⟨rfl,rfl,rfl,rfl,rfl,rfl,rfl,rfl,rfl,rfl,rfl,trivial⟩,rfl⟩) ?_
       clear hs;rintro ⟨H12,k12,S12,j⟩ ⟨hs,hS12,hj⟩;dsimp only at hs hS12 hj ⊢;by_cases hjm:(j:Int)<(m.sr.length:Int)
       ·have hjm2:j<m.sr.length:=by omega
        have hjn2:j<m.ds.length:=by omega
        repeat' first|refine sX hs (fun _ hs=>?_)|refine zTw ?_|intro _ _ hs|intro K0 hK0|intro hc|refine dI ?_ ?_|(refine hK0 _ _ ?_;clear hK0)
        refine qO (ux hs) ⟨j,rfl,hjm2, ?_⟩
        repeat' first|refine sX hs (fun _ hs=>?_)|refine zTw ?_|intro _ _ hs|intro K0 hK0|intro hc|refine dI ?_ ?_|(refine hK0 _ _ ?_;clear hK0)
        refine qF (ux hs) (vM hjm2 ?_)
        repeat' first|refine sX hs (fun _ hs=>?_)|refine zTw ?_|intro _ _ hs|intro K0 hK0|intro hc|refine dI ?_ ?_|(refine hK0 _ _ ?_;clear hK0)
        refine wo tok mx [0,1,0,0,8,0,32,0,0,256,0,1792,3840,0,8192,32764,65532,131071,262143,524287] [false,false,true,true,true,true,true,true,true,true,true,true,true,true,true,true,true,false,false,false] [0,1,2,3,4,5,6,7,8,9,10,11,12,13,14,15,16,17,18,19] (by kernel_rfl) ?_;refine vT (fun K0 hK0=>?_)
        repeat' first|refine sX hs (fun _ hs=>?_)|refine zTw ?_|intro _ _ hs|intro K0 hK0|intro hc|refine dI ?_ ?_|(refine hK0 _ _ ?_;clear hK0)
        refine qO (uy hs) ⟨j,rfl,hjn2, ?_⟩
        repeat' first|refine sX hs (fun _ hs=>?_)|refine zTw ?_|intro _ _ hs|intro K0 hK0|intro hc|refine dI ?_ ?_|(refine hK0 _ _ ?_;clear hK0)
        refine qF (uy hs) (vM hjn2 ?_)
        repeat' first|refine sX hs (fun _ hs=>?_)|refine zTw ?_|intro _ _ hs|intro K0 hK0|intro hc|refine dI ?_ ?_|(refine hK0 _ _ ?_;clear hK0)
        have hl12:S12.length=S9.length+j:=by rw[hS12,List.length_append,List.length_take,qN];omega
        refine vZ hs 4 (us:=stC ⟨(p.length:Int),m.fr,m.to,m.sr[j]!,m.ds[j]!,m.jn⟩) rfl (by decide) (hs.get 0 rfl) rfl rfl (by rw[xC,Nat.mul_comm]) (by dsimp only;omega) (fun H15 k' _ _ hs=>?_);rw[<- zy] at hs
        repeat' first|refine sX hs (fun _ hs=>?_)|refine zTw ?_|intro _ _ hs|intro K0 hK0|intro hc|refine dI ?_ ?_|(refine hK0 _ _ ?_;clear hK0)
        have hs:=pkH hs [1,2,3,4] (L' := [(true,mb, .cells true 1 (mgC m x y)),(true,sb, .cells true 1 (tkC t b' c' ++ [.int .i64 alg,sv k' (S12.length+1)])),(true,tb, .cells true 1 [.int .i64 (p.length:Int)]),(true,k', .cells true 6 (stsC (S12 ++ [⟨(p.length:Int),m.fr,m.to,m.sr[j]!,m.ds[j]!,m.jn⟩])))]);rw[show S12.length+1=(S12 ++ [(⟨(p.length:Int),m.fr,m.to,m.sr[j]!,m.ds[j]!,m.jn⟩:St)]).length by simp] at hs;exact⟨⟨_,k',_,j+1⟩,⟨hs,by dsimp only;rw[Xn _ _ hjm2,hS12,List.append_assoc],hjm2⟩,by dsimp only;omega,Or.inl ⟨⟨rfl,rfl,rfl,rfl,rfl,rfl,rfl,rfl,rfl,rfl,rfl,trivial⟩,rfl⟩⟩
       ·have hje:j=m.sr.length:=by omega
        repeat' first|refine sX hs (fun _ hs=>?_)|refine zTw ?_|intro _ _ hs|intro K0 hK0|intro hc|refine dI ?_ ?_|(refine hK0 _ _ ?_;clear hK0)
        refine⟨⟨_,k12,_,i+1⟩,⟨pkH hs [1,2,3], ?_,him2⟩,by dsimp only;omega,Or.inl ⟨⟨rfl,rfl,rfl,rfl,rfl,rfl,rfl,trivial⟩,rfl⟩⟩;dsimp only;have h1:(stM (p.length:Int) m).take j=stM (p.length:Int) m:=List.take_of_length_le (by rw[qN];omega);rw[hS12,h1,hS,vx0 him2,hm,List.append_assoc]
      ·have hie:i=ms.length:=by omega
       rw[hie,List.take_length] at hS;have hfin:S9=stsF 0 (p ++ [ms]):=by rw[WI,hS,Nat.zero_add]
       repeat' first|refine sX hs (fun _ hs=>?_)|refine zTw ?_|intro _ _ hs|intro K0 hK0|intro hc|refine dI ?_ ?_|(refine hK0 _ _ ?_;clear hK0)
       have e9:=hs.u.2 lr (by omega) (fun hh=>by omega);have hk9:=(hs.g (i:=2) rfl).2 rfl;have ks9:=neH hs 2 0;have kt9:=neH hs 2 1;have hl9:=hs.le;have gsb:=hs.get 0 rfl;have gtb:=hs.get 1 rfl;have gk9:=hs.get 2 rfl;refine Qz (e9.trans d2) (fun H10 t1 t2 t3=>?_);refine⟨rfl,⟨by omega,fun q hq hn=>?_⟩,fun q=>q=lr\/q=sb\/q=tb\/q=k9,⟨k9,fun _=>Iff.rfl,t2, ?_, ?_, ?_,by omega,ks9,kt9,by omega,by omega,fun q h1 h2 h3 h4 h5=>?_⟩,fun q hq=>?_⟩
       ·have hnl:q≠lr:=fun e=>hn ((q1 _).2 (.inl e))
        exact (t3 q hnl).trans ((hs.u.2 q (by omega) (fun hh=>hn ((q1 _).2 (.inr hh)))).trans (d3 q hnl))
       ·rw[<- hfin]
        exact (t3 sb (by omega)).trans gsb
       ·rw[List.length_append]
        exact (t3 tb (by omega)).trans gtb
       ·rw[<- hfin]
        exact (t3 k9 (by omega)).trans gk9
       ·exact (t3 q h2).trans ((hs.u.2 q (by omega) (fun hh=>by omega)).trans ((d3 q h2).trans (q11 q h1 h2 h3 h4 h5)))
       ·rcases hq with rfl | rfl | rfl | rfl
        ·exact .inl ((q1 _).2 (.inl rfl))
        ·exact .inl ((q1 _).2 (.inr (.inl rfl)))
        ·exact .inl ((q1 _).2 (.inr (.inr (.inl rfl))))
        ·rcases hk9 with hk9 | hk9
         ·exact .inl ((q1 _).2 (.inr hk9))
         ·exact .inr (by omega)
     ·rintro oo HH ⟨kk,q1,q2,q3,q4,q5,q6,q7,q8,q9,q10,q11⟩
      subst hL;refine QB q2 (by decide) (fun H7 r1 r2=>?_);have nr:rb≠sb/\rb≠tb/\rb≠ks:=⟨hs0.ne 5 1 rfl rfl (by decide),hs0.ne 5 0 rfl rfl (by decide),hs0.ne 5 2 rfl rfl (by decide)⟩;have lc:=hs0.lt 3 rfl;have lb:=hs0.lt 4 rfl;have lr5:=hs0.lt 5 rfl;have hs00:=hs0.le;have ob:=(hs0.g (i:=1) rfl).2 rfl;have ot:=(hs0.g (i:=0) rfl).2 rfl;have ok:=(hs0.g (i:=2) rfl).2 rfl
      have hs1:HS H none' [(true,c', .cells true 1 (bls t.ws)),(true,b',rw' t.sz),(true,rb, .cells true 1 scZ)] H7:=(pkH hs0 [3,4,5]).upd (o' := fun q=>q=sb\/q=tb\/q=ks) ⟨by omega,fun q hq hn=>(r2 q (by omega)).trans ((q11 q (by omega) (by omega) (fun e=>hn (.inl e)) (fun e=>hn (.inr (.inl e))) (fun e=>hn (.inr (.inr e)))).trans (same14 q hq))⟩
       (fun i p hi hh=>by
         match i,hi with
         | 0,hi=>cases hi;rcases hh with h | h | h;exact nc.2.1 h;exact nc.1 h;exact nc.2.2 h
         | 1,hi=>cases hi;rcases hh with h | h | h;exact nb.2.1 h;exact nb.1 h;exact nb.2.2 h
         | 2,hi=>cases hi;rcases hh with h | h | h;exact nr.1 h;exact nr.2.1 h;exact nr.2.2 h)
       (fun q hq=>by
         rcases hq with rfl | rfl | rfl
         ·exact ob
         ·exact ot
         ·exact ok)
      have hs2:=hs1.add (c:=true) (b:=kk) ((r2 kk q6).trans q5) (fun i p hi=>by
       match i,hi with
       | 0,hi=>cases hi;show c' ≠ kk;rcases q10 with e | e;(rw[e];exact nc.2.2);omega
       | 1,hi=>cases hi;show b' ≠ kk;rcases q10 with e | e;(rw[e];exact nb.2.2);omega
       | 2,hi=>cases hi;show rb≠kk;rcases q10 with e | e;(rw[e];exact nr.2.2);omega) (fun _=>by
       rcases q10 with e | e
       ·rw[e];exact ok
       ·exact .inr (by omega))
      have hs:=hs2.add (c:=true) (b:=sb) ((r2 sb (by omega)).trans q3) (fun i p hi=>by
       match i,hi with
       | 0,hi=>cases hi;exact q7
       | 1,hi=>cases hi;exact nc.2.1
       | 2,hi=>cases hi;exact nb.2.1
       | 3,hi=>cases hi;exact nr.1) (fun _=>ob)
      clear hs1 hs2 hs0
      have hgl:(stsF 0 (vJ t alg)).length<=1000000000000:=by
       have h1:=QR 0 hro.le hro.ok;have h2:=hro.len;have h3:(vJ t alg).length*4194304<=200*4194304:=Nat.mul_le_mul_right _ h2;omega
      have hgr:=vN0 (rs:=vJ t alg) 0 (by have:=hro.len;omega) hro.ok
      repeat' first|refine sX hs (fun _ hs=>?_)|refine zRw ?_|intro _ _ hs|intro K0 hK0|(refine hK0 _ _ ?_;clear hK0)
      refine ve tok ?_
      repeat' first|refine sX hs (fun _ hs=>?_)|refine zRw ?_|intro _ _ hs|intro K0 hK0|(refine hK0 _ _ ?_;clear hK0)
      refine c60 (hs.get 1 rfl) hgl hgr (fun ys H15 hpm hpw hl15 hg15 he15=>?_);have hs:=hs.set 1 rfl hl15 hg15 he15;rw[<- hpm.length_eq] at hs
      repeat' first|refine sX hs (fun _ hs=>?_)|refine zRw ?_|intro _ _ hs|intro K0 hK0|(refine hK0 _ _ ?_;clear hK0)
      refine ve tok ?_
      repeat' first|refine sX hs (fun _ hs=>?_)|refine zRw ?_|intro _ _ hs|intro K0 hK0|(refine hK0 _ _ ?_;clear hK0)
      refine vg tok _ ?_
      repeat' first|refine sX hs (fun _ hs=>?_)|refine zTw ?_|intro _ _ hs|intro K0 hK0|intro hc|refine dI ?_ ?_|(refine hK0 _ _ ?_;clear hK0)
      change resK T _ _ _ _;refine vV (by rfl) (by rfl) (hs.get 4 rfl) (by rfl) ?_;refine⟨_,rfl,_,rfl,_,rfl,_,rfl,_,rfl,_,rfl,_,rfl,_,rfl, ?_⟩;refine hok _ kk b' c' ys (pkH hs [1,3,2]) hpm hpw
  ·have hno:=hno h0 hin
   rw[decide_eq_false hin]
   repeat' first|refine sX hs (fun _ hs=>?_)|refine zTw ?_|intro _ _ hs|intro K0 hK0|intro hc|refine dI ?_ ?_|(refine hK0 _ _ ?_;clear hK0)
   change resK T _ _ _ _;refine vV (by rfl) (by rfl) (hs.get 1 rfl) (by rfl) ?_;refine⟨_,rfl,_,rfl,_,rfl,_,rfl,_,rfl,_,rfl,_,rfl,_,rfl, ?_⟩;exact hno _ (qc hs)
 ·have hbad:=hbad h0
  generalize chkF t=z at h0 hbad ⊢
  repeat' first|refine sX hs (fun _ hs=>?_)|refine zTw ?_|intro _ _ hs|intro K0 hK0|intro hc|refine dI ?_ ?_|(refine hK0 _ _ ?_;clear hK0)
  refine ve tok ?_
  repeat' first|refine sX hs (fun _ hs=>?_)|refine zTw ?_|intro _ _ hs|intro K0 hK0|intro hc|refine dI ?_ ?_|(refine hK0 _ _ ?_;clear hK0)
  change resK T _ _ _ _;refine vV (by rfl) (by rfl) (hs.get 1 rfl) (by rfl) ?_;refine⟨_,rfl,_,rfl,_,rfl,_,rfl,_,rfl,_,rfl,_,rfl,_,rfl, ?_⟩;exact hbad _ (qc hs)
end Go.Af.Tryz
