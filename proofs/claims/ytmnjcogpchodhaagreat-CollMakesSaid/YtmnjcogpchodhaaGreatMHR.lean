/- A part of the proof. -/
import Derived.Test.YtmnjcogpchodhaaGreatMHN
import Derived.Test.YtmnjcogpchodhaaGreatMHP
import Derived.Test.YtmnjcogpchodhaaGreatMHQ
import Derived.Test.YtmnjcogpchodhaaGreatMCA
import Derived.Test.YtmnjcogpchodhaaGreatMHH
import Derived.Test.YtmnjcogpchodhaaGreatMHI
set_option linter.all false
set_option maxHeartbeats 4000000
set_option maxRecDepth 100000
namespace Go.Af.Tryz
open Go Go.Proofs Tryz
open Go.Af.Coll (St befF)
attribute [local irreducible] awp qj qI qK qE qm isCells ql qi qB qx qh roundEnd zG wZ keyK wE

theorem yh0 {a:Int} {l:List Int} {i:Nat} (h:i<l.length):decide (a∈l.take (i+1))=(decide (a∈l.take i)||decide (l[i]! = a)):=by
 have e:a∈l.take (i+1)↔a∈l.take i\/l[i]! = a:=by
  rw[List.take_succ_eq_append_getElem h,getElem!_pos l i h,List.mem_append,List.mem_singleton,eq_comm (a:=a)]
 rw[Bool.eq_iff_iff];simp only[decide_eq_true_eq,Bool.or_eq_true];exact e
theorem Vh0 {t:Tk} (kt:TkOk t):AddV 64 [.int .i64 6] t (dblF t).length (fun r=>stsF r (dblF t)):=by
 intro H mb k b c r S R hm hr hl h;dsimp only at hl h;have hpr:=kt.pr;have hro:=kt.ro;have hpa:=kt.pa;have hlg:=wL t.pr;have hsp:=qX hpa;refine avN call64 func64 ntmps64 ?_;have hs:=hm
 repeat' first|refine zRw ?_|intro _ _ hs|intro K0 hK0|(refine hK0 _ _ ?_;clear hK0)
 refine (Vq0 kt) (qZ hs) (by omega) (by dsimp only;omega) (fun H2 k2 hn=>?_);have hs:=qW hs hn;clear hn
 repeat' first|refine zRw ?_|intro _ _ hs|intro K0 hK0|(refine hK0 _ _ ?_;clear hK0)
 exact h _ k2 hs
theorem Un {H:List Blk} {b k z z' : Nat} {w w' : Bool} {vs vs' : List Value} (h1:bget H b=some (.cells w z vs)) (h2:bget H k=some (.cells w' z' vs')) (h:z≠z'):b≠k:=fun e=>by
 rw[e,h2] at h1;have:=Option.some.inj h1;injection this with _ h6
 exact h h6.symm
theorem c17 {H:List Blk} {t:Tk} {b c:Nat} {alg:Int} {R:Value->List Blk->Prop} (g:Gr H t.sz b) (gw:Gw H t.ws b c) (hl:t.sz.length<=10) (hw:t.ws.length<=10)
 (hbad:chkF t≠0->∀ H',HS H none' [] H' -> R (.tuple ⟨[.agg ⟨scZ⟩, .int .i64 (chkF t)]⟩) H')
 (hno:chkF t=0->alg ∉ algS t->∀ H',HS H none' [] H' -> R (.tuple ⟨[.agg ⟨scZ⟩, .int .i64 4]⟩) H')
 (hok:chkF t=0->alg∈algS t->∀ H' k o off cap w L n,HS H none' [] H' -> bget H' k=some (.cells w 6 (stsC L))->o=off*6->off+n<=L.length->(wnd L off n).Perm (mkF t alg)->(wnd L off n).Pairwise (fun a b=>befF b a=false)->R (.tuple ⟨[.agg ⟨tkC t b c ++ [.int .i64 alg, .slice (some ⟨k,o,none⟩) n cap]⟩, .int .i64 0]⟩) H') :
 qj prog 17 [tkV t b c, .int .i64 alg] H R:=by
 obtain ⟨wb,hb⟩:=g.s;obtain ⟨wc,hcb⟩:=gw.s;refine uZ tok call17 func17 rfl ntmps17 rfl (by simp) ?_;have hs:=HS.start H none';refine ve tok ?_;refine qo hs (fun H1 xb e1 l1 hs=>?_);refine qo hs (fun H2 rb e2 l2 hs=>?_)
 repeat' first|refine zRw ?_|intro _ _ hs|intro K0 hK0|(refine hK0 _ _ ?_;clear hK0)
 clear e1 l1 e2 l2;refine ve tok ?_
 repeat' first|refine zRw ?_|intro _ _ hs|intro K0 hK0|(refine hK0 _ _ ?_;clear hK0)
 refine c42 (g.up (qc hs)) (by omega) (by omega) (fun H3 ka hn=>?_);have hs:=hs.call hn rfl;clear hn;by_cases h0:chkF t=0
 ·have hal:=qx0 t h0
  rw[h0]
  repeat' first|refine zTw ?_|intro _ _ hs|intro K0 hK0|intro hc|refine dI ?_ ?_|(refine hK0 _ _ ?_;clear hK0)
  refine ve tok ?_
  repeat' first|refine zTw ?_|intro _ _ hs|intro K0 hK0|intro hc|refine dI ?_ ?_|(refine hK0 _ _ ?_;clear hK0)
  refine ve tok ?_
  repeat' first|refine zTw ?_|intro _ _ hs|intro K0 hK0|intro hc|refine dI ?_ ?_|(refine hK0 _ _ ?_;clear hK0)
  refine ve tok ?_
  repeat' first|refine zTw ?_|intro _ _ hs|intro K0 hK0|intro hc|refine dI ?_ ?_|(refine hK0 _ _ ?_;clear hK0)
  refine qf (α := Nat) tok (fun i=>i<=(algS t).length) (fun i=>[(1, .int .i64 alg),(2,pM xb),(4,pM rb),(5, .int .i64 0),(6,sv ka (algS t).length),(8, .bool (decide (alg∈(algS t).take i))),(9, .int .i64 (i:Int))]) (fun _=>H3) (fun i=>(algS t).length-i)
   0 (Nat.zero_le _) (Or.inl ⟨⟨rfl,rfl,rfl,rfl,rfl,by simp;rfl,rfl,trivial⟩,rfl⟩) ?_
  ·rintro i hi
   by_cases hil:i<(algS t).length
   ·have hat:=yh0 (a:=alg) hil
    generalize decide (alg∈(algS t).take i)=kb at hat ⊢
    repeat' first|refine zTw ?_|intro _ _ hs|intro K0 hK0|intro hc|refine dI ?_ ?_|(refine hK0 _ _ ?_;clear hK0)
    all_goals (
     try (
      refine vM hil ?_
      repeat' first|refine zTw ?_|intro _ _ hs|intro K0 hK0|intro hc|refine dI ?_ ?_|(refine hK0 _ _ ?_;clear hK0)
      )
     refine⟨i+1,hil,by omega,Or.inl ⟨⟨rfl,rfl,rfl,rfl,rfl, ?_,rfl,trivial⟩,rfl⟩⟩;rw[hat];cases kb
     all_goals first | rfl | (exfalso;revert hc;decide)
     )
   ·have hie:i=(algS t).length:=by omega
    rw[hie,List.take_length]
    repeat' first|refine zTw ?_|intro _ _ hs|intro K0 hK0|intro hc|refine dI ?_ ?_|(refine hK0 _ _ ?_;clear hK0)
    by_cases hin:alg∈algS t
    ·rw[decide_eq_true hin]
     refine ve tok ?_
     repeat' first|refine zTw ?_|intro _ _ hs|intro K0 hK0|intro hc|refine dI ?_ ?_|(refine hK0 _ _ ?_;clear hK0)
     refine ve tok ?_
     repeat' first|refine zTw ?_|intro _ _ hs|intro K0 hK0|intro hc|refine dI ?_ ?_|(refine hK0 _ _ ?_;clear hK0)
     rename_i mb H10;have hs:=pkH hs [0,2,3] (L' := [(true,mb, .cells true 1 (tkC t b c ++ [.int .i64 0, .slice none 0 0])),(true,rb, .cells true 1 scZ),(true,xb, .cells true 1 (tkC t b c))])
     have hh:WkH H10 ((H10 ++ [Blk.cells true 6 []]).set mb (mkB t b c 0 H10.length 0)):=WkH.set (WkH.rfl.app [Blk.cells true 6 []]) (hs.get 0 rfl) (vs' := mkL t b c 0 H10.length 0) rfl (fun i v v' h1 h2=>by
      rcases i with _ | _ | _ | _ | _ | _ | _ | _ | i
      all_goals first
       | (cases h1;cases h2;exact .rfl)
       | (cases h1;cases h2;exact .nil _)
       | (simp at h1))
     have hs:=pkH ((hs.virt (.cells true 6 [])).vset 1 rfl (B' := mkB t b c 0 H10.length 0)) [1,0,2,3] (L' := [(true,mb,mkB t b c 0 H10.length 0),(true,H10.length, .cells true 6 []),(true,rb, .cells true 1 scZ),(true,xb, .cells true 1 (tkC t b c))]);refine Vo (S := [(1, .int .i64 alg),(2,pM xb),(4,pM rb),(5, .int .i64 0),(10,pM mb)]) ⟨⟨_,rfl, .rfl⟩,⟨_,rfl, .rfl⟩,⟨_,rfl, .rfl⟩,⟨_,rfl, .rfl⟩,⟨_,rfl, .rfl⟩,trivial⟩ hh ?_;clear hh;generalize (H10 ++ [Blk.cells true 6 []]).set mb (mkB t b c 0 H10.length 0)=H11 at hs ⊢;generalize H10.length=ks at hs;have hs:MkH H none' mb ks t b c 0 [] [(true,rb, .cells true 1 scZ),(true,xb, .cells true 1 (tkC t b c))] H11:=hs;have hok:=hok h0 hin;clear hbad hno;have kt:=Xi h0;have ha:=qy0 h0 hin;have hro:=Ud kt ha
     have hlen:(stsF 0 (vJ t alg)).length<=1000000000:=by
      have h1:=QR 0 hro.le hro.ok;have h2:=hro.len;have h3:(vJ t alg).length*4194304<=200*4194304:=Nat.mul_le_mul_right _ h2;omega
     have hlen2:=hro.len;have hlg:=wL t.pr;have hpr:=kt.pr;have hop:=kt.op
     refine QP (α := List Blk × Nat × Nat) (fun z=>MkH H none' mb z.2.1 t b c z.2.2 (mkF t alg) [(true,rb, .cells true 1 scZ),(true,xb, .cells true 1 (tkC t b c))] z.1)
      (fun z=>[(1, .int .i64 alg),(2,pM xb),(4,pM rb),(5, .int .i64 0),(10,pM mb)]) (fun z=>z.1) (vg tok _ ?_) ?_
     ·have hop:t.op=1\/t.op=2\/t.op=3\/t.op=4\/t.op=5\/t.op=6\/t.op=7\/t.op=8\/t.op=9\/t.op=10\/t.op=11:=by omega
      have hgr:=g.up (qc hs);have hgw:=gw.up (qc hs);rcases hop with hop | hop | hop | hop | hop | hop | hop | hop | hop | hop | hop
      ·have ha2:alg=1\/alg=2\/alg=3\/alg=4:=by simpa [algK,hop] using ha
       rcases ha2 with rfl | rfl | rfl | rfl
       ·skip
        have e:vJ t 1=qM (bcL t) t.pr:=by unfold vJ;simp[hop]
        rw[e] at hlen hlen2
        repeat' first|refine zTw ?_|intro _ _ hs|intro K0 hK0|intro hc|refine dI ?_ ?_|(refine hK0 _ _ ?_;clear hK0)
        refine (Vp0 kt) (qZ hs) (by omega) (by dsimp only;rw[List.length_nil];omega) (fun H12 k12 hn=>?_);have hs:=qW hs hn;clear hn
        repeat' first|refine zTw ?_|intro _ _ hs|intro K0 hK0|intro hc|refine dI ?_ ?_|(refine hK0 _ _ ?_;clear hK0)
        exact⟨(H12,k12,_),by unfold mkF;rw[e];exact hs,Or.inl ⟨⟨rfl,rfl,rfl,rfl,rfl,trivial⟩,rfl⟩⟩
       ·skip
        have e:vJ t 2=powF (bcT t) t.pr:=by unfold vJ;simp[hop]
        rw[e] at hlen hlen2
        repeat' first|refine zTw ?_|intro _ _ hs|intro K0 hK0|intro hc|refine dI ?_ ?_|(refine hK0 _ _ ?_;clear hK0)
        refine (Vo0 kt) (qZ hs) (by omega) (by dsimp only;rw[List.length_nil];omega) (fun H12 k12 hn=>?_);have hs:=qW hs hn;clear hn
        repeat' first|refine zTw ?_|intro _ _ hs|intro K0 hK0|intro hc|refine dI ?_ ?_|(refine hK0 _ _ ?_;clear hK0)
        exact⟨(H12,k12,_),by unfold mkF;rw[e];exact hs,Or.inl ⟨⟨rfl,rfl,rfl,rfl,rfl,trivial⟩,rfl⟩⟩
       ·skip
        have e:vJ t 3=chnF t:=by unfold vJ;simp[hop]
        rw[e] at hlen hlen2
        repeat' first|refine zTw ?_|intro _ _ hs|intro K0 hK0|intro hc|refine dI ?_ ?_|(refine hK0 _ _ ?_;clear hK0)
        refine (Vn0 kt (by omega)) (qZ hs) (by omega) (by dsimp only;rw[List.length_nil];omega) (fun H12 k12 hn=>?_);have hs:=qW hs hn;clear hn
        repeat' first|refine zTw ?_|intro _ _ hs|intro K0 hK0|intro hc|refine dI ?_ ?_|(refine hK0 _ _ ?_;clear hK0)
        exact⟨(H12,k12,_),by unfold mkF;rw[e];exact hs,Or.inl ⟨⟨rfl,rfl,rfl,rfl,rfl,trivial⟩,rfl⟩⟩
       ·skip
        have e:vJ t 4=wC t (parF t)++qM (evF t (uP t)) t.pr:=by unfold vJ;simp[hop]
        rw[e] at hlen hlen2
        repeat' first|refine zTw ?_|intro _ _ hs|intro K0 hK0|intro hc|refine dI ?_ ?_|(refine hK0 _ _ ?_;clear hK0)
        refine (Vm0 kt (by decide) (by decide) (by decide)) (qZ hs) (by omega) (by dsimp only;rw[List.length_nil];omega) (fun H12 k12 hn=>?_);have hs:=qW hs hn;clear hn
        repeat' first|refine zTw ?_|intro _ _ hs|intro K0 hK0|intro hc|refine dI ?_ ?_|(refine hK0 _ _ ?_;clear hK0)
        exact⟨(H12,k12,_),by unfold mkF;rw[e];exact hs,Or.inl ⟨⟨rfl,rfl,rfl,rfl,rfl,trivial⟩,rfl⟩⟩
      ·have ha2:alg=1\/alg=2\/alg=3:=by simpa [algK,hop] using ha
       rcases ha2 with rfl | rfl | rfl
       ·skip
        have e:vJ t 1=qM (rdL t) t.pr:=by unfold vJ;simp[hop]
        rw[e] at hlen hlen2
        repeat' first|refine zTw ?_|intro _ _ hs|intro K0 hK0|intro hc|refine dI ?_ ?_|(refine hK0 _ _ ?_;clear hK0)
        refine (Vl0 kt) (qZ hs) (by omega) (by dsimp only;rw[List.length_nil];omega) (fun H12 k12 hn=>?_);have hs:=qW hs hn;clear hn
        repeat' first|refine zTw ?_|intro _ _ hs|intro K0 hK0|intro hc|refine dI ?_ ?_|(refine hK0 _ _ ?_;clear hK0)
        exact⟨(H12,k12,_),by unfold mkF;rw[e];exact hs,Or.inl ⟨⟨rfl,rfl,rfl,rfl,rfl,trivial⟩,rfl⟩⟩
       ·skip
        have e:vJ t 2=powF (rdT t) t.pr:=by unfold vJ;simp[hop]
        rw[e] at hlen hlen2
        repeat' first|refine zTw ?_|intro _ _ hs|intro K0 hK0|intro hc|refine dI ?_ ?_|(refine hK0 _ _ ?_;clear hK0)
        refine (Vk0 kt) (qZ hs) (by omega) (by dsimp only;rw[List.length_nil];omega) (fun H12 k12 hn=>?_);have hs:=qW hs hn;clear hn
        repeat' first|refine zTw ?_|intro _ _ hs|intro K0 hK0|intro hc|refine dI ?_ ?_|(refine hK0 _ _ ?_;clear hK0)
        exact⟨(H12,k12,_),by unfold mkF;rw[e];exact hs,Or.inl ⟨⟨rfl,rfl,rfl,rfl,rfl,trivial⟩,rfl⟩⟩
       ·skip
        have e:vJ t 3=chnF t:=by unfold vJ;simp[hop]
        rw[e] at hlen hlen2
        repeat' first|refine zTw ?_|intro _ _ hs|intro K0 hK0|intro hc|refine dI ?_ ?_|(refine hK0 _ _ ?_;clear hK0)
        refine (Vj0 kt hop (by decide) (by decide)) (qZ hs) (by omega) (by dsimp only;rw[List.length_nil];omega) (fun H12 k12 hn=>?_);have hs:=qW hs hn;clear hn
        repeat' first|refine zTw ?_|intro _ _ hs|intro K0 hK0|intro hc|refine dI ?_ ?_|(refine hK0 _ _ ?_;clear hK0)
        exact⟨(H12,k12,_),by unfold mkF;rw[e];exact hs,Or.inl ⟨⟨rfl,rfl,rfl,rfl,rfl,trivial⟩,rfl⟩⟩
      ·have ha2:alg=5\/alg=6\/alg=7:=by simpa [algK,hop] using ha
       rcases ha2 with rfl | rfl | rfl
       ·skip
        have e:vJ t 5=powF (rdT t) t.pr++powF (bcT t) t.pr:=by unfold vJ;simp[hop]
        rw[e] at hlen hlen2
        repeat' first|refine zTw ?_|intro _ _ hs|intro K0 hK0|intro hc|refine dI ?_ ?_|(refine hK0 _ _ ?_;clear hK0)
        refine (Vi0 kt) (qZ hs) (by omega) (by dsimp only;rw[List.length_nil];omega) (fun H12 k12 hn=>?_);have hs:=qW hs hn;clear hn
        repeat' first|refine zTw ?_|intro _ _ hs|intro K0 hK0|intro hc|refine dI ?_ ?_|(refine hK0 _ _ ?_;clear hK0)
        exact⟨(H12,k12,_),by unfold mkF;rw[e];exact hs,Or.inl ⟨⟨rfl,rfl,rfl,rfl,rfl,trivial⟩,rfl⟩⟩
       ·skip
        have e:vJ t 6=dblF t:=by unfold vJ;simp[hop]
        rw[e] at hlen hlen2
        repeat' first|refine zTw ?_|intro _ _ hs|intro K0 hK0|intro hc|refine dI ?_ ?_|(refine hK0 _ _ ?_;clear hK0)
        refine (Vh0 kt) (qZ hs) (by omega) (by dsimp only;rw[List.length_nil];omega) (fun H12 k12 hn=>?_);have hs:=qW hs hn;clear hn
        repeat' first|refine zTw ?_|intro _ _ hs|intro K0 hK0|intro hc|refine dI ?_ ?_|(refine hK0 _ _ ?_;clear hK0)
        exact⟨(H12,k12,_),by unfold mkF;rw[e];exact hs,Or.inl ⟨⟨rfl,rfl,rfl,rfl,rfl,trivial⟩,rfl⟩⟩
       ·skip
        have e:vJ t 7=qM (evF t (yH t)) t.pr++qM (evF t (yD t)) t.pr:=by unfold vJ;simp[hop]
        rw[e] at hlen hlen2
        repeat' first|refine zTw ?_|intro _ _ hs|intro K0 hK0|intro hc|refine dI ?_ ?_|(refine hK0 _ _ ?_;clear hK0)
        refine (Vg0 kt (by decide) (by decide)) (qZ hs) (by omega) (by dsimp only;rw[List.length_nil];omega) (fun H12 k12 hn=>?_);have hs:=qW hs hn;clear hn
        repeat' first|refine zTw ?_|intro _ _ hs|intro K0 hK0|intro hc|refine dI ?_ ?_|(refine hK0 _ _ ?_;clear hK0)
        exact⟨(H12,k12,_),by unfold mkF;rw[e];exact hs,Or.inl ⟨⟨rfl,rfl,rfl,rfl,rfl,trivial⟩,rfl⟩⟩
      ·have ha2:alg=1\/alg=6:=by simpa [algK,hop] using ha
       rcases ha2 with rfl | rfl
       ·skip
        have e:vJ t 1=qM (scL t) t.pr:=by unfold vJ;simp[hop]
        rw[e] at hlen hlen2
        repeat' first|refine zTw ?_|intro _ _ hs|intro K0 hK0|intro hc|refine dI ?_ ?_|(refine hK0 _ _ ?_;clear hK0)
        refine (Vf0 kt) (qZ hs) (by omega) (by dsimp only;rw[List.length_nil];omega) (fun H12 k12 hn=>?_);have hs:=qW hs hn;clear hn
        repeat' first|refine zTw ?_|intro _ _ hs|intro K0 hK0|intro hc|refine dI ?_ ?_|(refine hK0 _ _ ?_;clear hK0)
        exact⟨(H12,k12,_),by unfold mkF;rw[e];exact hs,Or.inl ⟨⟨rfl,rfl,rfl,rfl,rfl,trivial⟩,rfl⟩⟩
       ·skip
        have e:vJ t 6=powF (scD t) t.pr:=by unfold vJ;simp[hop]
        rw[e] at hlen hlen2
        repeat' first|refine zTw ?_|intro _ _ hs|intro K0 hK0|intro hc|refine dI ?_ ?_|(refine hK0 _ _ ?_;clear hK0)
        refine (Ve0 kt (by decide)) (qZ hs) (by omega) (by dsimp only;rw[List.length_nil];omega) (fun H12 k12 hn=>?_);have hs:=qW hs hn;clear hn
        repeat' first|refine zTw ?_|intro _ _ hs|intro K0 hK0|intro hc|refine dI ?_ ?_|(refine hK0 _ _ ?_;clear hK0)
        exact⟨(H12,k12,_),by unfold mkF;rw[e];exact hs,Or.inl ⟨⟨rfl,rfl,rfl,rfl,rfl,trivial⟩,rfl⟩⟩
      ·have ha2:alg=1\/alg=2:=by simpa [algK,hop] using ha
       rcases ha2 with rfl | rfl
       ·skip
        have e:vJ t 1=qM (gaL t) t.pr:=by unfold vJ;simp[hop]
        rw[e] at hlen hlen2
        repeat' first|refine zTw ?_|intro _ _ hs|intro K0 hK0|intro hc|refine dI ?_ ?_|(refine hK0 _ _ ?_;clear hK0)
        refine (Vd0 kt) (qZ hs) (by omega) (by dsimp only;rw[List.length_nil];omega) (fun H12 k12 hn=>?_);have hs:=qW hs hn;clear hn
        repeat' first|refine zTw ?_|intro _ _ hs|intro K0 hK0|intro hc|refine dI ?_ ?_|(refine hK0 _ _ ?_;clear hK0)
        exact⟨(H12,k12,_),by unfold mkF;rw[e];exact hs,Or.inl ⟨⟨rfl,rfl,rfl,rfl,rfl,trivial⟩,rfl⟩⟩
       ·skip
        have e:vJ t 2=powF (gaT t) t.pr:=by unfold vJ;simp[hop]
        rw[e] at hlen hlen2
        repeat' first|refine zTw ?_|intro _ _ hs|intro K0 hK0|intro hc|refine dI ?_ ?_|(refine hK0 _ _ ?_;clear hK0)
        refine (Vc0 kt (by decide)) (qZ hs) (by omega) (by dsimp only;rw[List.length_nil];omega) (fun H12 k12 hn=>?_);have hs:=qW hs hn;clear hn
        repeat' first|refine zTw ?_|intro _ _ hs|intro K0 hK0|intro hc|refine dI ?_ ?_|(refine hK0 _ _ ?_;clear hK0)
        exact⟨(H12,k12,_),by unfold mkF;rw[e];exact hs,Or.inl ⟨⟨rfl,rfl,rfl,rfl,rfl,trivial⟩,rfl⟩⟩
      ·have ha2:alg=1\/alg=2:=by simpa [algK,hop] using ha
       rcases ha2 with rfl | rfl
       ·skip
        have e:vJ t 1=qM (stL t) t.pr:=by unfold vJ;simp[hop]
        rw[e] at hlen hlen2
        repeat' first|refine zTw ?_|intro _ _ hs|intro K0 hK0|intro hc|refine dI ?_ ?_|(refine hK0 _ _ ?_;clear hK0)
        refine (Vb0 kt (by decide)) (qZ hs) (by omega) (by dsimp only;rw[List.length_nil];omega) (fun H12 k12 hn=>?_);have hs:=qW hs hn;clear hn
        repeat' first|refine zTw ?_|intro _ _ hs|intro K0 hK0|intro hc|refine dI ?_ ?_|(refine hK0 _ _ ?_;clear hK0)
        exact⟨(H12,k12,_),by unfold mkF;rw[e];exact hs,Or.inl ⟨⟨rfl,rfl,rfl,rfl,rfl,trivial⟩,rfl⟩⟩
       ·skip
        have e:vJ t 2=wC t (stF t):=by unfold vJ;simp[hop]
        rw[e] at hlen hlen2
        repeat' first|refine zTw ?_|intro _ _ hs|intro K0 hK0|intro hc|refine dI ?_ ?_|(refine hK0 _ _ ?_;clear hK0)
        refine (Va0 kt) (qZ hs) (by omega) (by dsimp only;rw[List.length_nil];omega) (fun H12 k12 hn=>?_);have hs:=qW hs hn;clear hn
        repeat' first|refine zTw ?_|intro _ _ hs|intro K0 hK0|intro hc|refine dI ?_ ?_|(refine hK0 _ _ ?_;clear hK0)
        exact⟨(H12,k12,_),by unfold mkF;rw[e];exact hs,Or.inl ⟨⟨rfl,rfl,rfl,rfl,rfl,trivial⟩,rfl⟩⟩
      ·have ha2:alg=7\/alg=6\/alg=8:=by simpa [algK,hop] using ha
       rcases ha2 with rfl | rfl | rfl
       ·skip
        have e:vJ t 7=qM (evF t (Qr t)) t.pr:=by unfold vJ;simp[hop]
        rw[e] at hlen hlen2
        repeat' first|refine zTw ?_|intro _ _ hs|intro K0 hK0|intro hc|refine dI ?_ ?_|(refine hK0 _ _ ?_;clear hK0)
        refine (QZ0 kt) (qZ hs) (by omega) (by dsimp only;rw[List.length_nil];omega) (fun H12 k12 hn=>?_);have hs:=qW hs hn;clear hn
        repeat' first|refine zTw ?_|intro _ _ hs|intro K0 hK0|intro hc|refine dI ?_ ?_|(refine hK0 _ _ ?_;clear hK0)
        exact⟨(H12,k12,_),by unfold mkF;rw[e];exact hs,Or.inl ⟨⟨rfl,rfl,rfl,rfl,rfl,trivial⟩,rfl⟩⟩
       ·skip
        have e:vJ t 6=powF (evF t (yG t)) t.pr:=by unfold vJ;simp[hop]
        rw[e] at hlen hlen2
        repeat' first|refine zTw ?_|intro _ _ hs|intro K0 hK0|intro hc|refine dI ?_ ?_|(refine hK0 _ _ ?_;clear hK0)
        refine (QY0 kt) (qZ hs) (by omega) (by dsimp only;rw[List.length_nil];omega) (fun H12 k12 hn=>?_);have hs:=qW hs hn;clear hn
        repeat' first|refine zTw ?_|intro _ _ hs|intro K0 hK0|intro hc|refine dI ?_ ?_|(refine hK0 _ _ ?_;clear hK0)
        exact⟨(H12,k12,_),by unfold mkF;rw[e];exact hs,Or.inl ⟨⟨rfl,rfl,rfl,rfl,rfl,trivial⟩,rfl⟩⟩
       ·skip
        have e:vJ t 8=powF (evF t (yC t)) t.pr:=by unfold vJ;simp[hop]
        rw[e] at hlen hlen2
        repeat' first|refine zTw ?_|intro _ _ hs|intro K0 hK0|intro hc|refine dI ?_ ?_|(refine hK0 _ _ ?_;clear hK0)
        refine (QX0 kt (by decide) (by decide)) (qZ hs) (by omega) (by dsimp only;rw[List.length_nil];omega) (fun H12 k12 hn=>?_);have hs:=qW hs hn;clear hn
        repeat' first|refine zTw ?_|intro _ _ hs|intro K0 hK0|intro hc|refine dI ?_ ?_|(refine hK0 _ _ ?_;clear hK0)
        exact⟨(H12,k12,_),by unfold mkF;rw[e];exact hs,Or.inl ⟨⟨rfl,rfl,rfl,rfl,rfl,trivial⟩,rfl⟩⟩
      ·have ha2:alg=9\/alg=10\/alg=8:=by simpa [algK,hop] using ha
       rcases ha2 with rfl | rfl | rfl
       ·skip
        have e:vJ t 9=prsF t (pwF t):=by unfold vJ;simp[hop]
        rw[e] at hlen hlen2
        repeat' first|refine zTw ?_|intro _ _ hs|intro K0 hK0|intro hc|refine dI ?_ ?_|(refine hK0 _ _ ?_;clear hK0)
        refine (QW0 kt (by decide) (by decide)) (qZ hs) (by omega) (by dsimp only;rw[List.length_nil];omega) (fun H12 k12 hn=>?_);have hs:=qW hs hn;clear hn
        repeat' first|refine zTw ?_|intro _ _ hs|intro K0 hK0|intro hc|refine dI ?_ ?_|(refine hK0 _ _ ?_;clear hK0)
        exact⟨(H12,k12,_),by unfold mkF;rw[e];exact hs,Or.inl ⟨⟨rfl,rfl,rfl,rfl,rfl,trivial⟩,rfl⟩⟩
       ·skip
        have e:vJ t 10=prsF t xorF:=by unfold vJ;simp[hop]
        rw[e] at hlen hlen2
        repeat' first|refine zTw ?_|intro _ _ hs|intro K0 hK0|intro hc|refine dI ?_ ?_|(refine hK0 _ _ ?_;clear hK0)
        refine (QV0 kt (by decide) rfl) (qZ hs) (by omega) (by dsimp only;rw[List.length_nil];omega) (fun H12 k12 hn=>?_);have hs:=qW hs hn;clear hn
        repeat' first|refine zTw ?_|intro _ _ hs|intro K0 hK0|intro hc|refine dI ?_ ?_|(refine hK0 _ _ ?_;clear hK0)
        exact⟨(H12,k12,_),by unfold mkF;rw[e];exact hs,Or.inl ⟨⟨rfl,rfl,rfl,rfl,rfl,trivial⟩,rfl⟩⟩
       ·skip
        have e:vJ t 8 = [buT t (b1F t)]++(powF (evF t (xn t)) t.pr ++ [buT t (b2F t)]):=by unfold vJ;simp[hop]
        rw[e] at hlen hlen2
        repeat' first|refine zTw ?_|intro _ _ hs|intro K0 hK0|intro hc|refine dI ?_ ?_|(refine hK0 _ _ ?_;clear hK0)
        refine (QU0 kt) (qZ hs) (by omega) (by dsimp only;rw[List.length_nil];omega) (fun H12 k12 hn=>?_);have hs:=qW hs hn;clear hn
        repeat' first|refine zTw ?_|intro _ _ hs|intro K0 hK0|intro hc|refine dI ?_ ?_|(refine hK0 _ _ ?_;clear hK0)
        exact⟨(H12,k12,_),by unfold mkF;rw[e];exact hs,Or.inl ⟨⟨rfl,rfl,rfl,rfl,rfl,trivial⟩,rfl⟩⟩
      ·have ha2:alg=7\/alg=9\/alg=11:=by simpa [algK,hop] using ha
       rcases ha2 with rfl | rfl | rfl
       ·skip
        have e:vJ t 7=qM (evF t (Qq t)) t.pr:=by unfold vJ;simp[hop]
        rw[e] at hlen hlen2
        repeat' first|refine zTw ?_|intro _ _ hs|intro K0 hK0|intro hc|refine dI ?_ ?_|(refine hK0 _ _ ?_;clear hK0)
        refine (QS0 kt) (qZ hs) (by omega) (by dsimp only;rw[List.length_nil];omega) (fun H12 k12 hn=>?_);have hs:=qW hs hn;clear hn
        repeat' first|refine zTw ?_|intro _ _ hs|intro K0 hK0|intro hc|refine dI ?_ ?_|(refine hK0 _ _ ?_;clear hK0)
        exact⟨(H12,k12,_),by unfold mkF;rw[e];exact hs,Or.inl ⟨⟨rfl,rfl,rfl,rfl,rfl,trivial⟩,rfl⟩⟩
       ·skip
        have e:vJ t 9=qM (evF t (Qp t)) t.pr:=by unfold vJ;simp[hop]
        rw[e] at hlen hlen2
        repeat' first|refine zTw ?_|intro _ _ hs|intro K0 hK0|intro hc|refine dI ?_ ?_|(refine hK0 _ _ ?_;clear hK0)
        refine (QR0 kt (by decide) (by decide)) (qZ hs) (by omega) (by dsimp only;rw[List.length_nil];omega) (fun H12 k12 hn=>?_);have hs:=qW hs hn;clear hn
        repeat' first|refine zTw ?_|intro _ _ hs|intro K0 hK0|intro hc|refine dI ?_ ?_|(refine hK0 _ _ ?_;clear hK0)
        exact⟨(H12,k12,_),by unfold mkF;rw[e];exact hs,Or.inl ⟨⟨rfl,rfl,rfl,rfl,rfl,trivial⟩,rfl⟩⟩
       ·skip
        have e:vJ t 11=hlvF t:=by unfold vJ;simp[hop]
        rw[e] at hlen hlen2
        repeat' first|refine zTw ?_|intro _ _ hs|intro K0 hK0|intro hc|refine dI ?_ ?_|(refine hK0 _ _ ?_;clear hK0)
        refine (QT0 kt) (qZ hs) (by omega) (by dsimp only;rw[List.length_nil];omega) (fun H12 k12 hn=>?_);have hs:=qW hs hn;clear hn
        repeat' first|refine zTw ?_|intro _ _ hs|intro K0 hK0|intro hc|refine dI ?_ ?_|(refine hK0 _ _ ?_;clear hK0)
        exact⟨(H12,k12,_),by unfold mkF;rw[e];exact hs,Or.inl ⟨⟨rfl,rfl,rfl,rfl,rfl,trivial⟩,rfl⟩⟩
      ·have ha2:alg=7\/alg=5:=by simpa [algK,hop] using ha
       rcases ha2 with rfl | rfl
       ·skip
        have e:vJ t 7=powF (evF t (Qn t)) t.pr:=by unfold vJ;simp[hop]
        rw[e] at hlen hlen2
        repeat' first|refine zTw ?_|intro _ _ hs|intro K0 hK0|intro hc|refine dI ?_ ?_|(refine hK0 _ _ ?_;clear hK0)
        refine (QP0 kt (by decide)) (qZ hs) (by omega) (by dsimp only;rw[List.length_nil];omega) (fun H12 k12 hn=>?_);have hs:=qW hs hn;clear hn
        repeat' first|refine zTw ?_|intro _ _ hs|intro K0 hK0|intro hc|refine dI ?_ ?_|(refine hK0 _ _ ?_;clear hK0)
        exact⟨(H12,k12,_),by unfold mkF;rw[e];exact hs,Or.inl ⟨⟨rfl,rfl,rfl,rfl,rfl,trivial⟩,rfl⟩⟩
       ·skip
        have e:vJ t 5=powF (rdT t) t.pr++powF (bcT t) t.pr:=by unfold vJ;simp[hop]
        rw[e] at hlen hlen2
        repeat' first|refine zTw ?_|intro _ _ hs|intro K0 hK0|intro hc|refine dI ?_ ?_|(refine hK0 _ _ ?_;clear hK0)
        refine (QQ0 kt) (qZ hs) (by omega) (by dsimp only;rw[List.length_nil];omega) (fun H12 k12 hn=>?_);have hs:=qW hs hn;clear hn
        repeat' first|refine zTw ?_|intro _ _ hs|intro K0 hK0|intro hc|refine dI ?_ ?_|(refine hK0 _ _ ?_;clear hK0)
        exact⟨(H12,k12,_),by unfold mkF;rw[e];exact hs,Or.inl ⟨⟨rfl,rfl,rfl,rfl,rfl,trivial⟩,rfl⟩⟩
      ·have ha2:alg=7:=by simpa [algK,hop] using ha
       subst ha2;have e:vJ t 7=hloF t:=by unfold vJ;simp[hop]
       rw[e] at hlen hlen2;have lm:=((hs.g (i:=0) rfl).2 rfl).elim (fun h=>h.elim) id;have lk:=((hs.g (i:=1) rfl).2 rfl).elim (fun h=>h.elim) id;have lb:=qJ hb;have lc:=qJ hcb
       repeat' first|refine zTw ?_|intro _ _ hs|intro K0 hK0|intro hc|refine dI ?_ ?_|(refine hK0 _ _ ?_;clear hK0)
       refine add_72 kt hop (qZ hs) (by omega) (by rw[List.length_nil];omega) (g.up (qc hs)) (gw.up (qc hs)) (by omega) (by omega) (by omega) (fun H12 k12 hn=>?_);have hs:=qW hs hn;clear hn
       repeat' first|refine zTw ?_|intro _ _ hs|intro K0 hK0|intro hc|refine dI ?_ ?_|(refine hK0 _ _ ?_;clear hK0)
       exact⟨(H12,k12,_),by unfold mkF;rw[e];exact hs,Or.inl ⟨⟨rfl,rfl,rfl,rfl,rfl,trivial⟩,rfl⟩⟩
     ·clear hs
      rintro ⟨H12,k12,r12⟩ hs;dsimp only at hs ⊢;refine vg tok _ ?_
      repeat' first|refine zRw ?_|intro _ _ hs|intro K0 hK0|(refine hK0 _ _ ?_;clear hK0)
      refine qp tok mx [0,0,0,4,12,28,60,127,255,511] [true,false,false,false,false,false,false,false,false,false] (.first 1 (.first 2 (.first 3 (.first 4 (.first 5 (.alt 0 (.first 6 (.first 7 (.first 8 (.first 9 .done)))) (.alt 6 (.first 0 (.first 7 (.first 8 (.first 9 .done)))) .no))))))) (by kernel_rfl) ?_;refine qw (fun K0 hK0=>?_)
      repeat' first|refine zTw ?_|intro _ _ hs|intro K0 hK0|intro hc|refine dI ?_ ?_|(refine hK0 _ _ ?_;clear hK0)
      iterate 3 (
       all_goals try (first | refine And.intro ?_ trivial | refine And.intro ?_ (And.intro ?_ trivial) | refine And.intro ?_ (And.intro ?_ (And.intro ?_ trivial)))
       all_goals try (
        repeat' first|refine zTw ?_|intro _ _ hs|intro K0 hK0|intro hc|refine dI ?_ ?_|(refine hK0 _ _ ?_;clear hK0)
        )
       all_goals try (
        refine c73 (mkF t alg).length hlen (hs.get 1 rfl) (off:=0) rfl (by omega) (Nat.le_refl _) (fun H13 k13 o13 off13 cap13 w13 L13 hn hb13 ho13 hof13 hcap13 hp13 hpw13=>?_);have hs:=pkH (qL hs hn) [0,2,3] (L' := [(true,mb,mkB t b c r12 k12 (mkF t alg).length),(true,rb, .cells true 1 scZ),(true,xb, .cells true 1 (tkC t b c))])
        have hs:=hs.add (c:=false) hb13 (fun i p hi=>by
         match i,hi with
         | 0,hi=>cases hi;exact Un (hs.get 0 rfl) hb13 (by decide)
         | 1,hi=>cases hi;exact Un (hs.get 1 rfl) hb13 (by decide)
         | 2,hi=>cases hi;exact Un (hs.get 2 rfl) hb13 (by decide)) (fun e=>by cases e)
        clear hn
        repeat' first|refine zTw ?_|intro _ _ hs|intro K0 hK0|intro hc|refine dI ?_ ?_|(refine hK0 _ _ ?_;clear hK0)
        )
       )
      all_goals (
       change resK T _ _ _ _;refine vV (by rfl) (by rfl) (hs.get 2 rfl) (by rfl) ?_;refine⟨_,rfl,_,rfl,_,rfl,_,rfl,_,rfl,_,rfl,_,rfl,_,rfl, ?_⟩;refine hok _ k13 o13 off13 cap13 w13 L13 (mkF t alg).length (qc hs) (hs.get 0 rfl) ho13 hof13 ?_ hpw13;refine hp13.trans ?_;unfold wnd;rw[List.drop_zero,List.take_of_length_le (Nat.le_refl _)]
       )
    ·have hno:=hno h0 hin
     rw[decide_eq_false hin];refine ve tok ?_
     repeat' first|refine zTw ?_|intro _ _ hs|intro K0 hK0|intro hc|refine dI ?_ ?_|(refine hK0 _ _ ?_;clear hK0)
     change resK T _ _ _ _;refine vV (by rfl) (by rfl) (hs.get 1 rfl) (by rfl) ?_;refine⟨_,rfl,_,rfl,_,rfl,_,rfl,_,rfl,_,rfl,_,rfl,_,rfl, ?_⟩;exact hno _ (qc hs)
 ·have hbad:=hbad h0
  generalize chkF t=z at h0 hbad ⊢
  repeat' first|refine zTw ?_|intro _ _ hs|intro K0 hK0|intro hc|refine dI ?_ ?_|(refine hK0 _ _ ?_;clear hK0)
  refine ve tok ?_
  repeat' first|refine zTw ?_|intro _ _ hs|intro K0 hK0|intro hc|refine dI ?_ ?_|(refine hK0 _ _ ?_;clear hK0)
  change resK T _ _ _ _;refine vV (by rfl) (by rfl) (hs.get 1 rfl) (by rfl) ?_;refine⟨_,rfl,_,rfl,_,rfl,_,rfl,_,rfl,_,rfl,_,rfl,_,rfl, ?_⟩;exact hbad _ (qc hs)
end Go.Af.Tryz
namespace Go.Af.Tryz
open Go Go.Proofs
open Go.Af.Coll (St befF befL keyL)

def JC (ms:List Msg):Prop := ∃ f:Int->Int->Int, ∀ m∈ms,m.jn=f m.fr m.to
theorem JC.const {ms:List Msg} (c:Int) (h : ∀ m∈ms,m.jn=c):JC ms:=⟨fun _ _=>c,h⟩
theorem vz0 : ∀ {xs ys:List St},xs.Perm ys->xs.Pairwise (fun a b=>befF b a=false)->ys.Pairwise (fun a b=>befF b a=false)->(∀ x∈xs, ∀ y∈xs,keyL x=keyL y->x=y)->xs=ys
 | [],ys,p,_,_,_=>by rw[List.nil_perm.1 p]
 | x::xs,[],p,_,_,_=>by have:=p.length_eq;simp at this
 | x::xs,y::ys,p,hx,hy,hk=>by
   have hxy:x=y:=by
    have h1:x∈y::ys:=p.mem_iff.1 List.mem_cons_self;have h2:y∈x::xs:=p.mem_iff.2 List.mem_cons_self;rcases List.mem_cons.1 h1 with h1 | h1
    ·exact h1
    ·rcases List.mem_cons.1 h2 with h2 | h2
     ·exact h2.symm
     ·have a:=(List.pairwise_cons.1 hx).1 y h2
      have b:=(List.pairwise_cons.1 hy).1 x h1;refine hk x List.mem_cons_self y (List.mem_cons_of_mem _ h2) ?_;unfold befF at a b;rcases WC (keyL x) (keyL y) rfl with c | c | c
      ·rw[b] at c;cases c
      ·exact c
      ·rw[a] at c;cases c
   subst hxy;rw[vz0 ((List.perm_cons x).1 p) (List.pairwise_cons.1 hx).2 (List.pairwise_cons.1 hy).2 (fun a ha b hb=>hk a (List.mem_cons_of_mem _ ha) b (List.mem_cons_of_mem _ hb))]
theorem uL0 {r:Int} {m:Msg} {x:St} (h:x∈stM r m):x.rd=r/\x.fr=m.fr/\x.to=m.to/\x.jn=m.jn:=by
 unfold stM at h;obtain ⟨i,_,rfl⟩:=List.mem_map.1 h;exact⟨rfl,rfl,rfl,rfl⟩
theorem XA {x:St} : ∀ {rs:List (List Msg)} {r:Nat},x∈stsF r rs->∃ i, ∃ h:i<rs.length,x.rd=((r+i:Nat):Int)/\∃ m∈rs[i],x.fr=m.fr/\x.to=m.to/\x.jn=m.jn
 | [],_,h=>by cases h
 | ms::rs,r,h=>by
   rw[stsF] at h;rcases List.mem_append.1 h with h | h
   ·obtain ⟨m,hm,h⟩:=List.mem_flatMap.1 h
    have:=uL0 h;exact⟨0,by simp,this.1,m,hm,this.2⟩
   ·obtain ⟨i,hi,h1,h2⟩:=XA h
    exact⟨i+1,by rw[List.length_cons];omega,by rw[h1];congr 1;omega,by simpa using h2⟩
theorem key_inj {x y:St} (h:keyL x=keyL y):x.rd=y.rd/\x.fr=y.fr/\x.to=y.to/\x.sr=y.sr/\x.ds=y.ds:=by
 unfold keyL at h
 simpa using h
theorem uR0 {rs:List (List Msg)} {r:Nat} (h : ∀ ms∈rs,JC ms) : ∀ x∈stsF r rs, ∀ y∈stsF r rs,keyL x=keyL y->x=y:=by
 intro x hx y hy hk;obtain ⟨h1,h2,h3,h4,h5⟩:=key_inj hk;obtain ⟨i,hi,a1,m,hm,a2,a3,a4⟩:=XA hx;obtain ⟨j,hj,b1,q,hq,b2,b3,b4⟩:=XA hy;have hij:i=j:=by rw[a1,b1] at h1;omega
 subst hij;obtain ⟨f,hf⟩:=h _ (List.getElem_mem hi);have h6:x.jn=y.jn:=by rw[a4,b4,hf m hm,hf q hq,<- a2,<- a3,<- b2,<- b3,h2,h3]
 cases x;cases y;simp only at h1 h2 h3 h4 h5 h6;subst h1;subst h2;subst h3;subst h4;subst h5;subst h6;rfl
theorem yc {ms:Int->List Msg} {p:Int} (h : ∀ i,JC (ms i)) : ∀ q∈qM ms p,JC q:=fun q hq=>by
 unfold qM at hq;obtain ⟨i,_,rfl⟩:=List.mem_map.1 hq;exact h _
theorem VX {ms:Int->List Msg} {p:Int} (h : ∀ i,JC (ms i)) : ∀ q∈powF ms p,JC q:=fun q hq=>by
 unfold powF at hq;obtain ⟨i,_,rfl⟩:=List.mem_map.1 hq;exact h _
theorem Zg {t:Tk} {mk:Int->Int->Msg} {i:Int} (c:Int) (h : ∀ r,(mk i r).jn=c):JC (evF t mk i):=JC.const c (fun m hm=>by
 unfold evF at hm;obtain ⟨r,_,rfl⟩:=List.mem_map.1 hm
 exact h _)
theorem Yq {l:List Int} {f:Int->Msg} (c:Int) (h : ∀ x,(f x).jn=c):JC (l.map f):=JC.const c (fun m hm=>by
 obtain ⟨r,_,rfl⟩:=List.mem_map.1 hm
 exact h _)
theorem Zf {l:List Int} {g:Int->List Msg} (c:Int) (h : ∀ x, ∀ m∈g x,m.jn=c):JC (l.flatMap g):=JC.const c (fun m hm=>by
 obtain ⟨r,_,hm⟩:=List.mem_flatMap.1 hm
 exact h _ m hm)
theorem Yr {a b:List (List Msg)} (ha : ∀ q∈a,JC q) (hb : ∀ q∈b,JC q) : ∀ q∈a++b,JC q:=fun q hq=>(List.mem_append.1 hq).elim (ha q) (hb q)
theorem mb_lt {e i j:Int} (h0:0<=e):i<j↔mbF e i<mbF e j:=by unfold mbF;split <;> split <;> omega
theorem if_jc {p:Prop} [Decidable p] {a b:List (List Msg)} (h1 : ∀ q∈a,JC q) (h2 : ∀ q∈b,JC q) : ∀ q∈(if p then a else b),JC q:=by
 split
 ·exact h1
 ·exact h2
theorem jc_all (t:Tk) (a:Int) (kt:TkOk t) : ∀ q∈vJ t a,JC q:=by
 have one : ∀ m:Msg,JC [m]:=fun m=>JC.const m.jn (fun q hq=>by rcases List.mem_singleton.1 hq with rfl;rfl)
 have o1:=yc (p:=t.pr) (ms:=bcL t) (fun i=>one _);have o2:=VX (p:=t.pr) (ms:=bcT t) (fun i=>Yq 0 (fun x=>rfl))
 have o3 : ∀ q∈chnF t,JC q:=fun q hq=>by
  unfold chnF at hq;split at hq
  ·cases hq
  ·obtain ⟨i,_,rfl⟩:=List.mem_map.1 hq
   refine Zf (if t.op=2 then 2 else 0) (fun x m hm=>?_);unfold chG at hm;split at hm
   ·rcases List.mem_singleton.1 hm with rfl
    unfold chM;split <;> rfl
   ·cases hm
 have o4 : ∀ of, ∀ q∈wC t of,JC q:=fun of q hq=>by
  unfold wC at hq;obtain ⟨i,_,rfl⟩:=List.mem_map.1 hq;refine Zf 0 (fun x m hm=>?_);unfold deG at hm;obtain ⟨y,_,rfl⟩:=List.mem_map.1 hm;rfl
 have o5:=yc (p:=t.pr) (ms:=evF t (uP t)) (fun i=>Zg 0 (fun r=>rfl));have o6:=yc (p:=t.pr) (ms:=rdL t) (fun i=>by unfold rdL;split <;> exact one _);have o7:=VX (p:=t.pr) (ms:=rdT t) (fun i=>Yq 2 (fun x=>rfl));have o8:=yc (p:=t.pr) (ms:=evF t (yH t)) (fun i=>Zg 1 (fun r=>rfl));have o9:=yc (p:=t.pr) (ms:=evF t (yD t)) (fun i=>Zg 0 (fun r=>rfl));have o10:=yc (p:=t.pr) (ms:=scL t) (fun i=>one _);have o11:=VX (p:=t.pr) (ms:=scD t) (fun i=>Yq 1 (fun x=>rfl));have o12:=yc (p:=t.pr) (ms:=gaL t) (fun i=>one _)
 have o13:=VX (p:=t.pr) (ms:=gaT t) (fun i=>Zf 0 (fun x m hm=>by
  unfold gaG at hm;obtain ⟨y,_,rfl⟩:=List.mem_map.1 hm
  rfl))
 have o14:=yc (p:=t.pr) (ms:=stL t) (fun i=>one _);have o15:=yc (p:=t.pr) (ms:=evF t (Qr t)) (fun i=>Zg 0 (fun r=>rfl));have o16:=VX (p:=t.pr) (ms:=evF t (yG t)) (fun i=>Zg 0 (fun r=>rfl));have o17:=VX (p:=t.pr) (ms:=evF t (yC t)) (fun i=>Zg 0 (fun r=>rfl))
 have o18 : ∀ pf, ∀ q∈prsF t pf,JC q:=fun pf q hq=>by
  unfold prsF at hq;obtain ⟨i,_,rfl⟩:=List.mem_map.1 hq;exact Zg 0 (fun r=>rfl)
 have o19 : ∀ pf,JC (buT t pf):=fun pf=>Zf 0 (fun x m hm=>by
  unfold buG at hm;obtain ⟨y,_,rfl⟩:=List.mem_map.1 hm
  rfl)
 have o20:=VX (p:=t.pr) (ms:=evF t (xn t)) (fun i=>Zg 0 (fun r=>rfl));have o21:=yc (p:=t.pr) (ms:=evF t (Qq t)) (fun i=>Zg 1 (fun r=>rfl));have o22:=yc (p:=t.pr) (ms:=evF t (Qp t)) (fun i=>Zg 2 (fun r=>rfl))
 have o23 : ∀ q∈hlvF t,JC q:=fun q hq=>by
  unfold hlvF at hq;obtain ⟨h,_,rfl⟩:=List.mem_map.1 hq;refine⟨sidF,fun m hm=>?_⟩;unfold evF at hm;obtain ⟨r,_,rfl⟩:=List.mem_map.1 hm;rfl
 have o24:=VX (p:=t.pr) (ms:=evF t (Qn t)) (fun i=>Zg 2 (fun r=>rfl))
 have o25 : ∀ q∈hloF t,JC q:=fun q hq=>by
  unfold hloF at hq;obtain ⟨j,_,rfl⟩:=List.mem_map.1 hq;refine Zf 0 (fun x m hm=>?_);unfold haG at hm;split at hm
  ·cases hm
  ·rcases List.mem_singleton.1 hm with rfl
   rfl
 have hcp:=qp0 kt.pr
 have he:0<=exF t:=by
  have:exF t=t.pr-cpF t:=rfl;have:cpF t=(2:Int) ^ flF t.pr:=rfl;omega
 have o26 : ∀ q∈dblF t,JC q:=fun q hq=>by
  have hX : ∀ m:List Msg,JC m->∀ q∈(dbX t m).flatten,JC q:=fun m hm q hq=>by
   unfold dbX at hq;split at hq
   ·simp at hq;subst hq;exact hm
   ·simp at hq
  unfold dblF dbQ at hq;rw[List.flatten_append,List.flatten_append] at hq;rcases List.mem_append.1 hq with hq | hq
  ·rcases List.mem_append.1 hq with hq | hq
   ·exact hX _ (Yq 2 (fun x=>rfl)) q hq
   ·obtain ⟨l,hl,hq⟩:=List.mem_flatten.1 hq
    obtain ⟨j,_,rfl⟩:=List.mem_map.1 hl;rcases List.mem_singleton.1 hq with rfl
    refine⟨sidF,fun m hm=>?_⟩;unfold dbR at hm;obtain ⟨x,_,rfl⟩:=List.mem_map.1 hm;show sidF x (xorF x ((2:Int) ^ j))=sidF (mbF (exF t) x) (mbF (exF t) (xorF x ((2:Int) ^ j)));unfold sidF;simp only[<- mb_lt he]
  ·exact hX _ (Yq 0 (fun x=>rfl)) q hq
 have ob : ∀ pf, ∀ q∈[buT t pf],JC q:=fun pf q hq=>by rcases List.mem_singleton.1 hq with rfl;exact o19 pf
 unfold vJ
 repeat' first|exact o1 |exact o2 |exact o3 |exact (Yr (o4 _) o5) |exact o6 |exact o7 |exact (Yr o7 o2) |exact o26 |exact (Yr o8 o9) |exact o10 |exact o11 |exact o12 |exact o13 |exact o14 |exact (o4 _) |exact o15 |exact o16 |exact o17 |exact (o18 _) |exact (Yr (ob _) (Yr o20 (ob _))) |exact o21 |exact o22 |exact o23 |exact o24 |exact o25|refine if_jc ?_ ?_
theorem uM0 {t:Tk} {a:Int} (kt:TkOk t) {xs ys:List St} (hx:xs.Perm (stsF 0 (vJ t a))) (hy:ys.Perm (stsF 0 (vJ t a))) (sx:xs.Pairwise (fun a b=>befF b a=false)) (sy:ys.Pairwise (fun a b=>befF b a=false)):xs=ys:=by
 have hk:=uR0 (r:=0) (jc_all t a kt);exact vz0 (hx.trans hy.symm) sx sy (fun x h1 y h2=>hk x (hx.mem_iff.1 h1) y (hx.mem_iff.1 h2))
end Go.Af.Tryz
