/- A part of the proof. -/
import Derived.Test.YtmnjcogpchodhaaGreatMGH
import Derived.Test.YtmnjcogpchodhaaGreatMCA
set_option linter.all false
set_option maxHeartbeats 4000000
set_option maxRecDepth 100000
namespace Go.Af.Tryz
open Go Go.Proofs Tryz
attribute [local irreducible] awp qj qI qK qE qm isCells ql qi qB qx qh roundEnd zG wZ keyK wE
variable {H:List Blk}
variable {R:Value->List Blk->Prop}

theorem c19 {xs ys:List Int} {a b:Nat} {wa wb:Bool} (ha:bget H a=some (.cells wa 1 (ints xs))) (hb:bget H b=some (.cells wb 1 (ints ys))) (hl:xs.length<=1000000) (h:R (.bool (decide (xs=ys))) H):qj prog 19 [sv a xs.length,sv b ys.length] H R:=by
 refine avN call19 func19 ntmps19 ?_;refine qg (fun _ hKs=>hKs _ _ ?_);clear hKs;have hs:=HS.start H none';by_cases hq:xs.length=ys.length
 ·skip
  repeat' first|refine zQw ?_|intro _ _ hs|intro K0 hK0|intro hc|refine dI ?_ ?_
  refine vC (α := Nat) tok (fun i=>i<=xs.length/\∀ j,j<i->xs[j]? = ys[j]?) (fun i=>[(0,sv a xs.length),(1,sv b ys.length),(5, .int .i64 i)]) (fun _=>H) (fun i=>xs.length-i)
   0 ⟨Nat.zero_le _,fun j hj=>absurd hj (by omega)⟩ ⟨⟨_,rfl, .rfl⟩,⟨_,rfl, .rfl⟩,⟨_,rfl, .rfl⟩,trivial⟩ WkH.rfl ?_
  rintro i ⟨hi,he⟩
  try dsimp only at hi he ⊢
  repeat' first|refine zPw ?_|intro _ _ hs|intro K0 hK0
  refine And.intro (fun hc=>?_) (fun hc=>?_)
  ·have hlt:i<xs.length:=by simp at hc;omega
   clear hc
   repeat' first|refine zPw ?_|intro _ _ hs|intro K0 hK0
   refine qp tok mx [0,0,3,7,0,0,48,112,255] [false,false,false,false,true,true,true,true,false] (.first 0 (.first 1 (.first 2 (.first 3 (.first 4 (.first 5 (.first 6 (.first 7 (.first 8 .done))))))))) (by kernel_rfl) ?_;refine qw (fun K0 hK0=>?_);have hlt2:i<ys.length:=by omega
   repeat' first|refine iS hs ?_|refine rS hs ?_|refine eI _ (aI rfl ?_)|refine eI 0 (aI (by decide) ?_)|refine eI 1 (aI (by decide) ?_)|refine eI 2 (aI (by decide) ?_)|refine eI 3 (aI (by decide) ?_)|refine zB ?_|refine zA ?_|refine wG ?_|refine oJ ?_|refine qo hs (fun _ _ _ _ hs=>?_)|refine QD hs (fun _ _ _ _ hs=>?_)|refine sS hs 0 (fun _ _ hs=>?_)|refine sS hs 1 (fun _ _ hs=>?_)|refine sS hs 2 (fun _ _ hs=>?_)|refine sS hs 3 (fun _ _ hs=>?_)|refine sS hs 4 (fun _ _ hs=>?_)|refine sS hs 5 (fun _ _ hs=>?_)|refine xE tok (hs.get 0 rfl) ?_|refine wM hs 0 rfl (fun _ hs=>?_)|refine zJ hs 0 rfl (fun _ hs=>?_)|refine zH hs 0 rfl (by intro h;cases h) (fun _ hs=>?_)|refine xE tok (hs.get 1 rfl) ?_|refine wM hs 1 rfl (fun _ hs=>?_)|refine zJ hs 1 rfl (fun _ hs=>?_)|refine zH hs 1 rfl (by intro h;cases h) (fun _ hs=>?_)|refine xE tok (hs.get 2 rfl) ?_|refine wM hs 2 rfl (fun _ hs=>?_)|refine zJ hs 2 rfl (fun _ hs=>?_)|refine zH hs 2 rfl (by intro h;cases h) (fun _ hs=>?_)|refine xE tok (hs.get 3 rfl) ?_|refine wM hs 3 rfl (fun _ hs=>?_)|refine zJ hs 3 rfl (fun _ hs=>?_)|refine zH hs 3 rfl (by intro h;cases h) (fun _ hs=>?_)|refine xE tok (hs.get 4 rfl) ?_|refine wM hs 4 rfl (fun _ hs=>?_)|refine zJ hs 4 rfl (fun _ hs=>?_)|refine zH hs 4 rfl (by intro h;cases h) (fun _ hs=>?_)|refine xE tok (hs.get 5 rfl) ?_|refine wM hs 5 rfl (fun _ hs=>?_)|refine zJ hs 5 rfl (fun _ hs=>?_)|refine zH hs 5 rfl (by intro h;cases h) (fun _ hs=>?_)|first|(refine qO ha ?_)|(refine qO hb ?_)|(refine qF ha ?_)|(refine qF hb ?_)|(refine vM hlt ?_)|(refine vM hlt2 ?_)|(refine And.intro ?_ ?_)|exact trivial|refine rd ?_|refine hK0 _ _ ?_|fail
   ·intro hc
    have hne:xs[i]! ≠ ys[i]! := by
     intro e;rw[e] at hc;simp at hc
    rw[decide_eq_false (fun e=>hne (by rw[e]))] at h
    repeat' first|refine zPw ?_|intro _ _ hs|intro K0 hK0
    exact h
   ·intro hc
    have heq:xs[i]! = ys[i]! := by
     by_cases e:xs[i]! = ys[i]!
     ·exact e
     ·rw[decide_eq_false e] at hc
      simp at hc
    have he2 : ∀ j,j<i+1->xs[j]? = ys[j]? := fun j hj=>by
     by_cases hji:j=i
     ·subst hji
      rw[getElem!_pos xs j hlt,getElem!_pos ys j hlt2] at heq;rw[List.getElem?_eq_getElem hlt,List.getElem?_eq_getElem hlt2,heq]
     ·exact he j (by omega)
    repeat' first|refine zPw ?_|intro _ _ hs|intro K0 hK0
    exact⟨i+1,⟨hlt,he2⟩,by omega,Or.inl ⟨⟨rfl,rfl,rfl,trivial⟩,rfl⟩⟩
  ·have hie:i=xs.length:=by simp at hc;omega
   subst hie
   have he2:xs=ys:=by
    apply List.ext_getElem? 
    intro j;by_cases hj:j<xs.length
    ·exact he j hj
    ·rw[List.getElem?_eq_none (by omega),List.getElem?_eq_none (by omega)]
   rw[decide_eq_true he2] at h
   repeat' first|refine zPw ?_|intro _ _ hs|intro K0 hK0
   exact h
 ·rw[decide_eq_false (fun e=>hq (by rw[e]))] at h
  repeat' first|refine zQw ?_|intro _ _ hs|intro K0 hK0|intro hc|refine dI ?_ ?_
  exact h
def algS (t:Tk):List Int:=if chkF t=0 then algF t.op (powB t.pr) else []
theorem c42 {t:Tk} {b c:Nat} (g:Gr H t.sz b) (hl:t.sz.length<=10) (hw:t.ws.length<=10) (h : ∀ H' k,HS H none' [(true,k,rw' (algS t))] H' -> R (.tuple ⟨[sv k (algS t).length, .int .i64 (chkF t)]⟩) H'):qj prog 42 [tkV t b c] H R:=by
 refine Ql ?_;refine avN call42 func42 ntmps42 ?_;refine qo (HS.start H none') (fun H1 b1 e1 l1 hs=>?_);refine qg (fun _ hKs=>hKs _ _ ?_);clear hKs;clear e1 l1
 repeat' first|refine zPw ?_|intro _ _ hs|intro K0 hK0
 refine c36 (g.up (qc hs)) hl hw (kNo hs (fun H2 hs=>?_));unfold algS at h;by_cases h0:chkF t=0
 ·have kt:=Xi h0
  have hpr:=kt.pr;have hop:=kt.op;rw[if_pos h0] at h;rw[h0] at h ⊢
  cases hq:powB t.pr with
  | true =>
    have hq' := of_decide_eq_true hq;rw[hq] at h;dsimp only[algF] at h
    repeat' first|refine zQw ?_|intro _ _ hs|intro K0 hK0|intro hc|refine dI ?_ ?_
    all_goals try (
     (repeat (first | rw[if_pos (by omega)] at h | rw[if_neg (by omega)] at h))
     exact⟨_,_, .rfl, .rfl,h _ _ (pkH hs [0])⟩)
    all_goals (
     refine vZ hs 1 rfl (by decide) (hs.get 0 rfl) rfl rfl rfl (by decide) (fun H9 k9 e9 l9 hs=>?_)
     repeat' first|refine zPw ?_|intro _ _ hs|intro K0 hK0
     (repeat (first | rw[if_pos (by omega)] at h | rw[if_neg (by omega)] at h))
     exact⟨_,_, .rfl, .rfl,h _ k9 (pkH hs [1])⟩)
  | false =>
    have hq' := of_decide_eq_false hq;rw[hq] at h;dsimp only[algF] at h
    repeat' first|refine zQw ?_|intro _ _ hs|intro K0 hK0|intro hc|refine dI ?_ ?_
    all_goals try (
     (repeat (first | rw[if_pos (by omega)] at h | rw[if_neg (by omega)] at h))
     exact⟨_,_, .rfl, .rfl,h _ _ (pkH hs [0])⟩)
    all_goals (
     refine vZ hs 1 rfl (by decide) (hs.get 0 rfl) rfl rfl rfl (by decide) (fun H9 k9 e9 l9 hs=>?_)
     repeat' first|refine zPw ?_|intro _ _ hs|intro K0 hK0
     (repeat (first | rw[if_pos (by omega)] at h | rw[if_neg (by omega)] at h))
     exact⟨_,_, .rfl, .rfl,h _ k9 (pkH hs [1])⟩)
 ·rw[if_neg h0] at h
  generalize chkF t=z at h0 h ⊢
  repeat' first|refine zQw ?_|intro _ _ hs|intro K0 hK0|intro hc|refine dI ?_ ?_
  have hv:=hs.virt (rw' []);exact⟨.tuple ⟨[sv H2.length 0, .int .i64 z]⟩,H2 ++ [rw' []], .nil2 _ _,WkH.rfl.app _,h _ _ (pkH hv [0])⟩
theorem YG {P:Program} {rd:Bool} {n0 n:Nat} {Q:Ex->List (Nat × Value)->List Blk->Prop} {sl:List (Nat × Value)} {H:List Blk} {x y:Code}
 (hx:awp P rd n0 x (aft n (fun e sl' H' => match e with
   | .normal=>awp P rd n0 y (aft n Q) ⟨n,sl'⟩ H'
   | .exit i=>Q (.exit i) sl' H'
   | .ret=>Q .ret sl' H')) ⟨n,sl⟩ H):awp P rd n0 (.seq x y) (aft n Q) ⟨n,sl⟩ H:=by
 refine VL (wu hx ?_);rintro e ⟨n2,sl2⟩ H2 ⟨rfl,hq⟩
 cases e with
 | normal=>exact hq
 | exit i=>exact⟨rfl,hq⟩
 | ret=>exact⟨rfl,hq⟩
theorem c41 {t:Tk} {b c:Nat} (g:Gr H t.sz b) (hl:t.sz.length<=9223372036854775807) (hw:t.ws.length<=9223372036854775807) (h : ∀ H' k,HS H none' [(true,k,rw' (algS t))] H' -> R (.tuple ⟨[sv k (algS t).length, .int .i64 (chkF t)]⟩) H'):qj prog 41 [tkV t b c] H R:=by
 refine Ql ?_;refine uZ tok call41 func41 rfl ntmps41 rfl (by simp) ?_;have hs:=HS.start H none';refine ve tok ?_;refine qo hs (fun H1 x e1 l1 hs=>?_)
 repeat' first|refine zPw ?_|intro _ _ hs|intro K0 hK0
 clear e1 l1;refine ve tok ?_
 repeat' first|refine zPw ?_|intro _ _ hs|intro K0 hK0
 refine c31 (g.up (qc hs)) hl hw (kNo hs (fun H2 hs=>?_));unfold algS at h;by_cases h0:chkF t=0
 ·have kt:=Xi h0
  have hpr:=kt.pr;have hop:=kt.op;rw[if_pos h0] at h;rw[h0] at h ⊢
  repeat' first|refine zPw ?_|intro _ _ hs|intro K0 hK0
  refine ve tok ?_
  repeat' first|refine zPw ?_|intro _ _ hs|intro K0 hK0
  refine ve tok ?_
  repeat' first|refine zQw ?_|intro _ _ hs|intro K0 hK0|intro hc|refine dI ?_ ?_
  change awp _ _ _ _ _ ⟨_,_::(5, .bool (powB t.pr))::_⟩ _;generalize powB t.pr=q at h ⊢;refine YG ?_
  refine UM tok (α := List Blk × Nat × Nat × List (Int × Value)) (fun z=>HS H none' [(true,z.2.1, .iter (.mapIter (some z.2.2.1) z.2.2.2.length #[] z.2.2.2.length)),(true,z.2.2.1,mpG z.2.2.2),(true,x, .cells true 1 (tkC t b c))] z.1/\z.2.2.2.map Prod.fst=algK t.op)
   (fun z=>[(1, .pointer (some ⟨x,0,none⟩)),(5, .bool q),(6, .slice none 0 0),(25, .pointer (some ⟨z.2.1,0,some 0⟩))]) (fun z=>z.1) ?_ ?_
  ·refine qp tok mx [0,0,2,7,15] [false,false,false,false,false] (.first 1 (.alt 0 (.first 2 (.first 3 (.first 4 .done))) (.alt 2 (.first 0 (.first 3 (.first 4 .done))) .no))) (by kernel_rfl) ?_
   refine qw (fun K0 hK0=>?_)
   repeat' first|refine zPw ?_|intro _ _ hs|intro K0 hK0
   refine And.intro ?_ (And.intro ?_ trivial)
   all_goals (
    repeat' first|refine zPw ?_|intro _ _ hs|intro K0 hK0|(refine c59a hop (fun H5 m' mb j M S hn hj hall hS=>?_);have hs:=hs.call hn rfl;clear hn)
    refine uO0 (hs.get 0 rfl) hj hall ?_
    repeat' first|refine zPw ?_|intro _ _ hs|intro K0 hK0
    refine yF (hs.get 1 rfl) ?_;refine qo hs (fun H6 it e6 l6 hs=>?_)
    repeat' first|refine zPw ?_|intro _ _ hs|intro K0 hK0
    exact⟨(H6,it,mb,S),⟨pkH hs [0,2,3],hS⟩,⟨⟨_,rfl, .rfl⟩,⟨_,rfl, .rfl⟩,⟨_,rfl, .rfl⟩,⟨_,rfl, .rfl⟩,trivial⟩, .rfl⟩)
  ·clear hs
   rintro ⟨H4,it,mb,S⟩ ⟨hs,hS⟩;dsimp only at hs hS ⊢;have hSl:S.length=(algK t.op).length:=by rw[<- hS,List.length_map]
   have hal:=(qw0 hop q).2
   repeat' first|refine zQw ?_|intro _ _ hs|intro K0 hK0|intro hc|refine dI ?_ ?_
   refine vC (α := List Blk × Nat × List Nat) tok (fun z=>HS H none' [(true,it, .iter (.mapIter (some mb) S.length z.2.2.toArray S.length)),(true,mb,mpG S),(true,z.2.1,rw' (selF t.op q z.2.2)),(true,x, .cells true 1 (tkC t b c))] z.1/\z.2.2.Nodup/\∀ y∈z.2.2,y<S.length)
    (fun | ⟨_,k,seen⟩=>[(1, .pointer (some ⟨x,0,none⟩)),(5, .bool q),(6,sv k (selF t.op q seen).length),(25, .pointer (some ⟨it,0,some 0⟩))]) (fun | ⟨H',_,_⟩=>H') (fun z=>S.length-z.2.2.length)
    ⟨H4 ++ [rw' []],H4.length,[]⟩ ⟨pkH (hs.virt _) [1,2,0,3],List.nodup_nil,fun y hy=>by simp at hy⟩ ⟨⟨_,rfl, .rfl⟩,⟨_,rfl, .rfl⟩,⟨_,rfl, .nil _⟩,⟨_,rfl, .rfl⟩,trivial⟩ (WkH.rfl.app _) ?_
   clear hs;rintro ⟨H5,k,seen⟩ ⟨hs,hnd,hlt⟩;dsimp only at hs hnd hlt ⊢;have hsl:=Xw hnd (m:=List.range S.length) (fun y hy=>List.mem_range.2 (hlt y hy));rw[List.length_range] at hsl;have hfl:=zT0 t.op q seen
   repeat' first|refine zPw ?_|intro _ _ hs|intro K0 hK0
   refine QX (hs.get 0 rfl) ?_;refine yF (hs.get 1 rfl) ⟨wc0 S seen,fun e he hse=>?_,fun hall=>?_⟩
   ·obtain ⟨i,hi,rfl⟩:=xm0 he
    have hns:i ∉ seen:=by simpa using hse
    have ha:S[i].1=(algK t.op)[i]! := by
     rw[<- hS,getElem!_pos _ i (by simpa using hi),List.getElem_map]
    refine VO (hs.lt 0 rfl) (fun H6 h1 h2 h3=>?_);have hs:=hs.set (B' := .iter (.mapIter (some mb) S.length (seen ++ [i]).toArray S.length)) 0 rfl h1 (by rw[h2];simp) h3;clear h1 h2 h3
    have hnd' : (seen ++ [i]).Nodup:=by
     rw[List.nodup_append];exact⟨hnd,by simp,fun a h1 b h2 e=>hns (by simp at h2;rw[<- h2,<- e];exact h1)⟩
    have hlt' : ∀ y∈seen ++ [i],y<S.length:=fun y hy=>by
     rcases List.mem_append.1 hy with h1 | h1
     ·exact hlt y h1
     ·simp at h1;omega
    have hsl' := Xw hnd' (m:=List.range S.length) (fun y hy=>List.mem_range.2 (hlt' y hy));rw[List.length_range,List.length_append,List.length_singleton] at hsl'
    repeat' first|refine zQw ?_|intro _ _ hs|intro K0 hK0|intro hc|refine dI ?_ ?_
    refine QX (hs.get 0 rfl) ?_;refine yF (hs.get 1 rfl) ⟨rfl,i,by simp,_,wB0 hi, ?_⟩;have eo:=vD0 t.op q seen i;rw[<- ha] at eo;generalize S[i].1=a at eo ⊢
    cases q with
    | false =>
      repeat' first|refine zQw ?_|intro _ _ hs|intro K0 hK0|intro hc|refine dI ?_ ?_
      all_goals first
       | (rw[if_neg (by unfold okA;(repeat (first | rw[if_pos (by omega)] | rw[if_neg (by omega)]));decide),List.append_nil] at eo
          exact⟨⟨_,k,seen ++ [i]⟩,⟨by dsimp only;rw[eo];exact hs,hnd',hlt'⟩,by dsimp only;rw[List.length_append,List.length_singleton];omega,Or.inl ⟨⟨rfl,rfl,by rw[eo];rfl,rfl,trivial⟩,rfl⟩⟩)
       | (rw[if_pos (by unfold okA;(repeat (first | rw[if_pos (by omega)] | rw[if_neg (by omega)]));(try (first | rfl | (split <;> rfl))))] at eo
          refine vZ hs 3 (us := [.int .i64 a]) rfl (by decide) (hs.get 0 rfl) rfl rfl (by rw[qU];try exact (Nat.mul_one _).symm) (by show (_+1)*(8+1)<=_;omega) (fun H9 k9 e9 l9 hs=>?_);clear e9 l9;have hs:=pkH hs [1,2,3,4] (L' := [(true,it, .iter (.mapIter (some mb) S.length (seen ++ [i]).toArray S.length)),(true,mb,mpG S),(true,k9, .cells true 1 (ints (selF t.op false seen)++ints [a])),(true,x, .cells true 1 (tkC t b c))]);rw[<- zi,<- eo] at hs;have el:(selF t.op false (seen ++ [i])).length=(selF t.op false seen).length+1:=by rw[eo];simp
          repeat' first|refine zPw ?_|intro _ _ hs|intro K0 hK0
          exact⟨⟨_,k9,seen ++ [i]⟩,⟨hs,hnd',hlt'⟩,by dsimp only;rw[List.length_append,List.length_singleton];omega,Or.inl ⟨⟨rfl,rfl,by rw[el];rfl,rfl,trivial⟩,rfl⟩⟩)
    | true =>
      repeat' first|refine zQw ?_|intro _ _ hs|intro K0 hK0|intro hc|refine dI ?_ ?_
      all_goals first
       | (rw[if_neg (by unfold okA;(repeat (first | rw[if_pos (by omega)] | rw[if_neg (by omega)]));decide),List.append_nil] at eo
          exact⟨⟨_,k,seen ++ [i]⟩,⟨by dsimp only;rw[eo];exact hs,hnd',hlt'⟩,by dsimp only;rw[List.length_append,List.length_singleton];omega,Or.inl ⟨⟨rfl,rfl,by rw[eo];rfl,rfl,trivial⟩,rfl⟩⟩)
       | (rw[if_pos (by unfold okA;(repeat (first | rw[if_pos (by omega)] | rw[if_neg (by omega)]));(try (first | rfl | (split <;> rfl))))] at eo
          refine vZ hs 3 (us := [.int .i64 a]) rfl (by decide) (hs.get 0 rfl) rfl rfl (by rw[qU];try exact (Nat.mul_one _).symm) (by show (_+1)*(8+1)<=_;omega) (fun H9 k9 e9 l9 hs=>?_);clear e9 l9;have hs:=pkH hs [1,2,3,4] (L' := [(true,it, .iter (.mapIter (some mb) S.length (seen ++ [i]).toArray S.length)),(true,mb,mpG S),(true,k9, .cells true 1 (ints (selF t.op true seen)++ints [a])),(true,x, .cells true 1 (tkC t b c))]);rw[<- zi,<- eo] at hs;have el:(selF t.op true (seen ++ [i])).length=(selF t.op true seen).length+1:=by rw[eo];simp
          repeat' first|refine zPw ?_|intro _ _ hs|intro K0 hK0
          exact⟨⟨_,k9,seen ++ [i]⟩,⟨hs,hnd',hlt'⟩,by dsimp only;rw[List.length_append,List.length_singleton];omega,Or.inl ⟨⟨rfl,rfl,by rw[el];rfl,rfl,trivial⟩,rfl⟩⟩)
   ·have hfull : ∀ y,y<(algK t.op).length->y∈seen:=fun y hy=>by
     have hy' : y<S.length:=by omega
     have:=hall _ (xL0 hy') (by dsimp only;exact hy')
     simpa using this
    have hsrt:srt (selF t.op q seen)=algF t.op q:=ul0 hop q hnd (fun y hy=>by have:=hlt y hy;omega) hfull;have hlen:(selF t.op q seen).length=(algF t.op q).length:=by rw[<- hsrt];exact (List.length_mergeSort _).symm
    rw[<- hlen] at h
    repeat' first|refine zQw ?_|intro _ _ hs|intro K0 hK0|intro hc|refine dI ?_ ?_
    refine vg tok _ ?_
    repeat' first|refine zPw ?_|intro _ _ hs|intro K0 hK0
    refine c96 (hs.get 2 rfl) (by omega) (fun H7 h1 h2 h3=>?_);rw[hsrt] at h2;have hs:=hs.set 2 rfl h1 h2 h3;clear h1 h2 h3
    repeat' first|refine zPw ?_|intro _ _ hs|intro K0 hK0
    exact⟨_,_, .rfl, .rfl,h _ k (pkH hs [2])⟩
 ·rw[if_neg h0] at h
  generalize chkF t=z at h0 h ⊢
  repeat' first|refine zQw ?_|intro _ _ hs|intro K0 hK0|intro hc|refine dI ?_ ?_
  have hv:=hs.virt (rw' []);exact⟨.tuple ⟨[sv H2.length 0, .int .i64 z]⟩,H2 ++ [rw' []], .nil2 _ _,WkH.rfl.app _,h _ _ (pkH hv [0])⟩
end Go.Af.Tryz
