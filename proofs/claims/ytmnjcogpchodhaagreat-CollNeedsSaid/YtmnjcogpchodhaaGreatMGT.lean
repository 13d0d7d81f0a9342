/- A part of the proof. -/
import Derived.Test.YtmnjcogpchodhaaGreatMGH
import Derived.Test.YtmnjcogpchodhaaGreatMCA
set_option linter.all false
set_option maxHeartbeats 4000000
set_option maxRecDepth 100000
namespace Go.Af.Tryz
open Go Go.Proofs
attribute [local irreducible] awp qj qJ qL qC qo isCells qx qp qA qw qh roundEnd zG wX keyK vY

def algS (t:Tk):List Int:=if chkF t=0 then algF t.op (powB t.pr) else []
theorem XZ {P:Program} {rd:Bool} {n0 n:Nat} {Q:Ex->List (Nat × Value)->List Blk->Prop} {sl:List (Nat × Value)} {H:List Blk} {x y:Code}
 (hx:awp P rd n0 x (aft n (fun e sl' H' => match e with
   | .normal=>awp P rd n0 y (aft n Q) ⟨n,sl'⟩ H'
   | .exit i=>Q (.exit i) sl' H'
   | .ret=>Q .ret sl' H')) ⟨n,sl⟩ H):awp P rd n0 (.seq x y) (aft n Q) ⟨n,sl⟩ H:=by
 refine QQ (vT hx ?_);rintro e ⟨n2,sl2⟩ H2 ⟨rfl,hq⟩
 cases e with
 | normal=>exact hq
 | exit i=>exact⟨rfl,hq⟩
 | ret=>exact⟨rfl,hq⟩
theorem c41 {H:List Blk} {t:Tk} {b c:Nat} {R:Value->List Blk->Prop} (g:Gr H t.sz b) (hl:t.sz.length<=9223372036854775807) (hw:t.ws.length<=9223372036854775807) (h : ∀ H' k,HS H none' [(true,k,rw' (algS t))] H' -> R (.tuple ⟨[sv k (algS t).length, .int .i64 (chkF t)]⟩) H'):qj Tryz.prog 41 [tkV t b c] H R:=by
 refine ut ?_;refine WP tok Tryz.call41 Tryz.func41 rfl Tryz.ntmps41 rfl (by simp) ?_;have hs:=HS.start H none';refine wC tok ?_;refine qi hs (fun H1 x e1 l1 hs=>?_)
 repeat' (first|refine nY (fun K0 hK0=>?_)|refine zAw ?_|refine zNw (fun _ _ hs=>?_)|fail)
 clear e1 l1;refine wC tok ?_
 repeat' (first|refine nY (fun K0 hK0=>?_)|refine zAw ?_|refine zNw (fun _ _ hs=>?_)|fail)
 refine c31 (g.up (qc hs)) hl hw (kNo hs (fun H2 hs=>?_));unfold algS at h;by_cases h0:chkF t=0
 ·have kt:=yz h0
  have hpr:=kt.pr;have hop:=kt.op;rw[if_pos h0] at h;rw[h0] at h ⊢
  repeat' (first|refine nY (fun K0 hK0=>?_)|refine zAw ?_|refine zNw (fun _ _ hs=>?_)|fail)
  refine wC tok ?_
  repeat' (first|refine nY (fun K0 hK0=>?_)|refine zAw ?_|refine zNw (fun _ _ hs=>?_)|fail)
  refine wC tok ?_
  repeat' (first|refine nY (fun K0 hK0=>?_)|refine zAw ?_|refine zNw (fun _ _ hs=>?_)|(refine dI (fun hc=>?_) (fun hc=>?_) <;> try (exfalso;omega))|fail)
  change awp _ _ _ _ _ ⟨_,_::(5, .bool (powB t.pr))::_⟩ _;generalize powB t.pr=q at h ⊢;refine XZ ?_
  refine YQ tok (α := List Blk × Nat × Nat × List (Int × Value)) (fun z=>HS H none' [(true,z.2.1, .iter (.mapIter (some z.2.2.1) z.2.2.2.length #[] z.2.2.2.length)),(true,z.2.2.1,mpG z.2.2.2),(true,x, .cells true 1 (tkC t b c))] z.1/\z.2.2.2.map Prod.fst=algK t.op)
   (fun z=>[(1, .pointer (some ⟨x,0,none⟩)),(5, .bool q),(6, .slice none 0 0),(25, .pointer (some ⟨z.2.1,0,some 0⟩))]) (fun z=>z.1) ?_ ?_
  ·refine qm tok mx [0,0,2,7,15] [false,false,false,false,false] (.first 1 (.alt 0 (.first 2 (.first 3 (.first 4 .done))) (.alt 2 (.first 0 (.first 3 (.first 4 .done))) .no))) (by kernel_rfl) ?_
   refine ql (fun K0 hK0=>?_)
   repeat' (first|refine nY (fun K0 hK0=>?_)|refine zAw ?_|refine zNw (fun _ _ hs=>?_)|fail)
   refine And.intro ?_ (And.intro ?_ trivial)
   all_goals (
    repeat' (first|refine nY (fun K0 hK0=>?_)|refine zAw ?_|refine zNw (fun _ _ hs=>?_)|(refine c59a hop (fun H5 m' mb j M S hn hj hall hS=>?_);have hs:=hs.call hn rfl;clear hn)|fail)
    refine lookG (hs.get 0 rfl) hj hall ?_
    repeat' (first|refine nY (fun K0 hK0=>?_)|refine zAw ?_|refine zNw (fun _ _ hs=>?_)|fail)
    refine zo (hs.get 1 rfl) ?_;refine qi hs (fun H6 it e6 l6 hs=>?_)
    repeat' (first|refine nY (fun K0 hK0=>?_)|refine zAw ?_|refine zNw (fun _ _ hs=>?_)|fail)
    exact⟨(H6,it,mb,S),⟨hs.pick [0,2,3] (by decide) rfl,hS⟩,⟨⟨_,rfl, .rfl⟩,⟨_,rfl, .rfl⟩,⟨_,rfl, .rfl⟩,⟨_,rfl, .rfl⟩,trivial⟩, .rfl⟩)
  ·clear hs
   rintro ⟨H4,it,mb,S⟩ ⟨hs,hS⟩;dsimp only at hs hS ⊢;have hSl:S.length=(algK t.op).length:=by rw[<- hS,List.length_map]
   have hal:=(Xi hop q).2
   repeat' (first|refine nY (fun K0 hK0=>?_)|refine zAw ?_|refine zNw (fun _ _ hs=>?_)|(refine dI (fun hc=>?_) (fun hc=>?_) <;> try (exfalso;omega))|fail)
   refine qW (α := List Blk × Nat × List Nat) tok (fun z=>HS H none' [(true,it, .iter (.mapIter (some mb) S.length z.2.2.toArray S.length)),(true,mb,mpG S),(true,z.2.1,rw' (selF t.op q z.2.2)),(true,x, .cells true 1 (tkC t b c))] z.1/\z.2.2.Nodup/\∀ y∈z.2.2,y<S.length)
    (fun | ⟨_,k,seen⟩=>[(1, .pointer (some ⟨x,0,none⟩)),(5, .bool q),(6,sv k (selF t.op q seen).length),(25, .pointer (some ⟨it,0,some 0⟩))]) (fun | ⟨H',_,_⟩=>H') (fun z=>S.length-z.2.2.length)
    ⟨H4 ++ [rw' []],H4.length,[]⟩ ⟨(hs.virt _).pick [1,2,0,3] (by decide) rfl,List.nodup_nil,fun y hy=>by simp at hy⟩ ⟨⟨_,rfl, .rfl⟩,⟨_,rfl, .rfl⟩,⟨_,rfl, .nil _⟩,⟨_,rfl, .rfl⟩,trivial⟩ (WkH.rfl.app _) ?_
   clear hs;rintro ⟨H5,k,seen⟩ ⟨hs,hnd,hlt⟩;dsimp only at hs hnd hlt ⊢;have hsl:=xy hnd (m:=List.range S.length) (fun y hy=>List.mem_range.2 (hlt y hy));rw[List.length_range] at hsl;have hfl:=selF_len t.op q seen
   repeat' (first|refine nY (fun K0 hK0=>?_)|refine zAw ?_|refine zNw (fun _ _ hs=>?_)|fail)
   refine xG (hs.get 0 rfl) ?_;refine zo (hs.get 1 rfl) ⟨next_some S seen,fun e he hse=>?_,fun hall=>?_⟩
   ·obtain ⟨i,hi,rfl⟩:=mem_entG he
    have hns:i ∉ seen:=by simpa using hse
    have ha:S[i].1=(algK t.op)[i]! := by
     rw[<- hS,getElem!_pos _ i (by simpa using hi),List.getElem_map]
    refine wY (hs.lt 0 rfl) (fun H6 h1 h2 h3=>?_);have hs:=hs.set (B' := .iter (.mapIter (some mb) S.length (seen ++ [i]).toArray S.length)) 0 rfl h1 (by rw[h2];simp) h3;clear h1 h2 h3
    have hnd' : (seen ++ [i]).Nodup:=by
     rw[List.nodup_append];exact⟨hnd,by simp,fun a h1 b h2 e=>hns (by simp at h2;rw[<- h2,<- e];exact h1)⟩
    have hlt' : ∀ y∈seen ++ [i],y<S.length:=fun y hy=>by
     rcases List.mem_append.1 hy with h1 | h1
     ·exact hlt y h1
     ·simp at h1;omega
    have hsl' := xy hnd' (m:=List.range S.length) (fun y hy=>List.mem_range.2 (hlt' y hy));rw[List.length_range,List.length_append,List.length_singleton] at hsl'
    repeat' (first|refine nY (fun K0 hK0=>?_)|refine zAw ?_|refine zNw (fun _ _ hs=>?_)|(refine dI (fun hc=>?_) (fun hc=>?_) <;> try (exfalso;omega))|fail)
    refine xG (hs.get 0 rfl) ?_;refine zo (hs.get 1 rfl) ⟨rfl,i,by simp,_,find_entG hi, ?_⟩;have eo:=selF_snoc t.op q seen i;rw[<- ha] at eo;generalize S[i].1=a at eo ⊢
    cases q with
    | false =>
      repeat' (first|refine nY (fun K0 hK0=>?_)|refine zAw ?_|refine zNw (fun _ _ hs=>?_)|(refine dI (fun hc=>?_) (fun hc=>?_) <;> try (exfalso;omega))|fail)
      all_goals first
       | (rw[if_neg (by unfold okA;(repeat (first | rw[if_pos (by omega)] | rw[if_neg (by omega)]));decide),List.append_nil] at eo
          exact⟨⟨_,k,seen ++ [i]⟩,⟨by dsimp only;rw[eo];exact hs,hnd',hlt'⟩,by dsimp only;rw[List.length_append,List.length_singleton];omega,Or.inl ⟨⟨rfl,rfl,by rw[eo];rfl,rfl,trivial⟩,rfl⟩⟩)
       | (rw[if_pos (by unfold okA;(repeat (first | rw[if_pos (by omega)] | rw[if_neg (by omega)]));(try (first | rfl | (split <;> rfl))))] at eo
          refine wz hs 3 (us := [.int .i64 a]) rfl (by decide) (hs.get 0 rfl) rfl rfl (by rw[vN];try exact (Nat.mul_one _).symm) (by show (_+1)*(8+1)<=_;omega) (fun H9 k9 e9 l9 hs=>?_);clear e9 l9;have hs:=hs.pick [1,2,3,4] (by decide) rfl (L' := [(true,it, .iter (.mapIter (some mb) S.length (seen ++ [i]).toArray S.length)),(true,mb,mpG S),(true,k9, .cells true 1 (ints (selF t.op false seen)++ints [a])),(true,x, .cells true 1 (tkC t b c))]);rw[<- zC,<- eo] at hs;have el:(selF t.op false (seen ++ [i])).length=(selF t.op false seen).length+1:=by rw[eo];simp
          repeat' (first|refine nY (fun K0 hK0=>?_)|refine zAw ?_|refine zNw (fun _ _ hs=>?_)|fail)
          exact⟨⟨_,k9,seen ++ [i]⟩,⟨hs,hnd',hlt'⟩,by dsimp only;rw[List.length_append,List.length_singleton];omega,Or.inl ⟨⟨rfl,rfl,by rw[el];rfl,rfl,trivial⟩,rfl⟩⟩)
    | true =>
      repeat' (first|refine nY (fun K0 hK0=>?_)|refine zAw ?_|refine zNw (fun _ _ hs=>?_)|(refine dI (fun hc=>?_) (fun hc=>?_) <;> try (exfalso;omega))|fail)
      all_goals first
       | (rw[if_neg (by unfold okA;(repeat (first | rw[if_pos (by omega)] | rw[if_neg (by omega)]));decide),List.append_nil] at eo
          exact⟨⟨_,k,seen ++ [i]⟩,⟨by dsimp only;rw[eo];exact hs,hnd',hlt'⟩,by dsimp only;rw[List.length_append,List.length_singleton];omega,Or.inl ⟨⟨rfl,rfl,by rw[eo];rfl,rfl,trivial⟩,rfl⟩⟩)
       | (rw[if_pos (by unfold okA;(repeat (first | rw[if_pos (by omega)] | rw[if_neg (by omega)]));(try (first | rfl | (split <;> rfl))))] at eo
          refine wz hs 3 (us := [.int .i64 a]) rfl (by decide) (hs.get 0 rfl) rfl rfl (by rw[vN];try exact (Nat.mul_one _).symm) (by show (_+1)*(8+1)<=_;omega) (fun H9 k9 e9 l9 hs=>?_);clear e9 l9;have hs:=hs.pick [1,2,3,4] (by decide) rfl (L' := [(true,it, .iter (.mapIter (some mb) S.length (seen ++ [i]).toArray S.length)),(true,mb,mpG S),(true,k9, .cells true 1 (ints (selF t.op true seen)++ints [a])),(true,x, .cells true 1 (tkC t b c))]);rw[<- zC,<- eo] at hs;have el:(selF t.op true (seen ++ [i])).length=(selF t.op true seen).length+1:=by rw[eo];simp
          repeat' (first|refine nY (fun K0 hK0=>?_)|refine zAw ?_|refine zNw (fun _ _ hs=>?_)|fail)
          exact⟨⟨_,k9,seen ++ [i]⟩,⟨hs,hnd',hlt'⟩,by dsimp only;rw[List.length_append,List.length_singleton];omega,Or.inl ⟨⟨rfl,rfl,by rw[el];rfl,rfl,trivial⟩,rfl⟩⟩)
   ·have hfull : ∀ y,y<(algK t.op).length->y∈seen:=fun y hy=>by
     have hy' : y<S.length:=by omega
     have:=hall _ (entG_mem hy') (by dsimp only;exact hy')
     simpa using this
    have hsrt:srt (selF t.op q seen)=algF t.op q:=srt_alg hop q hnd (fun y hy=>by have:=hlt y hy;omega) hfull;have hlen:(selF t.op q seen).length=(algF t.op q).length:=by rw[<- hsrt];exact (List.length_mergeSort _).symm
    rw[<- hlen] at h
    repeat' (first|refine nY (fun K0 hK0=>?_)|refine zAw ?_|refine zNw (fun _ _ hs=>?_)|(refine dI (fun hc=>?_) (fun hc=>?_) <;> try (exfalso;omega))|fail)
    refine vC tok _ ?_
    repeat' (first|refine nY (fun K0 hK0=>?_)|refine zAw ?_|refine zNw (fun _ _ hs=>?_)|fail)
    refine c96 (hs.get 2 rfl) (by omega) (fun H7 h1 h2 h3=>?_);rw[hsrt] at h2;have hs:=hs.set 2 rfl h1 h2 h3;clear h1 h2 h3
    repeat' (first|refine nY (fun K0 hK0=>?_)|refine zAw ?_|refine zNw (fun _ _ hs=>?_)|fail)
    exact⟨_,_, .rfl, .rfl,h _ k (hs.pick [2] (by decide) rfl)⟩
 ·rw[if_neg h0] at h
  generalize chkF t=z at h0 h ⊢
  repeat' (first|refine nY (fun K0 hK0=>?_)|refine zAw ?_|refine zNw (fun _ _ hs=>?_)|(refine dI (fun hc=>?_) (fun hc=>?_) <;> try (exfalso;omega))|fail)
  have hv:=hs.virt (rw' []);exact⟨.tuple ⟨[sv H2.length 0, .int .i64 z]⟩,H2 ++ [rw' []], .nil2 _ _,WkH.rfl.app _,h _ _ (hv.pick [0] (by decide) rfl)⟩
end Go.Af.Tryz
