/- A part of the proof. -/
import Derived.Test.YtmnjcogpchodhaaGreatMGH
import Derived.Test.YtmnjcogpchodhaaGreatMCA
set_option linter.all false
set_option maxHeartbeats 4000000
set_option maxRecDepth 100000
namespace Go.Af.Tryz
open Go Go.Proofs
attribute [local irreducible] awp qj qJ qL qC qo isCells qx qp qA qw qh roundEnd

theorem aeq_nil {P:Program} {T' : TT} {H:List Blk} {t:TypeId} {xo yo:Operand} {i:TI} {e:TypeId} {b o l c z:Nat} {wr:Bool} {vs:List Value} {K:Bool->Prop} (ht:tget T' t=some i) (hk:i.kind = .slice e) (hb:bget H b=some (.cells wr z vs)) (hl:0<l) (k:K false) :
 aeq P T' H t xo yo (.slice (some ⟨b,o,none⟩) l c) (.slice none 0 0) K:=by
 obtain ⟨l,rfl⟩ : ∃ k,l=k+1:=⟨l-1,by omega⟩;unfold aeq;simp only[ht,hk,hb];exact k
theorem aeq_nn {P:Program} {T' : TT} {H:List Blk} {t:TypeId} {xo yo:Operand} {i:TI} {e:TypeId} {K:Bool->Prop} (ht:tget T' t=some i) (hk:i.kind = .slice e) (k:K true) :
 aeq P T' H t xo yo (.slice none 0 0) (.slice none 0 0) K:=by
 unfold aeq;simp only[ht,hk];exact k
theorem zApp_of {H:List Blk} {size bytes:Nat} {z:List Value} {kd:IntKind} {v:Int} {K:Value->List Blk->Prop} (n:Nat) (hv:v=n) (h0:0<n) (hb:n*(bytes+1)<=70368744177664) (h:qo H size (vg n z) n K):zApp H size bytes z (.slice none 0 0) (.int kd v) K:=⟨n,hv, .inr ⟨h0,hb,h⟩⟩
attribute [local irreducible] aeq zApp
theorem c192 {H:List Blk} {k:Nat} {l:List Og} {R:Value->List Blk->Prop} (hk:Lf H k l) (hl:l.length<=1000) (h0:l = []->∀ H',HS H none' [] H' -> R (.slice none 0 0) H') (h1:l≠[]->∀ H' k',HS H none' [(true,k',ogB l)] H' -> R (sv k' l.length) H'):qj Tryz.prog 192 [lfV k l] H R:=by
 refine qf tok Tryz.call192 Tryz.func192 rfl Tryz.ntmps192 rfl (by simp) ?_;have hs:=HS.start H none'
 cases l with
 | nil =>
   repeat' (first|refine nY (fun K0 hK0=>?_)|refine zAw ?_|refine zNw (fun _ _ hs=>?_)|(refine dI (fun hc=>?_) (fun hc=>?_) <;> try (exfalso;omega))|fail)
   refine aeq_nn (P:=Tryz.prog) (T' := T) (t:=101) (by rfl) (by rfl) ?_
   repeat' (first|refine nY (fun K0 hK0=>?_)|refine zAw ?_|refine zNw (fun _ _ hs=>?_)|(refine dI (fun hc=>?_) (fun hc=>?_) <;> try (exfalso;omega))|fail)
   exact h0 rfl _ (qc hs)
 | cons o r =>
   rcases hk with hk | ⟨w,hk⟩
   ·cases hk
   ·skip
    repeat' (first|refine nY (fun K0 hK0=>?_)|refine zAw ?_|refine zNw (fun _ _ hs=>?_)|(refine dI (fun hc=>?_) (fun hc=>?_) <;> try (exfalso;omega))|fail)
    refine aeq_nil (P:=Tryz.prog) (T' := T) (t:=101) (by rfl) (by rfl) hk (by simp) ?_
    repeat' (first|refine nY (fun K0 hK0=>?_)|refine zAw ?_|refine zNw (fun _ _ hs=>?_)|(refine dI (fun hc=>?_) (fun hc=>?_) <;> try (exfalso;omega))|fail)
    refine appO_hs hs 0 (xs := []) (k:=k) (l:=o::r) rfl rfl (Lf.up (H:=H) (.inr ⟨w,hk⟩) (qc hs)) (by show (0+_)*(16+1)<=_;omega) (fun H9 b9 hs=>?_)
    repeat' (first|refine nY (fun K0 hK0=>?_)|refine zAw ?_|refine zNw (fun _ _ hs=>?_)|(refine dI (fun hc=>?_) (fun hc=>?_) <;> try (exfalso;omega))|fail)
    exact h1 (by simp) H9 b9 (hs.pick [0] (by decide) rfl)
theorem c290 {H:List Blk} {n:Nat} {R:Value->List Blk->Prop} (hn:n<=2000) (h0:n=0->∀ H',HS H none' [] H' -> R (.slice none 0 0) H') (h1:0<n->∀ H' k,HS H none' [(true,k, .cells true 2 (vg n [.int .i64 0, .int .i64 0]))] H' -> R (.slice (some ⟨k,0,none⟩) 0 n) H'):qj Tryz.prog 290 [.slice none 0 0, .int .i64 n] H R:=by
 refine qf tok Tryz.call290 Tryz.func290 rfl Tryz.ntmps290 rfl (by simp) ?_;have hs:=HS.start H none';by_cases hz:n=0
 ·subst hz
  repeat' (first|refine nY (fun K0 hK0=>?_)|refine zAw ?_|refine zNw (fun _ _ hs=>?_)|(refine dI (fun hc=>?_) (fun hc=>?_) <;> try (exfalso;omega))|fail)
  exact h0 rfl _ (qc hs)
 ·skip
  repeat' (first|refine nY (fun K0 hK0=>?_)|refine zAw ?_|refine zNw (fun _ _ hs=>?_)|(refine dI (fun hc=>?_) (fun hc=>?_) <;> try (exfalso;omega))|fail)
  refine zApp_of n (by omega) (by omega) (by show n*(16+1)<=_;omega) ?_
  repeat' (first|refine nY (fun K0 hK0=>?_)|refine zAw ?_|refine zNw (fun _ _ hs=>?_)|(refine dI (fun hc=>?_) (fun hc=>?_) <;> try (exfalso;omega))|fail)
  exact h1 (by omega) _ _ (hs.pick [0] (by decide) rfl)
theorem c290v {H:List Blk} {v:Int} {n:Nat} {R:Value->List Blk->Prop} (hv:v=n) (hn:n<=2000) (h0:n=0->∀ H',HS H none' [] H' -> R (.slice none 0 0) H') (h1:0<n->∀ H' k,HS H none' [(true,k, .cells true 2 (vg n [.int .i64 0, .int .i64 0]))] H' -> R (.slice (some ⟨k,0,none⟩) 0 n) H'):qj Tryz.prog 290 [.slice none 0 0, .int .i64 v] H R:=by
 subst hv;exact c290 hn h0 h1
theorem QR {H0 H:List Blk} {o:Nat->Prop} {L:List (Bool × Nat × Blk)} (h:HS H0 o L H) (i:Nat) {bytes b k m c:Nat} {vs:List Value} {l:List Og} {K:Value->List Blk->Prop} (hi:L[i]? = some (true,b, .cells true 2 vs)) (hv:vs.length=c*2) (hk:Lf H k l) (hm:m+l.length<=c) (hc:0<c)
 (kk : ∀ H',HS H0 o (L.set i (true,b, .cells true 2 (setSeg vs (0+m*2) (orgC l)))) H' -> K (.slice (some ⟨b,0,none⟩) (m+l.length) c) H'):qA H 2 bytes (.slice (some ⟨b,0,none⟩) m c) (lfV k l) K:=by
 have hb:=h.get i hi;have hbl:=qI hb
 cases l with
 | nil =>
   unfold qA;refine⟨by decide,rfl, .inl ⟨rfl,by simp at hm;omega, ?_⟩⟩;have:=kk H;refine this ?_
   have e:L.set i (true,b, .cells true 2 (setSeg vs (0+m*2) (orgC [])))=L:=by
    show L.set i (true,b, .cells true 2 vs)=L;obtain ⟨hlt,he⟩:=List.getElem?_eq_some_iff.1 hi;rw[<- he,List.set_getElem_self]
   rw[e];exact h
 | cons y r =>
   rcases hk with hk | ⟨w,hk⟩
   ·cases hk
   ·unfold qA
    refine⟨by decide, ?_⟩;simp only[lfV,Qr,hk];refine⟨.inr (by rw[qP];omega),orgC (y::r),by rw[List.drop_zero,List.take_of_length_le (by rw[qP];omega)],yc _, .inr ⟨by simp, ?_⟩⟩;simp only[hb];refine⟨trivial, .inl ⟨hm,hc,by rw[hv];omega,_,rfl, ?_⟩⟩;exact wY hbl fun H1 h1 h2 h3=>kk H1 (h.set i hi h1 h2 h3)
theorem yB (n:Nat):(vg n [.int .i64 0, .int .i64 0]).length=n*2:=by
 have:=xM n [Value.int .i64 0, .int .i64 0]
 simpa using this
theorem WI {l1 l2:List Og} {n a c:Nat} (hn:n=l1.length+l2.length) (ha:a=0) (hc:c=l1.length*2):setSeg (setSeg (vg n [.int .i64 0, .int .i64 0]) a (orgC l1)) c (orgC l2)=orgC (l1++l2):=by
 subst hn;subst ha;subst hc;have hz:=yB (l1.length+l2.length)
 apply List.ext_getElem?
 intro i;rw[yY _ _ _ _ (by rw[vX,hz,qP];omega),yY _ _ _ _ (by rw[hz,qP];omega),uN,qP,qP];by_cases h1:i<l1.length*2
 ·rw[if_neg (by omega),if_pos (by omega),List.getElem?_append_left (by rw[qP];exact h1)]
  rfl
 ·rw[List.getElem?_append_right (by rw[qP];omega),qP]
  by_cases h2:i<l1.length*2+l2.length*2
  ·rw[if_pos (by omega)]
  ·rw[if_neg (by omega),if_neg (by omega),List.getElem?_eq_none (by rw[hz];omega),List.getElem?_eq_none (by rw[qP];omega)]
theorem app_nn {H:List Blk} {size bytes:Nat} {K:Value->List Blk->Prop} (hsz:0<size) (h:K (.slice none 0 0) H):qA H size bytes (.slice none 0 0) (.slice none 0 0) K:=by
 unfold qA;exact⟨hsz,rfl, .inl ⟨rfl,h⟩⟩
theorem c193 {H:List Blk} {s k1 k2:Nat} {w:Bool} {l1 l2:List Og} {R:Value->List Blk->Prop} (hsb:bget H s=some (.cells w 1 [lfV k1 l1,lfV k2 l2])) (hk1:Lf H k1 l1) (hk2:Lf H k2 l2) (n1:l1.length<=500) (n2:l2.length<=500)
 (h0:l1++l2 = []->∀ H',HS H none' [] H' -> R (.slice none 0 0) H') (h1:l1++l2≠[]->∀ H' k,HS H none' [(true,k,ogB (l1++l2))] H' -> R (sv k (l1++l2).length) H'):qj Tryz.prog 193 [sv s 2] H R:=by
 refine qf tok Tryz.call193 Tryz.func193 rfl Tryz.ntmps193 rfl (by simp) ?_;have hs:=(HS.start H none').add (c:=false) hsb (fun i p hi=>by simp at hi) (fun h=>by cases h)
 cases l1 with
 | nil =>
   cases l2 with
   | nil =>
     repeat' (first|refine nY (fun K0 hK0=>?_)|refine zAw ?_|refine zNw (fun _ _ hs=>?_)|(refine dI (fun hc=>?_) (fun hc=>?_) <;> try (exfalso;omega))|fail)
     refine wQ tok 3 ?_
     iterate 3 (
      all_goals try (
       change vcg _ _ _ _ _ _ _ _ _
       repeat' (first|refine nY (fun K0 hK0=>?_)|refine zAw ?_|refine zNw (fun _ _ hs=>?_)|(refine dI (fun hc=>?_) (fun hc=>?_) <;> try (exfalso;omega))|fail)
       )
      all_goals try (refine eI 0 (aI (by decide) ?_))
      all_goals try (refine eI 1 (aI (by decide) ?_))
      all_goals try (
       repeat' (first|refine nY (fun K0 hK0=>?_)|refine zAw ?_|refine zNw (fun _ _ hs=>?_)|(refine dI (fun hc=>?_) (fun hc=>?_) <;> try (exfalso;omega))|fail)
       )
      skip
      )
     refine c290v (n:=0) (by simp) (by omega) (fun _ H2 hn=>?_) (fun hz=>absurd hz (by omega));have hs:=qK hs hn;clear hn
     repeat' (first|refine nY (fun K0 hK0=>?_)|refine zAw ?_|refine zNw (fun _ _ hs=>?_)|(refine dI (fun hc=>?_) (fun hc=>?_) <;> try (exfalso;omega))|fail)
     refine wQ tok 3 ?_
     all_goals try (
      change vcg _ _ _ _ _ _ _ _ _
      repeat' (first|refine nY (fun K0 hK0=>?_)|refine zAw ?_|refine zNw (fun _ _ hs=>?_)|(refine dI (fun hc=>?_) (fun hc=>?_) <;> try (exfalso;omega))|fail)
      )
     all_goals try (refine eI 0 (aI (by decide) ?_))
     all_goals try (refine eI 1 (aI (by decide) ?_))
     all_goals try (
      repeat' (first|refine nY (fun K0 hK0=>?_)|refine zAw ?_|refine zNw (fun _ _ hs=>?_)|(refine dI (fun hc=>?_) (fun hc=>?_) <;> try (exfalso;omega))|fail)
      )
     refine app_nn (by decide) ?_
     all_goals try (
      change vcg _ _ _ _ _ _ _ _ _
      repeat' (first|refine nY (fun K0 hK0=>?_)|refine zAw ?_|refine zNw (fun _ _ hs=>?_)|(refine dI (fun hc=>?_) (fun hc=>?_) <;> try (exfalso;omega))|fail)
      )
     all_goals try (refine eI 0 (aI (by decide) ?_))
     all_goals try (refine eI 1 (aI (by decide) ?_))
     all_goals try (
      repeat' (first|refine nY (fun K0 hK0=>?_)|refine zAw ?_|refine zNw (fun _ _ hs=>?_)|(refine dI (fun hc=>?_) (fun hc=>?_) <;> try (exfalso;omega))|fail)
      )
     all_goals try (
      change vcg _ _ _ _ _ _ _ _ _
      repeat' (first|refine nY (fun K0 hK0=>?_)|refine zAw ?_|refine zNw (fun _ _ hs=>?_)|(refine dI (fun hc=>?_) (fun hc=>?_) <;> try (exfalso;omega))|fail)
      )
     all_goals try (refine eI 0 (aI (by decide) ?_))
     all_goals try (refine eI 1 (aI (by decide) ?_))
     all_goals try (
      repeat' (first|refine nY (fun K0 hK0=>?_)|refine zAw ?_|refine zNw (fun _ _ hs=>?_)|(refine dI (fun hc=>?_) (fun hc=>?_) <;> try (exfalso;omega))|fail)
      )
     refine app_nn (by decide) ?_
     all_goals try (
      change vcg _ _ _ _ _ _ _ _ _
      repeat' (first|refine nY (fun K0 hK0=>?_)|refine zAw ?_|refine zNw (fun _ _ hs=>?_)|(refine dI (fun hc=>?_) (fun hc=>?_) <;> try (exfalso;omega))|fail)
      )
     all_goals try (refine eI 0 (aI (by decide) ?_))
     all_goals try (refine eI 1 (aI (by decide) ?_))
     all_goals try (
      repeat' (first|refine nY (fun K0 hK0=>?_)|refine zAw ?_|refine zNw (fun _ _ hs=>?_)|(refine dI (fun hc=>?_) (fun hc=>?_) <;> try (exfalso;omega))|fail)
      )
     all_goals try (
      change vcg _ _ _ _ _ _ _ _ _
      repeat' (first|refine nY (fun K0 hK0=>?_)|refine zAw ?_|refine zNw (fun _ _ hs=>?_)|(refine dI (fun hc=>?_) (fun hc=>?_) <;> try (exfalso;omega))|fail)
      )
     all_goals try (refine eI 0 (aI (by decide) ?_))
     all_goals try (refine eI 1 (aI (by decide) ?_))
     all_goals try (
      repeat' (first|refine nY (fun K0 hK0=>?_)|refine zAw ?_|refine zNw (fun _ _ hs=>?_)|(refine dI (fun hc=>?_) (fun hc=>?_) <;> try (exfalso;omega))|fail)
      )
     exact h0 rfl _ (qc hs)
   | cons o2 r2 =>
     repeat' (first|refine nY (fun K0 hK0=>?_)|refine zAw ?_|refine zNw (fun _ _ hs=>?_)|(refine dI (fun hc=>?_) (fun hc=>?_) <;> try (exfalso;omega))|fail)
     refine wQ tok 3 ?_
     iterate 3 (
      all_goals try (
       change vcg _ _ _ _ _ _ _ _ _
       repeat' (first|refine nY (fun K0 hK0=>?_)|refine zAw ?_|refine zNw (fun _ _ hs=>?_)|(refine dI (fun hc=>?_) (fun hc=>?_) <;> try (exfalso;omega))|fail)
       )
      all_goals try (refine eI 0 (aI (by decide) ?_))
      all_goals try (refine eI 1 (aI (by decide) ?_))
      all_goals try (
       repeat' (first|refine nY (fun K0 hK0=>?_)|refine zAw ?_|refine zNw (fun _ _ hs=>?_)|(refine dI (fun hc=>?_) (fun hc=>?_) <;> try (exfalso;omega))|fail)
       )
      skip
      )
     refine c290v (n:=([]:List Og).length+(o2::r2).length) (by simp only[List.length_cons,List.length_nil];omega) (by simp only[List.length_cons,List.length_nil] at *; omega) (fun hz=>absurd hz (by simp)) (fun _ H2 k hn=>?_);have hs:=(hs.call hn rfl).pick [0,1] (by decide) rfl (L' := [(true,k,_),(false,s,_)]);clear hn
     repeat' (first|refine nY (fun K0 hK0=>?_)|refine zAw ?_|refine zNw (fun _ _ hs=>?_)|(refine dI (fun hc=>?_) (fun hc=>?_) <;> try (exfalso;omega))|fail)
     refine wQ tok 3 ?_
     all_goals try (
      change vcg _ _ _ _ _ _ _ _ _
      repeat' (first|refine nY (fun K0 hK0=>?_)|refine zAw ?_|refine zNw (fun _ _ hs=>?_)|(refine dI (fun hc=>?_) (fun hc=>?_) <;> try (exfalso;omega))|fail)
      )
     all_goals try (refine eI 0 (aI (by decide) ?_))
     all_goals try (refine eI 1 (aI (by decide) ?_))
     all_goals try (
      repeat' (first|refine nY (fun K0 hK0=>?_)|refine zAw ?_|refine zNw (fun _ _ hs=>?_)|(refine dI (fun hc=>?_) (fun hc=>?_) <;> try (exfalso;omega))|fail)
      )
     refine QR hs 0 (l:=([]:List Og)) (k:=k1) rfl (yB _) (hk1.up (qc hs)) (by simp only[List.length_cons,List.length_nil];omega) (by simp only[List.length_cons,List.length_nil];omega) (fun H3 hs=>?_)
     all_goals try (
      change vcg _ _ _ _ _ _ _ _ _
      repeat' (first|refine nY (fun K0 hK0=>?_)|refine zAw ?_|refine zNw (fun _ _ hs=>?_)|(refine dI (fun hc=>?_) (fun hc=>?_) <;> try (exfalso;omega))|fail)
      )
     all_goals try (refine eI 0 (aI (by decide) ?_))
     all_goals try (refine eI 1 (aI (by decide) ?_))
     all_goals try (
      repeat' (first|refine nY (fun K0 hK0=>?_)|refine zAw ?_|refine zNw (fun _ _ hs=>?_)|(refine dI (fun hc=>?_) (fun hc=>?_) <;> try (exfalso;omega))|fail)
      )
     all_goals try (
      change vcg _ _ _ _ _ _ _ _ _
      repeat' (first|refine nY (fun K0 hK0=>?_)|refine zAw ?_|refine zNw (fun _ _ hs=>?_)|(refine dI (fun hc=>?_) (fun hc=>?_) <;> try (exfalso;omega))|fail)
      )
     all_goals try (refine eI 0 (aI (by decide) ?_))
     all_goals try (refine eI 1 (aI (by decide) ?_))
     all_goals try (
      repeat' (first|refine nY (fun K0 hK0=>?_)|refine zAw ?_|refine zNw (fun _ _ hs=>?_)|(refine dI (fun hc=>?_) (fun hc=>?_) <;> try (exfalso;omega))|fail)
      )
     refine QR hs 0 (l:=(o2::r2)) (k:=k2) rfl (by rw[vX];exact yB _) (hk2.up (qc hs)) (by simp only[List.length_cons,List.length_nil];omega) (by simp only[List.length_cons,List.length_nil];omega) (fun H4 hs=>?_)
     all_goals try (
      change vcg _ _ _ _ _ _ _ _ _
      repeat' (first|refine nY (fun K0 hK0=>?_)|refine zAw ?_|refine zNw (fun _ _ hs=>?_)|(refine dI (fun hc=>?_) (fun hc=>?_) <;> try (exfalso;omega))|fail)
      )
     all_goals try (refine eI 0 (aI (by decide) ?_))
     all_goals try (refine eI 1 (aI (by decide) ?_))
     all_goals try (
      repeat' (first|refine nY (fun K0 hK0=>?_)|refine zAw ?_|refine zNw (fun _ _ hs=>?_)|(refine dI (fun hc=>?_) (fun hc=>?_) <;> try (exfalso;omega))|fail)
      )
     all_goals try (
      change vcg _ _ _ _ _ _ _ _ _
      repeat' (first|refine nY (fun K0 hK0=>?_)|refine zAw ?_|refine zNw (fun _ _ hs=>?_)|(refine dI (fun hc=>?_) (fun hc=>?_) <;> try (exfalso;omega))|fail)
      )
     all_goals try (refine eI 0 (aI (by decide) ?_))
     all_goals try (refine eI 1 (aI (by decide) ?_))
     all_goals try (
      repeat' (first|refine nY (fun K0 hK0=>?_)|refine zAw ?_|refine zNw (fun _ _ hs=>?_)|(refine dI (fun hc=>?_) (fun hc=>?_) <;> try (exfalso;omega))|fail)
      )
     have hs:=hs.pick [0] (by decide) rfl (L' := [(true,k,_)]);rw[WI rfl (by omega) (by omega)] at hs;have e:=h1 (by simp) _ k hs;rw[List.length_append] at e
     first
      | exact e
      | (rw[Nat.zero_add];exact e)
 | cons o1 r1 =>
   cases l2 with
   | nil =>
     repeat' (first|refine nY (fun K0 hK0=>?_)|refine zAw ?_|refine zNw (fun _ _ hs=>?_)|(refine dI (fun hc=>?_) (fun hc=>?_) <;> try (exfalso;omega))|fail)
     refine wQ tok 3 ?_
     iterate 3 (
      all_goals try (
       change vcg _ _ _ _ _ _ _ _ _
       repeat' (first|refine nY (fun K0 hK0=>?_)|refine zAw ?_|refine zNw (fun _ _ hs=>?_)|(refine dI (fun hc=>?_) (fun hc=>?_) <;> try (exfalso;omega))|fail)
       )
      all_goals try (refine eI 0 (aI (by decide) ?_))
      all_goals try (refine eI 1 (aI (by decide) ?_))
      all_goals try (
       repeat' (first|refine nY (fun K0 hK0=>?_)|refine zAw ?_|refine zNw (fun _ _ hs=>?_)|(refine dI (fun hc=>?_) (fun hc=>?_) <;> try (exfalso;omega))|fail)
       )
      skip
      )
     refine c290v (n:=(o1::r1).length+([]:List Og).length) (by simp only[List.length_cons,List.length_nil];omega) (by simp only[List.length_cons,List.length_nil] at *; omega) (fun hz=>absurd hz (by simp)) (fun _ H2 k hn=>?_);have hs:=(hs.call hn rfl).pick [0,1] (by decide) rfl (L' := [(true,k,_),(false,s,_)]);clear hn
     repeat' (first|refine nY (fun K0 hK0=>?_)|refine zAw ?_|refine zNw (fun _ _ hs=>?_)|(refine dI (fun hc=>?_) (fun hc=>?_) <;> try (exfalso;omega))|fail)
     refine wQ tok 3 ?_
     all_goals try (
      change vcg _ _ _ _ _ _ _ _ _
      repeat' (first|refine nY (fun K0 hK0=>?_)|refine zAw ?_|refine zNw (fun _ _ hs=>?_)|(refine dI (fun hc=>?_) (fun hc=>?_) <;> try (exfalso;omega))|fail)
      )
     all_goals try (refine eI 0 (aI (by decide) ?_))
     all_goals try (refine eI 1 (aI (by decide) ?_))
     all_goals try (
      repeat' (first|refine nY (fun K0 hK0=>?_)|refine zAw ?_|refine zNw (fun _ _ hs=>?_)|(refine dI (fun hc=>?_) (fun hc=>?_) <;> try (exfalso;omega))|fail)
      )
     refine QR hs 0 (l:=(o1::r1)) (k:=k1) rfl (yB _) (hk1.up (qc hs)) (by simp only[List.length_cons,List.length_nil];omega) (by simp only[List.length_cons,List.length_nil];omega) (fun H3 hs=>?_)
     all_goals try (
      change vcg _ _ _ _ _ _ _ _ _
      repeat' (first|refine nY (fun K0 hK0=>?_)|refine zAw ?_|refine zNw (fun _ _ hs=>?_)|(refine dI (fun hc=>?_) (fun hc=>?_) <;> try (exfalso;omega))|fail)
      )
     all_goals try (refine eI 0 (aI (by decide) ?_))
     all_goals try (refine eI 1 (aI (by decide) ?_))
     all_goals try (
      repeat' (first|refine nY (fun K0 hK0=>?_)|refine zAw ?_|refine zNw (fun _ _ hs=>?_)|(refine dI (fun hc=>?_) (fun hc=>?_) <;> try (exfalso;omega))|fail)
      )
     all_goals try (
      change vcg _ _ _ _ _ _ _ _ _
      repeat' (first|refine nY (fun K0 hK0=>?_)|refine zAw ?_|refine zNw (fun _ _ hs=>?_)|(refine dI (fun hc=>?_) (fun hc=>?_) <;> try (exfalso;omega))|fail)
      )
     all_goals try (refine eI 0 (aI (by decide) ?_))
     all_goals try (refine eI 1 (aI (by decide) ?_))
     all_goals try (
      repeat' (first|refine nY (fun K0 hK0=>?_)|refine zAw ?_|refine zNw (fun _ _ hs=>?_)|(refine dI (fun hc=>?_) (fun hc=>?_) <;> try (exfalso;omega))|fail)
      )
     refine QR hs 0 (l:=([]:List Og)) (k:=k2) rfl (by rw[vX];exact yB _) (hk2.up (qc hs)) (by simp only[List.length_cons,List.length_nil];omega) (by simp only[List.length_cons,List.length_nil];omega) (fun H4 hs=>?_)
     all_goals try (
      change vcg _ _ _ _ _ _ _ _ _
      repeat' (first|refine nY (fun K0 hK0=>?_)|refine zAw ?_|refine zNw (fun _ _ hs=>?_)|(refine dI (fun hc=>?_) (fun hc=>?_) <;> try (exfalso;omega))|fail)
      )
     all_goals try (refine eI 0 (aI (by decide) ?_))
     all_goals try (refine eI 1 (aI (by decide) ?_))
     all_goals try (
      repeat' (first|refine nY (fun K0 hK0=>?_)|refine zAw ?_|refine zNw (fun _ _ hs=>?_)|(refine dI (fun hc=>?_) (fun hc=>?_) <;> try (exfalso;omega))|fail)
      )
     all_goals try (
      change vcg _ _ _ _ _ _ _ _ _
      repeat' (first|refine nY (fun K0 hK0=>?_)|refine zAw ?_|refine zNw (fun _ _ hs=>?_)|(refine dI (fun hc=>?_) (fun hc=>?_) <;> try (exfalso;omega))|fail)
      )
     all_goals try (refine eI 0 (aI (by decide) ?_))
     all_goals try (refine eI 1 (aI (by decide) ?_))
     all_goals try (
      repeat' (first|refine nY (fun K0 hK0=>?_)|refine zAw ?_|refine zNw (fun _ _ hs=>?_)|(refine dI (fun hc=>?_) (fun hc=>?_) <;> try (exfalso;omega))|fail)
      )
     have hs:=hs.pick [0] (by decide) rfl (L' := [(true,k,_)]);rw[WI rfl (by omega) (by omega)] at hs;have e:=h1 (by simp) _ k hs;rw[List.length_append] at e
     first
      | exact e
      | (rw[Nat.zero_add];exact e)
   | cons o2 r2 =>
     repeat' (first|refine nY (fun K0 hK0=>?_)|refine zAw ?_|refine zNw (fun _ _ hs=>?_)|(refine dI (fun hc=>?_) (fun hc=>?_) <;> try (exfalso;omega))|fail)
     refine wQ tok 3 ?_
     iterate 3 (
      all_goals try (
       change vcg _ _ _ _ _ _ _ _ _
       repeat' (first|refine nY (fun K0 hK0=>?_)|refine zAw ?_|refine zNw (fun _ _ hs=>?_)|(refine dI (fun hc=>?_) (fun hc=>?_) <;> try (exfalso;omega))|fail)
       )
      all_goals try (refine eI 0 (aI (by decide) ?_))
      all_goals try (refine eI 1 (aI (by decide) ?_))
      all_goals try (
       repeat' (first|refine nY (fun K0 hK0=>?_)|refine zAw ?_|refine zNw (fun _ _ hs=>?_)|(refine dI (fun hc=>?_) (fun hc=>?_) <;> try (exfalso;omega))|fail)
       )
      skip
      )
     refine c290v (n:=(o1::r1).length+(o2::r2).length) (by simp only[List.length_cons,List.length_nil];omega) (by simp only[List.length_cons,List.length_nil] at *; omega) (fun hz=>absurd hz (by simp)) (fun _ H2 k hn=>?_);have hs:=(hs.call hn rfl).pick [0,1] (by decide) rfl (L' := [(true,k,_),(false,s,_)]);clear hn
     repeat' (first|refine nY (fun K0 hK0=>?_)|refine zAw ?_|refine zNw (fun _ _ hs=>?_)|(refine dI (fun hc=>?_) (fun hc=>?_) <;> try (exfalso;omega))|fail)
     refine wQ tok 3 ?_
     all_goals try (
      change vcg _ _ _ _ _ _ _ _ _
      repeat' (first|refine nY (fun K0 hK0=>?_)|refine zAw ?_|refine zNw (fun _ _ hs=>?_)|(refine dI (fun hc=>?_) (fun hc=>?_) <;> try (exfalso;omega))|fail)
      )
     all_goals try (refine eI 0 (aI (by decide) ?_))
     all_goals try (refine eI 1 (aI (by decide) ?_))
     all_goals try (
      repeat' (first|refine nY (fun K0 hK0=>?_)|refine zAw ?_|refine zNw (fun _ _ hs=>?_)|(refine dI (fun hc=>?_) (fun hc=>?_) <;> try (exfalso;omega))|fail)
      )
     refine QR hs 0 (l:=(o1::r1)) (k:=k1) rfl (yB _) (hk1.up (qc hs)) (by simp only[List.length_cons,List.length_nil];omega) (by simp only[List.length_cons,List.length_nil];omega) (fun H3 hs=>?_)
     all_goals try (
      change vcg _ _ _ _ _ _ _ _ _
      repeat' (first|refine nY (fun K0 hK0=>?_)|refine zAw ?_|refine zNw (fun _ _ hs=>?_)|(refine dI (fun hc=>?_) (fun hc=>?_) <;> try (exfalso;omega))|fail)
      )
     all_goals try (refine eI 0 (aI (by decide) ?_))
     all_goals try (refine eI 1 (aI (by decide) ?_))
     all_goals try (
      repeat' (first|refine nY (fun K0 hK0=>?_)|refine zAw ?_|refine zNw (fun _ _ hs=>?_)|(refine dI (fun hc=>?_) (fun hc=>?_) <;> try (exfalso;omega))|fail)
      )
     all_goals try (
      change vcg _ _ _ _ _ _ _ _ _
      repeat' (first|refine nY (fun K0 hK0=>?_)|refine zAw ?_|refine zNw (fun _ _ hs=>?_)|(refine dI (fun hc=>?_) (fun hc=>?_) <;> try (exfalso;omega))|fail)
      )
     all_goals try (refine eI 0 (aI (by decide) ?_))
     all_goals try (refine eI 1 (aI (by decide) ?_))
     all_goals try (
      repeat' (first|refine nY (fun K0 hK0=>?_)|refine zAw ?_|refine zNw (fun _ _ hs=>?_)|(refine dI (fun hc=>?_) (fun hc=>?_) <;> try (exfalso;omega))|fail)
      )
     refine QR hs 0 (l:=(o2::r2)) (k:=k2) rfl (by rw[vX];exact yB _) (hk2.up (qc hs)) (by simp only[List.length_cons,List.length_nil];omega) (by simp only[List.length_cons,List.length_nil];omega) (fun H4 hs=>?_)
     all_goals try (
      change vcg _ _ _ _ _ _ _ _ _
      repeat' (first|refine nY (fun K0 hK0=>?_)|refine zAw ?_|refine zNw (fun _ _ hs=>?_)|(refine dI (fun hc=>?_) (fun hc=>?_) <;> try (exfalso;omega))|fail)
      )
     all_goals try (refine eI 0 (aI (by decide) ?_))
     all_goals try (refine eI 1 (aI (by decide) ?_))
     all_goals try (
      repeat' (first|refine nY (fun K0 hK0=>?_)|refine zAw ?_|refine zNw (fun _ _ hs=>?_)|(refine dI (fun hc=>?_) (fun hc=>?_) <;> try (exfalso;omega))|fail)
      )
     all_goals try (
      change vcg _ _ _ _ _ _ _ _ _
      repeat' (first|refine nY (fun K0 hK0=>?_)|refine zAw ?_|refine zNw (fun _ _ hs=>?_)|(refine dI (fun hc=>?_) (fun hc=>?_) <;> try (exfalso;omega))|fail)
      )
     all_goals try (refine eI 0 (aI (by decide) ?_))
     all_goals try (refine eI 1 (aI (by decide) ?_))
     all_goals try (
      repeat' (first|refine nY (fun K0 hK0=>?_)|refine zAw ?_|refine zNw (fun _ _ hs=>?_)|(refine dI (fun hc=>?_) (fun hc=>?_) <;> try (exfalso;omega))|fail)
      )
     have hs:=hs.pick [0] (by decide) rfl (L' := [(true,k,_)]);rw[WI rfl (by omega) (by omega)] at hs;have e:=h1 (by simp) _ k hs;rw[List.length_append] at e
     first
      | exact e
      | (rw[Nat.zero_add];exact e)
end Go.Af.Tryz
