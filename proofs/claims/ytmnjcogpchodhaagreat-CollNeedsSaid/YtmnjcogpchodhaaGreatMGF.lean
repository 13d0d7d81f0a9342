/- A part of the proof. -/
import Derived.Test.YtmnjcogpchodhaaGreatMGE
import Derived.Test.YtmnjcogpchodhaaGreatMCA
set_option linter.all false
set_option maxHeartbeats 4000000
set_option maxRecDepth 100000
namespace Go.Af.Tryz
open Go Go.Proofs
attribute [local irreducible] awp qj qJ qL qC qo isCells qx qp qA qw qh roundEnd

theorem Ve {Hs H H' : List Blk} {o0:Nat->Prop} {a k k' : Nat} {A A' K K' : Blk} {L:List (Bool × Nat × Blk)} (h:HS Hs o0 ((true,a,A)::(true,k,K)::L) H) (h2:HS H (fun x=>x=a\/x=k) [(true,a,A'),(true,k',K')] H'):HS Hs o0 ((true,a,A')::(true,k',K')::L) H' := by
 have ga:=h.g (i:=0) rfl;have gk:=h.g (i:=1) rfl;have gk' := h2.g (i:=1) rfl
 have neL : ∀ (i:Nat) (p:Bool × Nat × Blk),L[i]? = some p->p.2.1≠a/\p.2.1≠k/\p.2.1<H.length:=fun i p hi=>by
  refine⟨fun e=>?_,fun e=>?_, ?_⟩
  ·have:=h.nd (i:=i+2) (j:=0) (by simpa using hi) rfl e
   omega
  ·have:=h.nd (i:=i+2) (j:=1) (by simpa using hi) rfl e
   omega
  ·obtain ⟨c,b,B⟩:=p
   exact qI (h.g (i:=i+2) (by simpa using hi)).1
 have hL:=(h.tail.tail).upd h2.u (fun i p hi ho=>by
  have:=neL i p hi;rcases ho with ho | ho
  ·exact this.1 ho
  ·exact this.2.1 ho) (fun b hb=>by
  rcases hb with rfl | rfl
  ·exact ga.2 rfl
  ·exact gk.2 rfl)
 have hk:=hL.add (c:=true) gk'.1 (fun i p hi e=>by
  have:=neL i p hi;rcases gk'.2 rfl with (ho | ho) | ho
  ·exact this.1 (e.trans ho)
  ·exact this.2.1 (e.trans ho)
  ·omega) (fun _=>by
  rcases gk'.2 rfl with (ho | ho) | ho
  ·rw[ho];exact ga.2 rfl
  ·rw[ho];exact gk.2 rfl
  ·exact .inr (by have:=h.le;omega))
 refine hk.add (c:=true) (h2.g (i:=0) rfl).1 (fun i p hi e=>?_) (fun _=>ga.2 rfl);rcases i with _ | i
 ·simp at hi
  subst hi;exact h2.ne 1 0 rfl rfl (by decide) e
 ·exact (neL i p (by simpa using hi)).1 e
structure Fi where
 s:Int
 r:Int
 f:Int
 u:Int
abbrev fiC (x:Fi):List Value := [.int .i64 x.s, .int .i64 x.r, .int .i64 x.f, .int .i64 x.u]
def fisC (l:List Fi):List Value:=l.flatMap fiC
theorem UA (l:List Fi):(fisC l).length=l.length*4:=by
 induction l with
 | nil=>rfl
 | cons x r ih =>
   have e:(fisC (x::r)).length=4+(fisC r).length:=by
    show (fiC x++fisC r).length=_;rw[List.length_append];rfl
   rw[e,ih,List.length_cons];omega
theorem XN (l:List Fi) (x:Fi):fisC (l ++ [x])=fisC l++fiC x:=by simp[fisC]
def cpL (r f:Nat->Int) (xs:List Int):List Fi:=(List.range xs.length).map fun i=>⟨xs[i]!,r i,f i, -1⟩
def jnL (u:Int) (xs:List Int):List Fi:=(List.range xs.length).map fun i=>⟨xs[i]!,0,0,u⟩
theorem Ub {α : Type} (g:Nat->α) (n i:Nat) (h:i<n):((List.range n).map g).take (i+1)=((List.range n).map g).take i ++ [g i]:=by
 rw[List.take_succ_eq_append_getElem (by simpa using h)];simp
theorem c155 {H:List Blk} {l:List Fi} {xs:List Int} {a k b:Nat} {w:Bool} {f:FuncId} {caps:Array Value} {fr fs:Nat->Int} {R:Value->List Blk->Prop} (hs:HS H (fun x=>x=a\/x=k) [(true,a, .cells true 1 [sv k l.length]),(true,k, .cells true 4 (fisC l))] H)
 (hb:bget H b=some (.cells w 1 (ints xs))) (hbo:b≠a) (hbk:b≠k) (hx:xs.length<=10000) (hll:l.length<=10000)
 (hf : ∀ (i:Nat) (H' : List Blk) (R' : Value->List Blk->Prop),i<xs.length->HS H (fun x=>x=a\/x=k) [] H' -> (∀ H'',HS H' none' [] H'' -> R' (.agg ⟨[.int .i64 (fr i), .int .i64 (fs i)]⟩) H'')->qj Tryz.prog f (.int .i64 i::caps.toList) H' R')
 (h : ∀ v H' k',HS H (fun x=>x=a\/x=k) [(true,a, .cells true 1 [sv k' (l.length+xs.length)]),(true,k', .cells true 4 (fisC (l++cpL fr fs xs)))] H' -> R v H'):qj Tryz.prog 155 [sv b xs.length, .func (.func f) #[] caps, .pointer (some ⟨a,0,none⟩)] H R:=by
 have hs:=hs.add (c:=false) hb (fun i p hi=>by rcases i with _ | _ | i <;> simp at hi <;> subst hi <;> first | exact hbo.symm | exact hbk.symm) (fun h=>by cases h);have hs:=hs.pick [1,2,0] (by decide) rfl (L' := [(true,a, .cells true 1 [sv k l.length]),(true,k, .cells true 4 (fisC l)),(false,b, .cells w 1 (ints xs))]);refine qf tok Tryz.call155 Tryz.func155 rfl Tryz.ntmps155 rfl (by simp) ?_;have htk:=fun i hi=>Ub (fun i:Nat=>(⟨xs[i]!,fr i,fs i, -1⟩:Fi)) xs.length i hi
 repeat' (first|refine nY (fun K0 hK0=>?_)|refine zAw ?_|refine zNw (fun _ _ hs=>?_)|fail)
 refine qW (α := List Blk × Nat × Nat) tok (fun z=>HS H (fun x=>x=a\/x=k) [(true,a, .cells true 1 [sv z.2.1 (l.length+z.2.2)]),(true,z.2.1, .cells true 4 (fisC (l++(cpL fr fs xs).take z.2.2))),(false,b, .cells w 1 (ints xs))] z.1/\z.2.2<=xs.length)
  (fun | ⟨_,k',i⟩=>[(1, .func (.func f) #[] caps),(2, .pointer (some ⟨a,0,none⟩)),(7,sv b xs.length),(8, .int .i64 xs.length),(9, .int .i64 i)]) (fun | ⟨H',_,_⟩=>H') (fun z=>xs.length-z.2.2)
  ⟨H,k,0⟩ ⟨by simpa using hs,Nat.zero_le _⟩ ⟨⟨_,rfl, .rfl⟩,⟨_,rfl, .rfl⟩,⟨_,rfl, .rfl⟩,⟨_,rfl, .rfl⟩,⟨_,rfl, .rfl⟩,trivial⟩ WkH.rfl ?_
 clear hs;rintro ⟨H2,k',i⟩ ⟨hs,hi⟩;dsimp only at hs hi ⊢
 repeat' (first|refine nY (fun K0 hK0=>?_)|refine zAw ?_|refine zNw (fun _ _ hs=>?_)|fail)
 refine And.intro (fun hc=>?_) (fun hc=>?_)
 ·have hlt:i<xs.length:=by simp at hc;omega
  clear hc;have et:=htk i hlt
  repeat' (first|refine nY (fun K0 hK0=>?_)|refine zAw ?_|refine zNw (fun _ _ hs=>?_)|fail)
  refine wI hlt ?_
  repeat' (first|refine nY (fun K0 hK0=>?_)|refine zAw ?_|refine zNw (fun _ _ hs=>?_)|fail)
  refine qm tok mx [0,0,0,0,12,30,62,127,255] [false,false,false,false,false,true,true,false,false] (.first 1 (.first 2 (.first 3 (.alt 0 (.first 4 (.first 5 (.first 6 (.first 7 (.first 8 .done))))) (.alt 4 (.first 0 (.first 5 (.first 6 (.first 7 (.first 8 .done))))) .no))))) (by kernel_rfl) ?_;refine ql (fun K0 hK0=>?_)
  repeat' (first|refine nY (fun K0 hK0=>?_)|refine zAw ?_|refine zNw (fun _ _ hs=>?_)|fail)
  refine And.intro ?_ (And.intro ?_ trivial)
  all_goals (
   repeat' (first|refine nY (fun K0 hK0=>?_)|refine zAw ?_|refine zNw (fun _ _ hs=>?_)|fail)
   refine hf i _ _ hlt (qc hs) (kNo hs (fun H3 hs=>?_))
   repeat' (first|refine nY (fun K0 hK0=>?_)|refine zAw ?_|refine zNw (fun _ _ hs=>?_)|fail)
   refine wz hs 2 (us:=fiC ⟨xs[i]!,fr i,fs i, -1⟩) rfl (by decide) (hs.get 0 rfl) rfl rfl (by rw[UA,List.length_append,List.length_take,cpL,List.length_map,List.length_range,Nat.min_eq_left (by omega)]) (by show (l.length+i+1)*(32+1)<=_;omega) (fun H5 k2 e5 l5 hs=>?_);refine vz hs 1 rfl [sv k2 (l.length+(i+1))] rfl rfl (Nat.le_of_ble_eq_true rfl) rfl (fun H6 e6 hs=>?_)
   repeat' (first|refine nY (fun K0 hK0=>?_)|refine zAw ?_|refine zNw (fun _ _ hs=>?_)|fail)
   have e:fisC (l++(cpL fr fs xs).take i)++fiC ⟨xs[i]!,fr i,fs i, -1⟩=fisC (l++(cpL fr fs xs).take (i+1)):=by
    rw[<- XN,List.append_assoc];unfold cpL;rw[et]
   have hs:=hs.pick [1,2,3] (by decide) rfl (L' := [(true,a, .cells true 1 [sv k2 (l.length+(i+1))]),(true,k2, .cells true 4 (fisC (l++(cpL fr fs xs).take i)++fiC ⟨xs[i]!,fr i,fs i, -1⟩)),(false,b, .cells w 1 (ints xs))]);rw[e] at hs
   exact⟨⟨_,k2,i+1⟩,⟨hs,hlt⟩,by dsimp only;omega,Or.inl ⟨⟨rfl,rfl,rfl,rfl,rfl,trivial⟩,rfl⟩⟩)
 ·have hie:i=xs.length:=by simp at hc;omega
  subst hie;rw[List.take_of_length_le (by simp[cpL])] at hs
  repeat' (first|refine nY (fun K0 hK0=>?_)|refine zAw ?_|refine zNw (fun _ _ hs=>?_)|fail)
  exact h _ _ k' (hs.pick [0,1] (by decide) rfl)
theorem c156 {H:List Blk} {l:List Fi} {xs:List Int} {a k b:Nat} {w:Bool} {u:Int} {R:Value->List Blk->Prop} (hs:HS H (fun x=>x=a\/x=k) [(true,a, .cells true 1 [sv k l.length]),(true,k, .cells true 4 (fisC l))] H)
 (hb:bget H b=some (.cells w 1 (ints xs))) (hbo:b≠a) (hbk:b≠k) (hx:xs.length<=10000) (hll:l.length<=10000)
 (h : ∀ v H' k',HS H (fun x=>x=a\/x=k) [(true,a, .cells true 1 [sv k' (l.length+xs.length)]),(true,k', .cells true 4 (fisC (l++jnL u xs)))] H' -> R v H'):qj Tryz.prog 156 [sv b xs.length, .int .i64 u, .pointer (some ⟨a,0,none⟩)] H R:=by
 have hs:=hs.add (c:=false) hb (fun i p hi=>by rcases i with _ | _ | i <;> simp at hi <;> subst hi <;> first | exact hbo.symm | exact hbk.symm) (fun h=>by cases h);have hs:=hs.pick [1,2,0] (by decide) rfl (L' := [(true,a, .cells true 1 [sv k l.length]),(true,k, .cells true 4 (fisC l)),(false,b, .cells w 1 (ints xs))]);refine qf tok Tryz.call156 Tryz.func156 rfl Tryz.ntmps156 rfl (by simp) ?_;have htk:=fun i hi=>Ub (fun i:Nat=>(⟨xs[i]!,0,0,u⟩:Fi)) xs.length i hi
 repeat' (first|refine nY (fun K0 hK0=>?_)|refine zAw ?_|refine zNw (fun _ _ hs=>?_)|fail)
 refine qW (α := List Blk × Nat × Nat) tok (fun z=>HS H (fun x=>x=a\/x=k) [(true,a, .cells true 1 [sv z.2.1 (l.length+z.2.2)]),(true,z.2.1, .cells true 4 (fisC (l++(jnL u xs).take z.2.2))),(false,b, .cells w 1 (ints xs))] z.1/\z.2.2<=xs.length)
  (fun | ⟨_,k',i⟩=>[(1, .int .i64 u),(2, .pointer (some ⟨a,0,none⟩)),(7,sv b xs.length),(8, .int .i64 xs.length),(9, .int .i64 i)]) (fun | ⟨H',_,_⟩=>H') (fun z=>xs.length-z.2.2)
  ⟨H,k,0⟩ ⟨by simpa using hs,Nat.zero_le _⟩ ⟨⟨_,rfl, .rfl⟩,⟨_,rfl, .rfl⟩,⟨_,rfl, .rfl⟩,⟨_,rfl, .rfl⟩,⟨_,rfl, .rfl⟩,trivial⟩ WkH.rfl ?_
 clear hs;rintro ⟨H2,k',i⟩ ⟨hs,hi⟩;dsimp only at hs hi ⊢
 repeat' (first|refine nY (fun K0 hK0=>?_)|refine zAw ?_|refine zNw (fun _ _ hs=>?_)|fail)
 refine And.intro (fun hc=>?_) (fun hc=>?_)
 ·have hlt:i<xs.length:=by simp at hc;omega
  clear hc;have et:=htk i hlt
  repeat' (first|refine nY (fun K0 hK0=>?_)|refine zAw ?_|refine zNw (fun _ _ hs=>?_)|fail)
  refine wI hlt ?_
  repeat' (first|refine nY (fun K0 hK0=>?_)|refine zAw ?_|refine zNw (fun _ _ hs=>?_)|fail)
  refine wz hs 2 (us:=fiC ⟨xs[i]!,0,0,u⟩) rfl (by decide) (hs.get 0 rfl) rfl rfl (by rw[UA,List.length_append,List.length_take,jnL,List.length_map,List.length_range,Nat.min_eq_left (by omega)]) (by show (l.length+i+1)*(32+1)<=_;omega) (fun H5 k2 e5 l5 hs=>?_);refine vz hs 1 rfl [sv k2 (l.length+(i+1))] rfl rfl (Nat.le_of_ble_eq_true rfl) rfl (fun H6 e6 hs=>?_)
  repeat' (first|refine nY (fun K0 hK0=>?_)|refine zAw ?_|refine zNw (fun _ _ hs=>?_)|fail)
  have e:fisC (l++(jnL u xs).take i)++fiC ⟨xs[i]!,0,0,u⟩=fisC (l++(jnL u xs).take (i+1)):=by
   rw[<- XN,List.append_assoc];unfold jnL;rw[et]
  have hs:=hs.pick [1,2,3] (by decide) rfl (L' := [(true,a, .cells true 1 [sv k2 (l.length+(i+1))]),(true,k2, .cells true 4 (fisC (l++(jnL u xs).take i)++fiC ⟨xs[i]!,0,0,u⟩)),(false,b, .cells w 1 (ints xs))]);rw[e] at hs;exact⟨⟨_,k2,i+1⟩,⟨hs,hlt⟩,by dsimp only;omega,Or.inl ⟨⟨rfl,rfl,rfl,rfl,rfl,trivial⟩,rfl⟩⟩
 ·have hie:i=xs.length:=by simp at hc;omega
  subst hie;rw[List.take_of_length_le (by simp[jnL])] at hs
  repeat' (first|refine nY (fun K0 hK0=>?_)|refine zAw ?_|refine zNw (fun _ _ hs=>?_)|fail)
  exact h _ _ k' (hs.pick [0,1] (by decide) rfl)
end Go.Af.Tryz
namespace Go.Af.Tryz
open Go Go.Proofs
attribute [local irreducible] awp qj qJ qL qC qo isCells qx qp qA qw qh roundEnd

theorem c158 {H:List Blk} {t:Tk} {x b c:Nat} {w:Bool} {i:Int} {R:Value->List Blk->Prop} (hx:bget H x=some (.cells w 1 (tkC t b c))) (h : ∀ H',HS H none' [] H' -> R (.agg ⟨[.int .i64 t.ro, .int .i64 i]⟩) H'):qj Tryz.prog 158 [.int .i64 i, .pointer (some ⟨x,0,none⟩)] H R:=by
 have hs:=(HS.start H none').add (c:=false) hx (fun i p hi=>by simp at hi) (fun h=>by cases h);refine qf tok Tryz.call158 Tryz.func158 rfl Tryz.ntmps158 rfl (by simp) ?_;refine qi hs (fun H1 b1 e1 l1 hs=>?_);refine qg (fun _ hKs=>hKs _ _ ?_);clear hKs;clear e1 l1
 repeat' (first|refine nY (fun K0 hK0=>?_)|refine zAw ?_|refine zNw (fun _ _ hs=>?_)|fail)
 change resK T _ _ _ _;refine ve (by rfl) (by rfl) (hs.get 0 rfl) (by rfl) ?_;refine⟨_,rfl,_,rfl, ?_⟩;exact h _ (qc hs)
theorem c163 {H:List Blk} {x:Nat} {w:Bool} {i s:Int} {R:Value->List Blk->Prop} (hx:bget H x=some (.cells w 1 [.int .i64 s])) (h : ∀ H',HS H none' [] H' -> R (.agg ⟨[.int .i64 s, .int .i64 i]⟩) H'):qj Tryz.prog 163 [.int .i64 i, .pointer (some ⟨x,0,none⟩)] H R:=by
 have hs:=(HS.start H none').add (c:=false) hx (fun i p hi=>by simp at hi) (fun h=>by cases h);refine qf tok Tryz.call163 Tryz.func163 rfl Tryz.ntmps163 rfl (by simp) ?_;refine qi hs (fun H1 b1 e1 l1 hs=>?_);refine qg (fun _ hKs=>hKs _ _ ?_);clear hKs;clear e1 l1
 repeat' (first|refine nY (fun K0 hK0=>?_)|refine zAw ?_|refine zNw (fun _ _ hs=>?_)|fail)
 change resK T _ _ _ _;refine ve (by rfl) (by rfl) (hs.get 0 rfl) (by rfl) ?_;refine⟨_,rfl,_,rfl, ?_⟩;exact h _ (qc hs)
theorem c160 {H:List Blk} {t:Tk} {x b c:Nat} {w:Bool} {i:Int} {R:Value->List Blk->Prop} (hx:bget H x=some (.cells w 1 (tkC t b c))) (hp:1<=t.pa) (hi:0<=i/\i<=100000) (h : ∀ H',HS H none' [] H' -> R (.agg ⟨[.int .i64 (i.tdiv t.pa), .int .i64 i]⟩) H'):qj Tryz.prog 160 [.int .i64 i, .pointer (some ⟨x,0,none⟩)] H R:=by
 have hq:=tdiv_le (r:=i) hi.1 hp;have hs:=(HS.start H none').add (c:=false) hx (fun i p hi=>by simp at hi) (fun h=>by cases h);refine qf tok Tryz.call160 Tryz.func160 rfl Tryz.ntmps160 rfl (by simp) ?_;refine qi hs (fun H1 b1 e1 l1 hs=>?_);refine qg (fun _ hKs=>hKs _ _ ?_);clear hKs;clear e1 l1
 repeat' (first|refine nY (fun K0 hK0=>?_)|refine zAw ?_|refine zNw (fun _ _ hs=>?_)|fail)
 change resK T _ _ _ _;refine ve (by rfl) (by rfl) (hs.get 0 rfl) (by rfl) ?_;refine⟨_,rfl,_,rfl, ?_⟩;exact h _ (qc hs)
theorem c159 {H:List Blk} {t:Tk} {x y k b c i:Nat} {w w2 w3:Bool} {xs:List Int} {R:Value->List Blk->Prop} (hx:bget H x=some (.cells w 1 (tkC t b c))) (hy:bget H y=some (.cells w2 1 [sv k xs.length])) (hk:bget H k=some (.cells w3 1 (ints xs))) (hd:x≠y/\x≠k/\y≠k) (hlt:i<xs.length) (h : ∀ H',HS H none' [] H' -> R (.agg ⟨[.int .i64 t.ro, .int .i64 xs[i]!]⟩) H'):qj Tryz.prog 159 [.int .i64 i, .pointer (some ⟨x,0,none⟩), .pointer (some ⟨y,0,none⟩)] H R:=by
 have hs:=(HS.start H none').add (c:=false) hk (fun i p hi=>by simp at hi) (fun h=>by cases h);have hs:=hs.add (c:=false) hy (fun i p hi=>by rcases i with _ | i <;> simp at hi;subst hi;exact hd.2.2.symm) (fun h=>by cases h);have hs:=hs.add (c:=false) hx (fun i p hi=>by rcases i with _ | _ | i <;> simp at hi <;> subst hi <;> first | exact hd.1.symm | exact hd.2.1.symm) (fun h=>by cases h);refine qf tok Tryz.call159 Tryz.func159 rfl Tryz.ntmps159 rfl (by simp) ?_;refine qi hs (fun H1 b1 e1 l1 hs=>?_);refine qg (fun _ hKs=>hKs _ _ ?_);clear hKs;clear e1 l1
 repeat' (first|refine nY (fun K0 hK0=>?_)|refine zAw ?_|refine zNw (fun _ _ hs=>?_)|fail)
 refine qm tok mx [0,1,0,0,12,28,63,127] [false,false,true,true,true,true,false,false] (.first 0 (.first 1 (.first 2 (.first 3 (.first 4 (.first 5 (.first 6 (.first 7 .done)))))))) (by kernel_rfl) ?_;refine ql (fun K0 hK0=>?_)
 repeat' (first|refine nY (fun K0 hK0=>?_)|refine zAw ?_|refine zNw (fun _ _ hs=>?_)|fail)
 refine wI hlt ?_
 repeat' (first|refine nY (fun K0 hK0=>?_)|refine zAw ?_|refine zNw (fun _ _ hs=>?_)|fail)
 change resK T _ _ _ _;refine ve (by rfl) (by rfl) (hs.get 0 rfl) (by rfl) ?_;refine⟨_,rfl,_,rfl, ?_⟩;exact h _ (qc hs)
theorem c161 {H:List Blk} {t:Tk} {x y k b c j:Nat} {i:Int} {w w2 w3:Bool} {xs:List Int} {R:Value->List Blk->Prop} (hx:bget H x=some (.cells w 1 (tkC t b c))) (hy:bget H y=some (.cells w2 1 [sv k xs.length])) (hk:bget H k=some (.cells w3 1 (ints xs))) (hd:x≠y/\x≠k/\y≠k) (hp:1<=t.pa) (hi:0<=i/\i<=100000) (hj:i.tmod t.pa=j) (hlt:j<xs.length) (h : ∀ H',HS H none' [] H' -> R (.agg ⟨[.int .i64 (i.tdiv t.pa), .int .i64 xs[j]!]⟩) H'):qj Tryz.prog 161 [.int .i64 i, .pointer (some ⟨x,0,none⟩), .pointer (some ⟨y,0,none⟩)] H R:=by
 have hq:=tdiv_le (r:=i) hi.1 hp;have hs:=(HS.start H none').add (c:=false) hk (fun i p hi=>by simp at hi) (fun h=>by cases h);have hs:=hs.add (c:=false) hy (fun i p hi=>by rcases i with _ | i <;> simp at hi;subst hi;exact hd.2.2.symm) (fun h=>by cases h);have hs:=hs.add (c:=false) hx (fun i p hi=>by rcases i with _ | _ | i <;> simp at hi <;> subst hi <;> first | exact hd.1.symm | exact hd.2.1.symm) (fun h=>by cases h);refine qf tok Tryz.call161 Tryz.func161 rfl Tryz.ntmps161 rfl (by simp) ?_;refine qi hs (fun H1 b1 e1 l1 hs=>?_);refine qg (fun _ hKs=>hKs _ _ ?_);clear hKs;clear e1 l1
 repeat' (first|refine nY (fun K0 hK0=>?_)|refine zAw ?_|refine zNw (fun _ _ hs=>?_)|fail)
 refine qm tok mx [0,0,2,7,0,0,0,64,224,496,1008,2047,4095] [false,false,false,false,true,true,true,true,true,true,true,false,false] (.first 0 (.first 1 (.first 2 (.first 3 (.first 4 (.first 5 (.first 6 (.first 7 (.first 8 (.first 9 (.first 10 (.first 11 (.first 12 .done))))))))))))) (by kernel_rfl) ?_;refine ql (fun K0 hK0=>?_)
 repeat' (first|refine nY (fun K0 hK0=>?_)|refine zAw ?_|refine zNw (fun _ _ hs=>?_)|fail)
 refine⟨j,hj,hlt, ?_⟩
 repeat' (first|refine nY (fun K0 hK0=>?_)|refine zAw ?_|refine zNw (fun _ _ hs=>?_)|fail)
 refine wI hlt ?_
 repeat' (first|refine nY (fun K0 hK0=>?_)|refine zAw ?_|refine zNw (fun _ _ hs=>?_)|fail)
 change resK T _ _ _ _;refine ve (by rfl) (by rfl) (hs.get 0 rfl) (by rfl) ?_;refine⟨_,rfl,_,rfl, ?_⟩;exact h _ (qc hs)
end Go.Af.Tryz
namespace Go.Af.Tryz
open Go Go.Proofs
attribute [local irreducible] awp qj qJ qL qC qo isCells qx qp qA qw qh roundEnd

section
variable {P:Program} {T' : TT}
theorem WP (hT:TOk P T') {f:FuncId} {fn:Func} {c:Code} {args:List Value} {H:List Blk} {R:Value->List Blk->Prop} (hc : ∀ (us:Array Value) (w:World),(callFunc f us).run P w = .ok (.enter f us) w) (hf:P.funcs[f]? = some fn) (hb:fn.body=some c) {n:Nat} (hnt:fn.ntmps=n)
 {rs:Array ResultVar} (hrs:fn.results=rs) (hn:args.length<=n) (h:awp P false H.length c (aft n (endQ T' rs.toList R)) ⟨n,WV args 0⟩ H):qj P f args H R:=by
 subst hnt;subst hrs;refine UO hT hc hf hb hn (vT h ?_);rintro e ⟨n',sl'⟩ H' ⟨h1,hq⟩
 cases e with
 | normal=>exact hq
 | exit i=>exact hq.elim
 | ret=>exact hq
theorem wC (hT:TOk P T') {rd:Bool} {n0 n:Nat} {Q:Ex->List (Nat × Value)->List Blk->Prop} {sl:List (Nat × Value)} {H:List Blk} {x y:Code}
 (hx:vcg P T' rd n0 n x (fun e sl' H' => match e with
   | .normal=>awp P rd n0 y (aft n Q) ⟨n,sl'⟩ H'
   | .exit i=>Q (.exit i) sl' H'
   | .ret=>Q .ret sl' H') sl H):awp P rd n0 (.seq x y) (aft n Q) ⟨n,sl⟩ H:=by
 refine QQ (vT (vC hT x hx) ?_);rintro e ⟨n2,sl2⟩ H2 ⟨rfl,hq⟩
 cases e with
 | normal=>exact hq
 | exit i=>exact⟨rfl,hq⟩
 | ret=>exact⟨rfl,hq⟩
end
theorem Vd {Hs H:List Blk} {o0:Nat->Prop} {a k:Nat} {A K:Blk} {L:List (Bool × Nat × Blk)} (h:HS Hs o0 ((true,a,A)::(true,k,K)::L) H):HS H (fun x=>x=a\/x=k) [(true,a,A),(true,k,K)] H :=
 ((HS.start H _).add (c:=true) (h.get 1 rfl) (fun i p hi=>by simp at hi) (fun _=>.inl (.inr rfl))).add (c:=true) (h.get 0 rfl) (fun i p hi=>by
   rcases i with _ | i
   ·simp at hi
    subst hi;exact h.ne 1 0 rfl rfl (by decide)
   ·simp at hi) (fun _=>.inl (.inl rfl))
theorem xE {Hs H H' : List Blk} {o0:Nat->Prop} {a k:Nat} {A K:Blk} {L:List (Bool × Nat × Blk)} (h:HS Hs o0 ((true,a,A)::(true,k,K)::L) H) (h' : HS H (fun x=>x=a\/x=k) [] H') (i:Nat) {c:Bool} {x:Nat} {B:Blk} (hi:L[i]? = some (c,x,B)):bget H' x=some B:=by
 have g:=h.g (i:=i+2) (by simpa using hi);refine (h'.u.2 x (qI g.1) (fun e=>?_)).trans g.1;rcases e with e | e
 ·have:=h.nd (i:=i+2) (j:=0) (by simpa using hi) rfl e
  omega
 ·have:=h.nd (i:=i+2) (j:=1) (by simpa using hi) rfl e
  omega
def hvL (t:Tk) (r:Int) (d e:Nat):List Fi:=if neF t r d (decide (e=0)) = -2 then [] else cpL (fun _=>neF t r d (decide (e=0))) (fun i=>i) (spnF t (1+2*d+e) (2+2*d+e))
def halF (t:Tk) (r:Int) (d:Nat):List Fi:=(List.range 2).flatMap (hvL t r d)
theorem ZU {f:Nat->List Fi} {m:Nat} : ∀ {l:List Nat} (_ : ∀ x∈l,(f x).length<=m),(l.flatMap f).length<=l.length*m
 | [],_=>by simp
 | x::l,h=>by
   have:=ZU (l:=l) (fun y hy=>h y (by simp[hy]));have:=h x (by simp);rw[List.flatMap_cons,List.length_append,List.length_cons,Nat.succ_mul];omega
theorem hvL_le {t:Tk} (kt:TkOk t) (r:Int) (d e:Nat):(hvL t r d e).length<=16:=by
 unfold hvL;split
 ·simp
 ·have hp:=kt.pa
  have q:(2+2*(d:Int)+e)*t.pa=(1+2*d+e)*t.pa+t.pa:=by
   rw[show (2+2*(d:Int)+e)=(1+2*d+e)+1 by omega,Int.add_mul,Int.one_mul]
  rw[cpL,List.length_map,List.length_range,vU,q];omega
theorem hal_le {t:Tk} (kt:TkOk t) (r:Int) {d e:Nat} (hd:d<=4) (he:e<=2) (d2:Nat):((List.range d).flatMap (halF t r)++(List.range e).flatMap (hvL t r d2)).length<=160:=by
 have a:=ZU (f:=hvL t r d2) (m:=16) (l:=List.range e) (fun x _=>hvL_le kt r d2 x)
 have b:=ZU (f:=halF t r) (m:=32) (l:=List.range d) (fun x _=>by
  have:=ZU (f:=hvL t r x) (m:=16) (l:=List.range 2) (fun y _=>hvL_le kt r x y)
  simpa [halF] using this)
 rw[List.length_range] at a b;rw[List.length_append];have:e*16<=2*16:=Nat.mul_le_mul_right _ he;have:d*32<=4*32:=Nat.mul_le_mul_right _ hd;omega
def finF (t:Tk) (r:Int):List Fi :=
 if t.op=1 then cpL (fun _=>t.ro) (fun i=>i) (spnF t 0 (blkF t))
 else if t.op=6 then cpL (fun _=>t.ro) (fun i=>(spnF t r (r+1))[i]!) (spnF t r (r+1))
 else if t.op=5\/t.op=7 then if t.op=7\/r=t.ro then cpL (fun i=>(i:Int).tdiv t.pa) (fun i=>i) (spnF t 0 (blkF t)) else []
 else if t.op=8 then cpL (fun i=>(i:Int).tdiv t.pa) (fun i=>(spnF t r (r+1))[((i:Int).tmod t.pa).toNat]!) (spnF t t.pr (2*t.pr))
 else if t.op=11 then (List.range t.sz.length).flatMap (halF t r)
 else if t.op=2 then if r=t.ro then jnL (t.pr-1) (spnF t 0 (blkF t)) else []
 else if t.op=4 then jnL r (spnF t 0 (blkF t))
 else if t.op=9 then jnL (t.pr-1) (spnF t r (r+1))
 else jnL (t.pr-1) (spnF t 0 (blkF t))
theorem yl (f g:Nat->Int) (xs:List Int):(cpL f g xs).length=xs.length:=by simp[cpL]
theorem uT (u:Int) (xs:List Int):(jnL u xs).length=xs.length:=by simp[jnL]
theorem c77 {H:List Blk} {t:Tk} {r:Int} {b c:Nat} {R:Value->List Blk->Prop} (kt:TkOk t) (g:Gr H t.sz b) (gw:Gw H t.ws b c) (hr:0<=r/\r<t.pr) (h : ∀ H' k,HS H none' [(true,k, .cells true 4 (fisC (finF t r)))] H' -> R (sv k (finF t r).length) H'):qj Tryz.prog 77 [tkV t b c, .int .i64 r] H R:=by
 have hb:=ww kt;have hpr:=kt.pr;have hpa:=kt.pa;have hop:=kt.op;have hdm:=kt.dims;refine WP tok Tryz.call77 Tryz.func77 rfl Tryz.ntmps77 rfl (by simp) ?_;have hs:=HS.start H none';refine wC tok ?_;refine qi hs (fun H1 x e1 l1 hs=>?_)
 repeat' (first|refine nX ?_|refine nY (fun K0 hK0=>?_)|refine bH ?_|refine bM ?_|refine iS hs ?_|refine rS hs ?_|refine eI _ (aI rfl ?_)|refine vH ?_|refine vG ?_|refine qO ?_|refine oJ ?_|refine nN hs (fun _ _ hs=>?_)|refine nS hs (fun _ _ hs=>?_)|refine sX hs (fun _ hs=>?_)|refine rd ?_|(refine hK0 _ _ ?_;clear hK0)|fail)
 clear e1 l1;refine wC tok ?_;refine qi hs (fun H2 o e1 l1 hs=>?_)
 repeat' (first|refine nX ?_|refine nY (fun K0 hK0=>?_)|refine bH ?_|refine bM ?_|refine iS hs ?_|refine rS hs ?_|refine eI _ (aI rfl ?_)|refine vH ?_|refine vG ?_|refine qO ?_|refine oJ ?_|refine nN hs (fun _ _ hs=>?_)|refine nS hs (fun _ _ hs=>?_)|refine sX hs (fun _ hs=>?_)|refine rd ?_|(refine hK0 _ _ ?_;clear hK0)|fail)
 clear e1 l1;refine wC tok ?_
 repeat' (first|refine nX ?_|refine nY (fun K0 hK0=>?_)|refine bH ?_|refine bM ?_|refine iS hs ?_|refine rS hs ?_|refine eI _ (aI rfl ?_)|refine vH ?_|refine vG ?_|refine qO ?_|refine oJ ?_|refine nN hs (fun _ _ hs=>?_)|refine nS hs (fun _ _ hs=>?_)|refine sX hs (fun _ hs=>?_)|refine rd ?_|(refine hK0 _ _ ?_;clear hK0)|fail)
 refine wC tok ?_
 repeat' (first|refine nX ?_|refine nY (fun K0 hK0=>?_)|refine bH ?_|refine bM ?_|refine iS hs ?_|refine rS hs ?_|refine eI _ (aI rfl ?_)|refine vH ?_|refine vG ?_|refine qO ?_|refine oJ ?_|refine nN hs (fun _ _ hs=>?_)|refine nS hs (fun _ _ hs=>?_)|refine sX hs (fun _ hs=>?_)|refine rd ?_|(refine hK0 _ _ ?_;clear hK0)|fail)
 have hh:WkH H2 ((H2 ++ [Blk.cells true 4 (fisC [])]).set o (Blk.cells true 1 [sv H2.length 0])):=WkH.set (WkH.rfl.app [Blk.cells true 4 (fisC [])]) (hs.get 0 rfl) (vs' := [sv H2.length 0]) rfl (fun i v v' h1 h2=>by
  rcases i with _ | i
  ·cases h1;cases h2;exact .nil _
  ·simp at h1)
 have hs:=((hs.virt (.cells true 4 (fisC []))).vset 1 rfl (B' := .cells true 1 [sv H2.length 0])).pick [1,0,2] (by decide) rfl (L' := [(true,o, .cells true 1 [sv H2.length 0]),(true,H2.length, .cells true 4 (fisC [])),(true,x, .cells true 1 (tkC t b c))]);refine VE (S := [(1, .int .i64 r),(2, .pointer (some ⟨x,0,none⟩)),(5, .pointer (some ⟨o,0,none⟩)),(6, .func (.func 155) #[] #[.pointer (some ⟨o,0,none⟩)]),(7, .func (.func 156) #[] #[.pointer (some ⟨o,0,none⟩)])]) ⟨⟨_,rfl, .rfl⟩,⟨_,rfl, .rfl⟩,⟨_,rfl, .rfl⟩,⟨_,rfl, .rfl⟩,⟨_,rfl, .rfl⟩,trivial⟩ hh ?_;clear hh;generalize (H2 ++ [Blk.cells true 4 (fisC [])]).set o (.cells true 1 [sv H2.length 0])=H3 at hs ⊢;generalize H2.length=k at hs
 refine vT (YQ tok (Q:=endQ T _ R) (α := List Blk × Nat × Nat × Nat) (fun z=>HS H none' [(true,o, .cells true 1 [sv k 0]),(true,k, .cells true 4 (fisC [])),(true,x, .cells true 1 (tkC t b c)),(true,z.2.1,rw' (spnF t 0 (blkF t))),(true,z.2.2.1, .cells true 1 [sv z.2.2.2 (spnF t r (r+1)).length]),(true,z.2.2.2,rw' (spnF t r (r+1)))] z.1)
  (fun z=>[(1, .int .i64 r),(2, .pointer (some ⟨x,0,none⟩)),(5, .pointer (some ⟨o,0,none⟩)),(6, .func (.func 155) #[] #[.pointer (some ⟨o,0,none⟩)]),(7, .func (.func 156) #[] #[.pointer (some ⟨o,0,none⟩)]),(8,sv z.2.1 (spnF t 0 (blkF t)).length),(9, .pointer (some ⟨z.2.2.1,0,none⟩))]) (fun z=>z.1) ?_ ?_) (fun _ _ _ h=>h)
 ·refine qm tok mx [0,0,2,7,0,0,0,64,255,0,1023,2047] [true,false,false,false,true,true,true,true,false,true,false,false] (.first 1 (.first 5 (.first 6 (.first 7 (.alt 0 (.alt 2 (.alt 3 (.first 4 (.alt 8 (.first 9 (.first 10 (.first 11 .done))) (.alt 9 (.first 8 (.first 10 (.first 11 .done))) .no))) (.alt 4 (.alt 3 (.alt 8 (.first 9 (.first 10 (.first 11 .done))) (.alt 9 (.first 8 (.first 10 (.first 11 .done))) .no)) (.alt 9 (.first 3 (.first 8 (.first 10 (.first 11 .done)))) .no)) (.alt 9 (.alt 3 (.first 4 (.first 8 (.first 10 (.first 11 .done)))) (.alt 4 (.first 3 (.first 8 (.first 10 (.first 11 .done)))) .no)) .no))) (.alt 4 (.alt 2 (.alt 3 (.alt 8 (.first 9 (.first 10 (.first 11 .done))) (.alt 9 (.first 8 (.first 10 (.first 11 .done))) .no)) (.alt 9 (.first 3 (.first 8 (.first 10 (.first 11 .done)))) .no)) (.alt 9 (.first 2 (.first 3 (.first 8 (.first 10 (.first 11 .done))))) .no)) (.alt 9 (.alt 2 (.alt 3 (.first 4 (.first 8 (.first 10 (.first 11 .done)))) (.alt 4 (.first 3 (.first 8 (.first 10 (.first 11 .done)))) .no)) (.alt 4 (.first 2 (.first 3 (.first 8 (.first 10 (.first 11 .done))))) .no)) .no))) (.alt 2 (.first 0 (.alt 3 (.first 4 (.alt 8 (.first 9 (.first 10 (.first 11 .done))) (.alt 9 (.first 8 (.first 10 (.first 11 .done))) .no))) (.alt 4 (.alt 3 (.alt 8 (.first 9 (.first 10 (.first 11 .done))) (.alt 9 (.first 8 (.first 10 (.first 11 .done))) .no)) (.alt 9 (.first 3 (.first 8 (.first 10 (.first 11 .done)))) .no)) (.alt 9 (.alt 3 (.first 4 (.first 8 (.first 10 (.first 11 .done)))) (.alt 4 (.first 3 (.first 8 (.first 10 (.first 11 .done)))) .no)) .no)))) (.alt 4 (.alt 0 (.alt 2 (.alt 3 (.alt 8 (.first 9 (.first 10 (.first 11 .done))) (.alt 9 (.first 8 (.first 10 (.first 11 .done))) .no)) (.alt 9 (.first 3 (.first 8 (.first 10 (.first 11 .done)))) .no)) (.alt 9 (.first 2 (.first 3 (.first 8 (.first 10 (.first 11 .done))))) .no)) (.alt 2 (.first 0 (.alt 3 (.alt 8 (.first 9 (.first 10 (.first 11 .done))) (.alt 9 (.first 8 (.first 10 (.first 11 .done))) .no)) (.alt 9 (.first 3 (.first 8 (.first 10 (.first 11 .done)))) .no))) (.alt 9 (.alt 0 (.first 2 (.first 3 (.first 8 (.first 10 (.first 11 .done))))) (.alt 2 (.first 0 (.first 3 (.first 8 (.first 10 (.first 11 .done))))) .no)) .no))) (.alt 9 (.alt 0 (.alt 2 (.alt 3 (.first 4 (.first 8 (.first 10 (.first 11 .done)))) (.alt 4 (.first 3 (.first 8 (.first 10 (.first 11 .done)))) .no)) (.alt 4 (.first 2 (.first 3 (.first 8 (.first 10 (.first 11 .done))))) .no)) (.alt 2 (.first 0 (.alt 3 (.first 4 (.first 8 (.first 10 (.first 11 .done)))) (.alt 4 (.first 3 (.first 8 (.first 10 (.first 11 .done)))) .no))) (.alt 4 (.alt 0 (.first 2 (.first 3 (.first 8 (.first 10 (.first 11 .done))))) (.alt 2 (.first 0 (.first 3 (.first 8 (.first 10 (.first 11 .done))))) .no)) .no))) .no)))))))) (by kernel_rfl) ?_
  refine ql (fun K0 hK0=>?_)
  repeat' (first|refine nX ?_|refine nY (fun K0 hK0=>?_)|refine bH ?_|refine bM ?_|refine iS hs ?_|refine rS hs ?_|refine eI _ (aI rfl ?_)|refine vH ?_|refine vG ?_|refine qO ?_|refine oJ ?_|refine nN hs (fun _ _ hs=>?_)|refine nS hs (fun _ _ hs=>?_)|refine sX hs (fun _ hs=>?_)|refine rd ?_|(refine hK0 _ _ ?_;clear hK0)|fail)
  iterate 14 (
   all_goals try exact trivial
   all_goals try (refine c87 (by omega) hpr (fun H5 hn=>?_);have hs:=qK hs hn;clear hn)
   all_goals try (refine c157 (by omega) (by omega) (yJ kt (by omega) (by omega)) (by omega) (fun H5 j hn=>?_);have hs:=hs.call hn rfl;clear hn)
   all_goals try (refine And.intro ?_ ?_)
   all_goals try (
    repeat' (first|refine nX ?_|refine nY (fun K0 hK0=>?_)|refine bH ?_|refine bM ?_|refine iS hs ?_|refine rS hs ?_|refine eI _ (aI rfl ?_)|refine vH ?_|refine vG ?_|refine qO ?_|refine oJ ?_|refine nN hs (fun _ _ hs=>?_)|refine nS hs (fun _ _ hs=>?_)|refine sX hs (fun _ hs=>?_)|refine rd ?_|(refine hK0 _ _ ?_;clear hK0)|fail)
    ))
  all_goals first
   | exact⟨(_,_,_,_),hs.pick [3,4,5,2,0,1] (by decide) rfl,⟨⟨_,rfl, .rfl⟩,⟨_,rfl, .rfl⟩,⟨_,rfl, .rfl⟩,⟨_,rfl, .rfl⟩,⟨_,rfl, .rfl⟩,⟨_,rfl, .rfl⟩,⟨_,rfl, .rfl⟩,trivial⟩, .rfl⟩
   | exact⟨(_,_,_,_),hs.pick [3,4,5,2,1,0] (by decide) rfl,⟨⟨_,rfl, .rfl⟩,⟨_,rfl, .rfl⟩,⟨_,rfl, .rfl⟩,⟨_,rfl, .rfl⟩,⟨_,rfl, .rfl⟩,⟨_,rfl, .rfl⟩,⟨_,rfl, .rfl⟩,trivial⟩, .rfl⟩
   | exact⟨(_,_,_,_),hs.pick [3,4,5,1,2,0] (by decide) rfl,⟨⟨_,rfl, .rfl⟩,⟨_,rfl, .rfl⟩,⟨_,rfl, .rfl⟩,⟨_,rfl, .rfl⟩,⟨_,rfl, .rfl⟩,⟨_,rfl, .rfl⟩,⟨_,rfl, .rfl⟩,trivial⟩, .rfl⟩
 ·clear hs
  rintro ⟨H4,ka,w,kw⟩ hs;dsimp only at hs ⊢;have hlA:(spnF t 0 (blkF t)).length<=10000:=by rw[vU];omega
  have hlO:(spnF t r (r+1)).length<=10000:=by rw[vU,Int.add_mul];omega
  unfold finF at h
  repeat' (first|refine nX ?_|refine nY (fun K0 hK0=>?_)|refine bH ?_|refine bM ?_|refine iS hs ?_|refine rS hs ?_|refine eI _ (aI rfl ?_)|refine vH ?_|refine vG ?_|refine qO ?_|refine oJ ?_|refine nN hs (fun _ _ hs=>?_)|refine nS hs (fun _ _ hs=>?_)|refine sX hs (fun _ hs=>?_)|(refine dI (fun hc=>?_) (fun hc=>?_) <;> try (exfalso;omega))|refine rd ?_|(refine hK0 _ _ ?_;clear hK0)|fail)
  all_goals skip
  all_goals (repeat (first | rw[if_pos (by omega)] at h | rw[if_neg (by omega)] at h))
  all_goals try (
   refine c155 (l := []) (Vd hs) (hs.get 3 rfl) (hs.ne 3 0 rfl rfl (by decide)) (hs.ne 3 1 rfl rfl (by decide)) hlA (Nat.zero_le _) (fr:=fun _=>t.ro) (fs:=fun i=>i) (fun i H5 R5 hlt h5 hR=>c158 (xE hs h5 0 rfl) hR) (fun v H5 k2 h2=>?_);have hs:=Ve hs h2;clear h2;rw[List.length_nil,Nat.zero_add] at hs
   first | rw[yl] at h | rw[uT] at h
   repeat' (first|refine nX ?_|refine nY (fun K0 hK0=>?_)|refine bH ?_|refine bM ?_|refine iS hs ?_|refine rS hs ?_|refine eI _ (aI rfl ?_)|refine vH ?_|refine vG ?_|refine qO ?_|refine oJ ?_|refine nN hs (fun _ _ hs=>?_)|refine nS hs (fun _ _ hs=>?_)|refine sX hs (fun _ hs=>?_)|refine rd ?_|(refine hK0 _ _ ?_;clear hK0)|fail)
   exact h _ k2 (hs.pick [1] (by decide) rfl)
   done)
  all_goals try (
   repeat' (first|refine nX ?_|refine nY (fun K0 hK0=>?_)|refine bH ?_|refine bM ?_|refine iS hs ?_|refine rS hs ?_|refine eI _ (aI rfl ?_)|refine vH ?_|refine vG ?_|refine qO ?_|refine oJ ?_|refine nN hs (fun _ _ hs=>?_)|refine nS hs (fun _ _ hs=>?_)|refine sX hs (fun _ hs=>?_)|refine rd ?_|(refine hK0 _ _ ?_;clear hK0)|fail)
   refine c155 (l := []) (Vd hs) (hs.get 5 rfl) (hs.ne 5 0 rfl rfl (by decide)) (hs.ne 5 1 rfl rfl (by decide)) hlO (Nat.zero_le _) (fr:=fun _=>t.ro) (fs:=fun i=>(spnF t r (r+1))[i]!) (fun i H5 R5 hlt h5 hR=>c159 (xE hs h5 0 rfl) (xE hs h5 2 rfl) (xE hs h5 3 rfl) ⟨hs.ne 2 4 rfl rfl (by decide),hs.ne 2 5 rfl rfl (by decide),hs.ne 4 5 rfl rfl (by decide)⟩ hlt hR) (fun v H5 k2 h2=>?_);have hs:=Ve hs h2;clear h2;rw[List.length_nil,Nat.zero_add] at hs
   first | rw[yl] at h | rw[uT] at h
   repeat' (first|refine nX ?_|refine nY (fun K0 hK0=>?_)|refine bH ?_|refine bM ?_|refine iS hs ?_|refine rS hs ?_|refine eI _ (aI rfl ?_)|refine vH ?_|refine vG ?_|refine qO ?_|refine oJ ?_|refine nN hs (fun _ _ hs=>?_)|refine nS hs (fun _ _ hs=>?_)|refine sX hs (fun _ hs=>?_)|refine rd ?_|(refine hK0 _ _ ?_;clear hK0)|fail)
   exact h _ k2 (hs.pick [1] (by decide) rfl)
   done)
  all_goals try (
   refine c155 (l := []) (Vd hs) (hs.get 3 rfl) (hs.ne 3 0 rfl rfl (by decide)) (hs.ne 3 1 rfl rfl (by decide)) hlA (Nat.zero_le _) (fr:=fun i=>(i:Int).tdiv t.pa) (fs:=fun i=>i) (fun i H5 R5 hlt h5 hR=>c160 (xE hs h5 0 rfl) (by omega) (by omega) hR) (fun v H5 k2 h2=>?_);have hs:=Ve hs h2;clear h2;rw[List.length_nil,Nat.zero_add] at hs
   first | rw[yl] at h | rw[uT] at h
   repeat' (first|refine nX ?_|refine nY (fun K0 hK0=>?_)|refine bH ?_|refine bM ?_|refine iS hs ?_|refine rS hs ?_|refine eI _ (aI rfl ?_)|refine vH ?_|refine vG ?_|refine qO ?_|refine oJ ?_|refine nN hs (fun _ _ hs=>?_)|refine nS hs (fun _ _ hs=>?_)|refine sX hs (fun _ hs=>?_)|refine rd ?_|(refine hK0 _ _ ?_;clear hK0)|fail)
   exact h _ k2 (hs.pick [1] (by decide) rfl)
   done)
  all_goals try (
   refine c156 (l := []) (Vd hs) (hs.get 3 rfl) (hs.ne 3 0 rfl rfl (by decide)) (hs.ne 3 1 rfl rfl (by decide)) hlA (Nat.zero_le _) (fun v H5 k2 h2=>?_);have hs:=Ve hs h2;clear h2;rw[List.length_nil,Nat.zero_add] at hs
   first | rw[yl] at h | rw[uT] at h
   repeat' (first|refine nX ?_|refine nY (fun K0 hK0=>?_)|refine bH ?_|refine bM ?_|refine iS hs ?_|refine rS hs ?_|refine eI _ (aI rfl ?_)|refine vH ?_|refine vG ?_|refine qO ?_|refine oJ ?_|refine nN hs (fun _ _ hs=>?_)|refine nS hs (fun _ _ hs=>?_)|refine sX hs (fun _ hs=>?_)|refine rd ?_|(refine hK0 _ _ ?_;clear hK0)|fail)
   exact h _ k2 (hs.pick [1] (by decide) rfl)
   done)
  all_goals try (
   repeat' (first|refine nX ?_|refine nY (fun K0 hK0=>?_)|refine bH ?_|refine bM ?_|refine iS hs ?_|refine rS hs ?_|refine eI _ (aI rfl ?_)|refine vH ?_|refine vG ?_|refine qO ?_|refine oJ ?_|refine nN hs (fun _ _ hs=>?_)|refine nS hs (fun _ _ hs=>?_)|refine sX hs (fun _ hs=>?_)|refine rd ?_|(refine hK0 _ _ ?_;clear hK0)|fail)
   refine c156 (l := []) (Vd hs) (hs.get 5 rfl) (hs.ne 5 0 rfl rfl (by decide)) (hs.ne 5 1 rfl rfl (by decide)) hlO (Nat.zero_le _) (fun v H5 k2 h2=>?_);have hs:=Ve hs h2;clear h2;rw[List.length_nil,Nat.zero_add] at hs
   first | rw[yl] at h | rw[uT] at h
   repeat' (first|refine nX ?_|refine nY (fun K0 hK0=>?_)|refine bH ?_|refine bM ?_|refine iS hs ?_|refine rS hs ?_|refine eI _ (aI rfl ?_)|refine vH ?_|refine vG ?_|refine qO ?_|refine oJ ?_|refine nN hs (fun _ _ hs=>?_)|refine nS hs (fun _ _ hs=>?_)|refine sX hs (fun _ hs=>?_)|refine rd ?_|(refine hK0 _ _ ?_;clear hK0)|fail)
   exact h _ k2 (hs.pick [1] (by decide) rfl)
   done)
  all_goals try exact h _ k (hs.pick [1] (by decide) rfl)
  ·refine c157 (by omega) (by omega) (yJ kt (by omega) (by omega)) (by omega) (fun H5 j hn=>?_)
   have hs:=(hs.call hn rfl).pick [1,2,3,4,5,6,0] (by decide) rfl (L' := [(true,o, .cells true 1 [sv k 0]),(true,k, .cells true 4 (fisC [])),(true,x, .cells true 1 (tkC t b c)),(true,ka,rw' (spnF t 0 (blkF t))),(true,w, .cells true 1 [sv kw (spnF t r (r+1)).length]),(true,kw,rw' (spnF t r (r+1))),(true,j,rw' (spnF t t.pr (2*t.pr)))]);clear hn
   have hl8:(spnF t t.pr (2*t.pr)).length<=10000:=by
    have:=yJ kt (g:=2*t.pr) (by omega) (by omega);have:=yJ kt (g:=t.pr) (by omega) (by omega);have q:2*t.pr*t.pa<=128*16:=Int.mul_le_mul (by omega) hpa.2 (by omega) (by omega);rw[vU];omega
   repeat' (first|refine nX ?_|refine nY (fun K0 hK0=>?_)|refine bH ?_|refine bM ?_|refine iS hs ?_|refine rS hs ?_|refine eI _ (aI rfl ?_)|refine vH ?_|refine vG ?_|refine qO ?_|refine oJ ?_|refine nN hs (fun _ _ hs=>?_)|refine nS hs (fun _ _ hs=>?_)|refine sX hs (fun _ hs=>?_)|refine rd ?_|(refine hK0 _ _ ?_;clear hK0)|fail)
   refine c155 (l := []) (Vd hs) (hs.get 6 rfl) (hs.ne 6 0 rfl rfl (by decide)) (hs.ne 6 1 rfl rfl (by decide)) hl8 (Nat.zero_le _) (fr:=fun i=>(i:Int).tdiv t.pa) (fs:=fun i=>(spnF t r (r+1))[((i:Int).tmod t.pa).toNat]!) (fun i H5 R5 hlt h5 hR=>?_) (fun v H5 k2 h2=>?_)
   ·have hm:=Zq (x:=(i:Int)) (s:=t.pa) (by omega)
    have h0:0<=(i:Int).tmod t.pa:=by
     rw[Int.tmod_eq_emod_of_nonneg (by omega)];exact Int.emod_nonneg _ (by omega)
    exact c161 (xE hs h5 0 rfl) (xE hs h5 2 rfl) (xE hs h5 3 rfl) ⟨hs.ne 2 4 rfl rfl (by decide),hs.ne 2 5 rfl rfl (by decide),hs.ne 4 5 rfl rfl (by decide)⟩ (by omega) (by omega) (by omega) (by rw[vU,Int.add_mul];omega) hR
   ·have hs:=Ve hs h2
    clear h2;rw[List.length_nil,Nat.zero_add] at hs
    first | rw[yl] at h | rw[uT] at h
    repeat' (first|refine nX ?_|refine nY (fun K0 hK0=>?_)|refine bH ?_|refine bM ?_|refine iS hs ?_|refine rS hs ?_|refine eI _ (aI rfl ?_)|refine vH ?_|refine vG ?_|refine qO ?_|refine oJ ?_|refine nN hs (fun _ _ hs=>?_)|refine nS hs (fun _ _ hs=>?_)|refine sX hs (fun _ hs=>?_)|refine rd ?_|(refine hK0 _ _ ?_;clear hK0)|fail)
    exact h _ k2 (hs.pick [1] (by decide) rfl)
  ·have hop' : t.op=11:=by omega
   have h0:crdE t.sz t.ws.length r=0:=by
    have:=kt.halo hop';unfold crdE;rw[this,if_neg (by omega),if_neg (by omega)]
   refine qW (α := List Blk × Nat × Nat) tok (fun z=>HS H none' [(true,o, .cells true 1 [sv z.2.1 ((List.range z.2.2).flatMap (halF t r)).length]),(true,z.2.1, .cells true 4 (fisC ((List.range z.2.2).flatMap (halF t r)))),(true,x, .cells true 1 (tkC t b c))] z.1/\z.2.2<=t.sz.length)
    (fun | ⟨_,k',d⟩=>[(1, .int .i64 r),(2, .pointer (some ⟨x,0,none⟩)),(5, .pointer (some ⟨o,0,none⟩)),(6, .func (.func 155) #[] #[.pointer (some ⟨o,0,none⟩)]),(77, .int .i64 t.sz.length),(78, .int .i64 d)]) (fun | ⟨H',_,_⟩=>H') (fun z=>t.sz.length-z.2.2)
    ⟨H4,k,0⟩ ⟨hs.pick [0,1,2] (by decide) rfl,Nat.zero_le _⟩ ⟨⟨_,rfl, .rfl⟩,⟨_,rfl, .rfl⟩,⟨_,rfl, .rfl⟩,⟨_,rfl, .rfl⟩,⟨_,rfl, .rfl⟩,⟨_,rfl, .rfl⟩,trivial⟩ WkH.rfl ?_
   clear hs;rintro ⟨H5,k',d⟩ ⟨hs,hd⟩;dsimp only at hs hd ⊢
   repeat' (first|refine nX ?_|refine nY (fun K0 hK0=>?_)|refine bH ?_|refine bM ?_|refine iS hs ?_|refine rS hs ?_|refine eI _ (aI rfl ?_)|refine vH ?_|refine vG ?_|refine qO ?_|refine oJ ?_|refine nN hs (fun _ _ hs=>?_)|refine nS hs (fun _ _ hs=>?_)|refine sX hs (fun _ hs=>?_)|refine rd ?_|(refine hK0 _ _ ?_;clear hK0)|fail)
   refine And.intro (fun hc=>?_) (fun hc=>?_)
   ·have hlt:d<t.sz.length:=by simp at hc;omega
    clear hc
    repeat' (first|refine nX ?_|refine nY (fun K0 hK0=>?_)|refine bH ?_|refine bM ?_|refine iS hs ?_|refine rS hs ?_|refine eI _ (aI rfl ?_)|refine vH ?_|refine vG ?_|refine qO ?_|refine oJ ?_|refine nN hs (fun _ _ hs=>?_)|refine nS hs (fun _ _ hs=>?_)|refine sX hs (fun _ hs=>?_)|refine rd ?_|(refine hK0 _ _ ?_;clear hK0)|refine c162 (g.up (qc hs)) (gw.up (qc hs)) h0 hlt (kNo hs (fun H6 hs=>?_))|fail)
    refine qW (α := List Blk × Nat × Nat) tok (fun z=>HS H none' [(true,o, .cells true 1 [sv z.2.1 ((List.range d).flatMap (halF t r)++(List.range z.2.2).flatMap (hvL t r d)).length]),(true,z.2.1, .cells true 4 (fisC ((List.range d).flatMap (halF t r)++(List.range z.2.2).flatMap (hvL t r d)))),(true,x, .cells true 1 (tkC t b c))] z.1/\z.2.2<=2)
     (fun | ⟨_,k',e⟩=>[(1, .int .i64 r),(2, .pointer (some ⟨x,0,none⟩)),(5, .pointer (some ⟨o,0,none⟩)),(6, .func (.func 155) #[] #[.pointer (some ⟨o,0,none⟩)]),(10, .int .i64 d),(77, .int .i64 t.sz.length),(78, .int .i64 d),(84, .agg ⟨[.int .i64 (neF t r d true), .int .i64 (neF t r d false)]⟩),(85, .int .i64 e)]) (fun | ⟨H',_,_⟩=>H') (fun z=>2-z.2.2)
     ⟨H6,k',0⟩ ⟨by simpa using hs,Nat.zero_le _⟩ ⟨⟨_,rfl, .rfl⟩,⟨_,rfl, .rfl⟩,⟨_,rfl, .rfl⟩,⟨_,rfl, .rfl⟩,⟨_,rfl, .rfl⟩,⟨_,rfl, .rfl⟩,⟨_,rfl, .rfl⟩,⟨_,rfl, .rfl⟩,⟨_,rfl, .rfl⟩,trivial⟩ WkH.rfl ?_
    clear hs;rintro ⟨H7,k2,e⟩ ⟨hs,he⟩;dsimp only at hs he ⊢
    repeat' (first|refine nX ?_|refine nY (fun K0 hK0=>?_)|refine bH ?_|refine bM ?_|refine iS hs ?_|refine rS hs ?_|refine eI _ (aI rfl ?_)|refine vH ?_|refine vG ?_|refine qO ?_|refine oJ ?_|refine nN hs (fun _ _ hs=>?_)|refine nS hs (fun _ _ hs=>?_)|refine sX hs (fun _ hs=>?_)|refine rd ?_|(refine hK0 _ _ ?_;clear hK0)|fail)
    refine And.intro (fun hc=>?_) (fun hc=>?_)
    ·have hle:e<2:=by simp at hc;omega
     clear hc;have hL:=hal_le kt r (d:=d) (e:=e) (by omega) (by omega) d;have es:(List.range (e+1)).flatMap (hvL t r d)=(List.range e).flatMap (hvL t r d)++hvL t r d e:=by rw[List.range_succ,List.flatMap_append];simp
     have hsp:(spnF t (1+2*d+e) (2+2*d+e)).length<=10000:=by
      have q:(2+2*(d:Int)+e)*t.pa=(1+2*d+e)*t.pa+t.pa:=by
       rw[show (2+2*(d:Int)+e)=(1+2*d+e)+1 by omega,Int.add_mul,Int.one_mul]
      rw[vU,q];omega
     have hix:e=0\/e=1:=by omega
     rcases hix with rfl | rfl
     ·skip
      by_cases hq:neF t r d true = -2
      ·have e0:hvL t r d 0 = []:=by
        show (if neF t r d true = -2 then _ else _)=_;rw[if_pos hq]
       rw[e0,List.append_nil] at es;rw[<- es] at hs
       repeat' (first|refine nX ?_|refine nY (fun K0 hK0=>?_)|refine bH ?_|refine bM ?_|refine iS hs ?_|refine rS hs ?_|refine eI _ (aI rfl ?_)|refine vH ?_|refine vG ?_|refine qO ?_|refine oJ ?_|refine nN hs (fun _ _ hs=>?_)|refine nS hs (fun _ _ hs=>?_)|refine sX hs (fun _ hs=>?_)|(refine dI (fun hc=>?_) (fun hc=>?_) <;> try (exfalso;omega))|refine rd ?_|(refine hK0 _ _ ?_;clear hK0)|fail)
       refine⟨0,⟨rfl,by decide⟩, ?_⟩
       repeat' (first|refine nX ?_|refine nY (fun K0 hK0=>?_)|refine bH ?_|refine bM ?_|refine iS hs ?_|refine rS hs ?_|refine eI _ (aI rfl ?_)|refine vH ?_|refine vG ?_|refine qO ?_|refine oJ ?_|refine nN hs (fun _ _ hs=>?_)|refine nS hs (fun _ _ hs=>?_)|refine sX hs (fun _ hs=>?_)|(refine dI (fun hc=>?_) (fun hc=>?_) <;> try (exfalso;omega))|refine rd ?_|(refine hK0 _ _ ?_;clear hK0)|fail)
       exact⟨⟨_,k2,0+1⟩,⟨hs.pick [1,2,3] (by decide) rfl,by dsimp only;omega⟩,by dsimp only;omega,Or.inl ⟨⟨rfl,rfl,rfl,rfl,rfl,rfl,rfl,rfl,rfl,trivial⟩,rfl⟩⟩
      ·have e0:hvL t r d 0=cpL (fun _=>neF t r d true) (fun i=>i) (spnF t (1+2*d+(0:Nat)) (2+2*d+(0:Nat))):=by
        show (if neF t r d true = -2 then [] else cpL (fun _=>neF t r d true) _ _)=_;rw[if_neg hq]
       rw[e0] at es
       repeat' (first|refine nX ?_|refine nY (fun K0 hK0=>?_)|refine bH ?_|refine bM ?_|refine iS hs ?_|refine rS hs ?_|refine eI _ (aI rfl ?_)|refine vH ?_|refine vG ?_|refine qO ?_|refine oJ ?_|refine nN hs (fun _ _ hs=>?_)|refine nS hs (fun _ _ hs=>?_)|refine sX hs (fun _ hs=>?_)|(refine dI (fun hc=>?_) (fun hc=>?_) <;> try (exfalso;omega))|refine rd ?_|(refine hK0 _ _ ?_;clear hK0)|fail)
       refine⟨0,⟨rfl,by decide⟩, ?_⟩
       repeat' (first|refine nX ?_|refine nY (fun K0 hK0=>?_)|refine bH ?_|refine bM ?_|refine iS hs ?_|refine rS hs ?_|refine eI _ (aI rfl ?_)|refine vH ?_|refine vG ?_|refine qO ?_|refine oJ ?_|refine nN hs (fun _ _ hs=>?_)|refine nS hs (fun _ _ hs=>?_)|refine sX hs (fun _ hs=>?_)|(refine dI (fun hc=>?_) (fun hc=>?_) <;> try (exfalso;omega))|refine rd ?_|(refine hK0 _ _ ?_;clear hK0)|fail)
       refine c157 (by omega) (by omega) (yJ kt (by omega) (by omega)) (by omega) (fun H8 j hn=>?_);have hs:=(hs.call hn rfl).pick [2,3,4,1,0] (by decide) rfl (L' := [(true,o, .cells true 1 [sv k2 _]),(true,k2, .cells true 4 (fisC _)),(true,x, .cells true 1 (tkC t b c)),(true,_, .cells true 1 [.int .i64 (neF t r d true)]),(true,j,rw' _)]);clear hn
       repeat' (first|refine nX ?_|refine nY (fun K0 hK0=>?_)|refine bH ?_|refine bM ?_|refine iS hs ?_|refine rS hs ?_|refine eI _ (aI rfl ?_)|refine vH ?_|refine vG ?_|refine qO ?_|refine oJ ?_|refine nN hs (fun _ _ hs=>?_)|refine nS hs (fun _ _ hs=>?_)|refine sX hs (fun _ hs=>?_)|refine rd ?_|(refine hK0 _ _ ?_;clear hK0)|fail)
       refine c155 (Vd hs) (hs.get 4 rfl) (hs.ne 4 0 rfl rfl (by decide)) (hs.ne 4 1 rfl rfl (by decide)) hsp (by omega) (fr:=fun _=>neF t r d true) (fs:=fun i=>i) (fun i H9 R9 hlt9 h9 hR=>c163 (xE hs h9 1 rfl) hR) (fun v H9 k3 h9=>?_);have hs:=Ve hs h9;clear h9;have e1:(List.range d).flatMap (halF t r)++(List.range 0).flatMap (hvL t r d)++cpL (fun _=>neF t r d true) (fun i=>i) (spnF t (1+2*d+(0:Nat)) (2+2*d+(0:Nat)))=(List.range d).flatMap (halF t r)++(List.range (0+1)).flatMap (hvL t r d):=by rw[es,List.append_assoc]
       have e2:((List.range d).flatMap (halF t r)++(List.range 0).flatMap (hvL t r d)).length+(spnF t (1+2*d+(0:Nat)) (2+2*d+(0:Nat))).length=((List.range d).flatMap (halF t r)++(List.range (0+1)).flatMap (hvL t r d)).length:=by rw[<- e1,List.length_append (bs:=cpL _ _ _),yl]
       rw[e2,e1] at hs
       repeat' (first|refine nX ?_|refine nY (fun K0 hK0=>?_)|refine bH ?_|refine bM ?_|refine iS hs ?_|refine rS hs ?_|refine eI _ (aI rfl ?_)|refine vH ?_|refine vG ?_|refine qO ?_|refine oJ ?_|refine nN hs (fun _ _ hs=>?_)|refine nS hs (fun _ _ hs=>?_)|refine sX hs (fun _ hs=>?_)|refine rd ?_|(refine hK0 _ _ ?_;clear hK0)|fail)
       exact⟨⟨_,k3,0+1⟩,⟨hs.pick [0,1,2] (by decide) rfl,by dsimp only;omega⟩,by dsimp only;omega,Or.inl ⟨⟨rfl,rfl,rfl,rfl,rfl,rfl,rfl,rfl,rfl,trivial⟩,rfl⟩⟩
     ·skip
      by_cases hq:neF t r d false = -2
      ·have e0:hvL t r d 1 = []:=by
        show (if neF t r d false = -2 then _ else _)=_;rw[if_pos hq]
       rw[e0,List.append_nil] at es;rw[<- es] at hs
       repeat' (first|refine nX ?_|refine nY (fun K0 hK0=>?_)|refine bH ?_|refine bM ?_|refine iS hs ?_|refine rS hs ?_|refine eI _ (aI rfl ?_)|refine vH ?_|refine vG ?_|refine qO ?_|refine oJ ?_|refine nN hs (fun _ _ hs=>?_)|refine nS hs (fun _ _ hs=>?_)|refine sX hs (fun _ hs=>?_)|(refine dI (fun hc=>?_) (fun hc=>?_) <;> try (exfalso;omega))|refine rd ?_|(refine hK0 _ _ ?_;clear hK0)|fail)
       refine⟨1,⟨rfl,by decide⟩, ?_⟩
       repeat' (first|refine nX ?_|refine nY (fun K0 hK0=>?_)|refine bH ?_|refine bM ?_|refine iS hs ?_|refine rS hs ?_|refine eI _ (aI rfl ?_)|refine vH ?_|refine vG ?_|refine qO ?_|refine oJ ?_|refine nN hs (fun _ _ hs=>?_)|refine nS hs (fun _ _ hs=>?_)|refine sX hs (fun _ hs=>?_)|(refine dI (fun hc=>?_) (fun hc=>?_) <;> try (exfalso;omega))|refine rd ?_|(refine hK0 _ _ ?_;clear hK0)|fail)
       exact⟨⟨_,k2,1+1⟩,⟨hs.pick [1,2,3] (by decide) rfl,by dsimp only;omega⟩,by dsimp only;omega,Or.inl ⟨⟨rfl,rfl,rfl,rfl,rfl,rfl,rfl,rfl,rfl,trivial⟩,rfl⟩⟩
      ·have e0:hvL t r d 1=cpL (fun _=>neF t r d false) (fun i=>i) (spnF t (1+2*d+(1:Nat)) (2+2*d+(1:Nat))):=by
        show (if neF t r d false = -2 then [] else cpL (fun _=>neF t r d false) _ _)=_;rw[if_neg hq]
       rw[e0] at es
       repeat' (first|refine nX ?_|refine nY (fun K0 hK0=>?_)|refine bH ?_|refine bM ?_|refine iS hs ?_|refine rS hs ?_|refine eI _ (aI rfl ?_)|refine vH ?_|refine vG ?_|refine qO ?_|refine oJ ?_|refine nN hs (fun _ _ hs=>?_)|refine nS hs (fun _ _ hs=>?_)|refine sX hs (fun _ hs=>?_)|(refine dI (fun hc=>?_) (fun hc=>?_) <;> try (exfalso;omega))|refine rd ?_|(refine hK0 _ _ ?_;clear hK0)|fail)
       refine⟨1,⟨rfl,by decide⟩, ?_⟩
       repeat' (first|refine nX ?_|refine nY (fun K0 hK0=>?_)|refine bH ?_|refine bM ?_|refine iS hs ?_|refine rS hs ?_|refine eI _ (aI rfl ?_)|refine vH ?_|refine vG ?_|refine qO ?_|refine oJ ?_|refine nN hs (fun _ _ hs=>?_)|refine nS hs (fun _ _ hs=>?_)|refine sX hs (fun _ hs=>?_)|(refine dI (fun hc=>?_) (fun hc=>?_) <;> try (exfalso;omega))|refine rd ?_|(refine hK0 _ _ ?_;clear hK0)|fail)
       refine c157 (by omega) (by omega) (yJ kt (by omega) (by omega)) (by omega) (fun H8 j hn=>?_);have hs:=(hs.call hn rfl).pick [2,3,4,1,0] (by decide) rfl (L' := [(true,o, .cells true 1 [sv k2 _]),(true,k2, .cells true 4 (fisC _)),(true,x, .cells true 1 (tkC t b c)),(true,_, .cells true 1 [.int .i64 (neF t r d false)]),(true,j,rw' _)]);clear hn
       repeat' (first|refine nX ?_|refine nY (fun K0 hK0=>?_)|refine bH ?_|refine bM ?_|refine iS hs ?_|refine rS hs ?_|refine eI _ (aI rfl ?_)|refine vH ?_|refine vG ?_|refine qO ?_|refine oJ ?_|refine nN hs (fun _ _ hs=>?_)|refine nS hs (fun _ _ hs=>?_)|refine sX hs (fun _ hs=>?_)|refine rd ?_|(refine hK0 _ _ ?_;clear hK0)|fail)
       refine c155 (Vd hs) (hs.get 4 rfl) (hs.ne 4 0 rfl rfl (by decide)) (hs.ne 4 1 rfl rfl (by decide)) hsp (by omega) (fr:=fun _=>neF t r d false) (fs:=fun i=>i) (fun i H9 R9 hlt9 h9 hR=>c163 (xE hs h9 1 rfl) hR) (fun v H9 k3 h9=>?_);have hs:=Ve hs h9;clear h9;have e1:(List.range d).flatMap (halF t r)++(List.range 1).flatMap (hvL t r d)++cpL (fun _=>neF t r d false) (fun i=>i) (spnF t (1+2*d+(1:Nat)) (2+2*d+(1:Nat)))=(List.range d).flatMap (halF t r)++(List.range (1+1)).flatMap (hvL t r d):=by rw[es,List.append_assoc]
       have e2:((List.range d).flatMap (halF t r)++(List.range 1).flatMap (hvL t r d)).length+(spnF t (1+2*d+(1:Nat)) (2+2*d+(1:Nat))).length=((List.range d).flatMap (halF t r)++(List.range (1+1)).flatMap (hvL t r d)).length:=by rw[<- e1,List.length_append (bs:=cpL _ _ _),yl]
       rw[e2,e1] at hs
       repeat' (first|refine nX ?_|refine nY (fun K0 hK0=>?_)|refine bH ?_|refine bM ?_|refine iS hs ?_|refine rS hs ?_|refine eI _ (aI rfl ?_)|refine vH ?_|refine vG ?_|refine qO ?_|refine oJ ?_|refine nN hs (fun _ _ hs=>?_)|refine nS hs (fun _ _ hs=>?_)|refine sX hs (fun _ hs=>?_)|refine rd ?_|(refine hK0 _ _ ?_;clear hK0)|fail)
       exact⟨⟨_,k3,1+1⟩,⟨hs.pick [0,1,2] (by decide) rfl,by dsimp only;omega⟩,by dsimp only;omega,Or.inl ⟨⟨rfl,rfl,rfl,rfl,rfl,rfl,rfl,rfl,rfl,trivial⟩,rfl⟩⟩
    ·have hie:e=2:=by simp at hc;omega
     subst hie;have es:(List.range (d+1)).flatMap (halF t r)=(List.range d).flatMap (halF t r)++(List.range 2).flatMap (hvL t r d):=by rw[List.range_succ,List.flatMap_append];simp[halF]
     rw[<- es] at hs
     repeat' (first|refine nX ?_|refine nY (fun K0 hK0=>?_)|refine bH ?_|refine bM ?_|refine iS hs ?_|refine rS hs ?_|refine eI _ (aI rfl ?_)|refine vH ?_|refine vG ?_|refine qO ?_|refine oJ ?_|refine nN hs (fun _ _ hs=>?_)|refine nS hs (fun _ _ hs=>?_)|refine sX hs (fun _ hs=>?_)|refine rd ?_|(refine hK0 _ _ ?_;clear hK0)|fail)
     exact⟨⟨_,k2,d+1⟩,⟨hs,hlt⟩,by dsimp only;omega,Or.inl ⟨⟨rfl,rfl,rfl,rfl,rfl,rfl,trivial⟩,rfl⟩⟩
   ·have hie:d=t.sz.length:=by simp at hc;omega
    subst hie
    repeat' (first|refine nX ?_|refine nY (fun K0 hK0=>?_)|refine bH ?_|refine bM ?_|refine iS hs ?_|refine rS hs ?_|refine eI _ (aI rfl ?_)|refine vH ?_|refine vG ?_|refine qO ?_|refine oJ ?_|refine nN hs (fun _ _ hs=>?_)|refine nS hs (fun _ _ hs=>?_)|refine sX hs (fun _ hs=>?_)|refine rd ?_|(refine hK0 _ _ ?_;clear hK0)|fail)
    exact h _ k' (hs.pick [1] (by decide) rfl)
end Go.Af.Tryz
