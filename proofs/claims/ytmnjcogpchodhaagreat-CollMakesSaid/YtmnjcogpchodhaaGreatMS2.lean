/- A part of the proof. -/
import Derived.Test.YtmnjcogpchodhaaGreatMS
import Derived.Test.YtmnjcogpchodhaaGreatME
set_option linter.all false
set_option maxRecDepth 100000
namespace Go.Af.Tryz
open Go Go.Proofs Tryz
attribute [local irreducible] awp qj qI qK qE isCells ql qi qB qx qh roundEnd
variable {H:List Blk}
variable {R:Value->List Blk->Prop}

theorem ht205:prog.underlying 205=some (.struct (prog.fieldsOf 205)):=by kernel_rfl
theorem wj0:MKey prog 205 [.i64, .i64]:=QE ht205 (by kernel_rfl) (by kernel_rfl) (yg (by kernel_rfl))

def fnVc (f:Nat) (l:List Value):Value := .func (.func f) ⟨[]⟩ ⟨l⟩
def bxVc (b:Nat):Value := .pointer (some ⟨b,0,none⟩)

theorem Vz {b:Blk} {K:Nat->List Blk->Prop} (h:K H.length (H ++ [b])):xB H 0 b K:=by rw[vH,Nat.zero_add];exact h

theorem c181 {f:Nat} {a b:List Value} (h:R (fnVc 280 [bxVc H.length]) (H ++ [.cells true 1 [.func (.func f) ⟨a⟩ ⟨b⟩]])):qj prog 175 [.func (.func f) ⟨a⟩ ⟨b⟩] H R:=by
 refine avN call175 func175 ntmps175 ?_;refine Vz ?_;exact h
theorem c184 {f:Nat} {a b:List Value} (h:R (fnVc 281 [bxVc H.length]) (H ++ [.cells true 1 [.func (.func f) ⟨a⟩ ⟨b⟩]])):qj prog 178 [.func (.func f) ⟨a⟩ ⟨b⟩] H R:=by
 refine avN call178 func178 ntmps178 ?_;refine Vz ?_;exact h
theorem c186 {f:Nat} {a b:List Value} (h:R (fnVc 283 [bxVc H.length]) (H ++ [.cells true 1 [.func (.func f) ⟨a⟩ ⟨b⟩]])):qj prog 180 [.func (.func f) ⟨a⟩ ⟨b⟩] H R:=by
 refine avN call180 func180 ntmps180 ?_;refine Vz ?_;exact h
theorem c194 {f:Nat} {a b:List Value} (h:R (fnVc 285 [bxVc H.length]) (H ++ [.cells true 1 [.func (.func f) ⟨a⟩ ⟨b⟩]])):qj prog 188 [.func (.func f) ⟨a⟩ ⟨b⟩] H R:=by
 refine avN call188 func188 ntmps188 ?_;refine Vz ?_;exact h
theorem c196 {z:Int} (h:R (fnVc 288 [bxVc H.length]) (H ++ [.cells true 1 [.int .i64 z]])):qj prog 190 [.int .i64 z] H R:=by
 refine avN call190 func190 ntmps190 ?_;refine Vz ?_;exact h
theorem c190 {f:Nat} {a b:List Value} (h:R (fnVc 280 [bxVc (H.length+1)]) (H ++ [.cells true 1 [.func (.func f) ⟨a⟩ ⟨b⟩]] ++ [.cells true 1 [fnVc 284 [bxVc H.length]]])):qj prog 184 [.func (.func f) ⟨a⟩ ⟨b⟩] H R:=by
 refine avN call184 func184 ntmps184 ?_;refine Vz ?_;refine c181 ?_;rw[show (H ++ [Blk.cells true 1 [.func (.func f) ⟨a⟩ ⟨b⟩]]).length=H.length+1 by simp];exact h

def kvI:Nat->List Int
 | 3=>[1,1] | 6=>[2,1] | 9=>[3,1] | 13=>[4,1] | 16=>[5,1] | 19=>[6,1] | 22=>[7,1] | 25=>[8,1] | 28=>[9,1] | 31=>[1,2] | 35=>[3,2] | 40=>[4,2] | 44=>[10,3] | 48=>[11,3] | _=>[]
def kvV:Nat->Value
 | 3=>fnVc 280 [bxVc 1] | 6=>fnVc 280 [bxVc 2] | 9=>fnVc 281 [bxVc 3] | 13=>fnVc 281 [bxVc 5] | 16=>fnVc 280 [bxVc 6] | 19=>fnVc 280 [bxVc 7] | 22=>fnVc 280 [bxVc 8] | 25=>fnVc 280 [bxVc 10] | 28=>fnVc 280 [bxVc 12] | 31=>fnVc 280 [bxVc 13] | 35=>fnVc 285 [bxVc 15] | 40=>fnVc 285 [bxVc 18] | 44=>fnVc 281 [bxVc 20] | 48=>fnVc 281 [bxVc 22] | _=>.nilFunc
def kvO (x:Nat):Value × Value:=(.agg ⟨(kvI x).map (Value.int .i64)⟩,kvV x)
def opB:List Blk := [.cells true 1 [fnVc 176 []], .cells true 1 [fnVc 177 []], .cells true 1 [fnVc 179 []], .cells true 1 [fnVc 179 []], .cells true 1 [fnVc 283 [bxVc 4]], .cells true 1 [fnVc 181 []], .cells true 1 [fnVc 182 []], .cells true 1 [fnVc 183 []],
 .cells true 1 [fnVc 185 []], .cells true 1 [fnVc 284 [bxVc 9]], .cells true 1 [fnVc 186 []], .cells true 1 [fnVc 284 [bxVc 11]], .cells true 1 [fnVc 187 []], .cells true 1 [fnVc 189 []], .cells true 1 [fnVc 281 [bxVc 14]],
 .cells true 1 [fnVc 189 []], .cells true 1 [fnVc 283 [bxVc 16]], .cells true 1 [fnVc 281 [bxVc 17]], .cells true 1 [.int .i64 1], .cells true 1 [fnVc 288 [bxVc 19]], .cells true 1 [.int .i64 (-1)], .cells true 1 [fnVc 288 [bxVc 21]]]
def opN:List Nat := [3,6,9,13,16,19,22,25,28,31,35,40,44,48]

theorem keq205 {a b c d:Int} {K:Bool->Prop} (h:K (decide ([a,b] = [c,d]))):keq prog T H 205 (.agg ⟨[.int .i64 a, .int .i64 b]⟩) (.agg ⟨[.int .i64 c, .int .i64 d]⟩) K:=by
 exact⟨[.i64, .i64],wj0,h⟩
theorem ws0 {a b:Int} {K:Prop} (h:K):keyK prog T 205 (.agg ⟨[.int .i64 a, .int .i64 b]⟩) K:=by
 exact⟨[.i64, .i64],wj0,h⟩
theorem wq0 : ∀ x∈opN, ∃ a b,kvI x = [a,b]:=by
 intro x hx;simp only[opN,List.mem_cons,List.not_mem_nil,or_false] at hx;rcases hx with rfl | rfl | rfl | rfl | rfl | rfl | rfl | rfl | rfl | rfl | rfl | rfl | rfl | rfl <;> exact⟨_,_,rfl⟩
theorem wr0 : ∀ x∈opN, ∀ y∈opN,y≠x->kvI x≠kvI y:=by decide
theorem keqO {x y:Nat} (hx:x∈opN) (hy:y∈opN) (H:List Blk) (K:Bool->Prop) (h:K (decide (kvI x=kvI y))):keq prog T H 205 (kvO x).1 (kvO y).1 K:=by
 obtain ⟨a,b,e⟩:=wq0 x hx;obtain ⟨c,d,e'⟩:=wq0 y hy;rw[e,e'] at h;simp only[kvO,e,e',List.map_cons,List.map_nil];exact keq205 h


theorem ZR {P:Program} {T:TT} {kt:Nat} {k:Value} {kv:Nat->Value × Value} {K:Option Nat->Prop} (t:Nat->Bool) : ∀ (l:List MapEntry) (p:List Nat) (i:Nat) (_:l.map (fun e=>e.key)=p.map (fun x=>(kv x).1))
 (_ : ∀ x∈p, ∀ K:Bool->Prop,K (t x)->keq P T H kt k (kv x).1 K) (_ : ∀ j x,p[j]? = some x->t x=true->K (some (i+j))) (_:(∀ x∈p,t x=false)->K none),wE P T H kt k l i K
 | [],[],i,_,_,_,h0=>h0 (fun x hx=>by cases hx)
 | [],_::_,i,hm,_,_,_=>by simp at hm
 | _::_,[],i,hm,_,_,_=>by simp at hm
 | e::l,x::p,i,hm,hk,h1,h0=>by
   simp only[List.map_cons,List.cons.injEq] at hm;simp only[wE];rw[hm.1];refine hk x (List.mem_cons_self ..) _ ?_
   cases ht:t x with
   | true=>exact h1 0 x rfl ht
   | false =>
     refine ZR t l p (i+1) hm.2 (fun y hy=>hk y (List.mem_cons_of_mem _ hy)) (fun j y hj hy=>?_) (fun h=>h0 fun y hy=>?_)
     ·have:=h1 (j+1) y hj hy
      rwa [show i+1+j=i+(j+1) by omega]
     ·rcases List.mem_cons.1 hy with rfl | hy
      ·exact ht
      ·exact h y hy
theorem wI0 (kv:Nat->Value × Value) (p:List Nat):(ents kv p).map (fun e=>e.key)=p.map (fun x=>(kv x).1):=by
 refine List.ext_getElem? fun j=>?_
 simp only[ents,List.getElem?_map,List.getElem?_mapIdx,Option.map_map];rfl
theorem Qa0 (kv:Nat->Value × Value) {p:List Nat} {j x:Nat} (h:p[j]? = some x):(ents kv p)[j]? = some ⟨(kv x).1,(kv x).2,j⟩:=by simp[ents,List.getElem?_mapIdx,h]

theorem l99a:qj prog 99 [.int .i64 1, .int .i64 1] [] (fun v H' => v=fnVc 280 [bxVc 0]/\H' = [.cells true 1 [fnVc 176 []]]):=by
 refine Qm ?_;refine avN call99 func99 ntmps99 ?_;refine vo0 tok mx [0,0,0,7,0,4,53,0,36,421,0,292,2340,7461,0,6436,55589,0,39204,432421,0,301348,3447077,0,2398500,27564325,0,19175716,220502309,0,153393444,1764006181,0,1227135268,9817069860,31291906341,0,26996939044,164435892516,439313799460,1057789090085,0,989069613348,5387116124452,16382232402213,0,14183209146660,84551953324324,260473813768485,562949953421311,0,0,3377699720527872,9007199254740991,18014398509481983] 0 5 [2,5,8,11,12,15,18,21,24,27,30,33,34,37,38,39,42,43,46,47] [3,6,9,13,16,19,22,25,28,31,35,40,44,48] [1,4,7,10,14,17,20,23,26,29,32,36,41,45,50,51,52] [49,53,54] [48,44,40,35,31,28,25,22,19,16,13,9,6,3,47,46,43,42,39,38,37,34,33,30,27,24,21,18,15,12,11,8,5,2,0,52,51,50,45,41,36,32,29,26,23,20,17,14,10,7,4,1] kvO (by kernel_rfl) (fun o ho=>?_) ?_
 ·cases ho;exact⟨rfl,rfl⟩
 refine And.intro rfl ?_;refine⟨fnVc 280 [bxVc 1],opB.take 1,fun es c=>?_, ?_⟩
 ·exact c181 ⟨by rfl,by rfl⟩
 refine⟨fnVc 280 [bxVc 2],opB.take 2,fun es c=>?_, ?_⟩
 ·exact c181 ⟨by rfl,by rfl⟩
 refine⟨fnVc 281 [bxVc 3],opB.take 3,fun es c=>?_, ?_⟩
 ·exact c184 ⟨by rfl,by rfl⟩
 refine⟨fnVc 283 [bxVc 4],opB.take 4,fun es c=>?_, ?_⟩
 ·exact c186 ⟨by rfl,by rfl⟩
 refine⟨fnVc 281 [bxVc 5],opB.take 5,fun es c=>?_, ?_⟩
 ·exact c184 ⟨by rfl,by rfl⟩
 refine⟨fnVc 280 [bxVc 6],opB.take 6,fun es c=>?_, ?_⟩
 ·exact c181 ⟨by rfl,by rfl⟩
 refine⟨fnVc 280 [bxVc 7],opB.take 7,fun es c=>?_, ?_⟩
 ·exact c181 ⟨by rfl,by rfl⟩
 refine⟨fnVc 280 [bxVc 8],opB.take 8,fun es c=>?_, ?_⟩
 ·exact c181 ⟨by rfl,by rfl⟩
 refine⟨fnVc 280 [bxVc 10],opB.take 10,fun es c=>?_, ?_⟩
 ·exact c190 ⟨by rfl,by rfl⟩
 refine⟨fnVc 280 [bxVc 12],opB.take 12,fun es c=>?_, ?_⟩
 ·exact c190 ⟨by rfl,by rfl⟩
 refine⟨fnVc 280 [bxVc 13],opB.take 13,fun es c=>?_, ?_⟩
 ·exact c181 ⟨by rfl,by rfl⟩
 refine⟨fnVc 281 [bxVc 14],opB.take 14,fun es c=>?_, ?_⟩
 ·exact c184 ⟨by rfl,by rfl⟩
 refine⟨fnVc 285 [bxVc 15],opB.take 15,fun es c=>?_, ?_⟩
 ·exact c194 ⟨by rfl,by rfl⟩
 refine⟨fnVc 283 [bxVc 16],opB.take 16,fun es c=>?_, ?_⟩
 ·exact c186 ⟨by rfl,by rfl⟩
 refine⟨fnVc 281 [bxVc 17],opB.take 17,fun es c=>?_, ?_⟩
 ·exact c184 ⟨by rfl,by rfl⟩
 refine⟨fnVc 285 [bxVc 18],opB.take 18,fun es c=>?_, ?_⟩
 ·exact c194 ⟨by rfl,by rfl⟩
 refine⟨fnVc 288 [bxVc 19],opB.take 19,fun es c=>?_, ?_⟩
 ·exact c196 ⟨by rfl,by rfl⟩
 refine⟨fnVc 281 [bxVc 20],opB.take 20,fun es c=>?_, ?_⟩
 ·exact c184 ⟨by rfl,by rfl⟩
 refine⟨fnVc 288 [bxVc 21],opB.take 21,fun es c=>?_, ?_⟩
 ·exact c196 ⟨by rfl,by rfl⟩
 refine⟨fnVc 281 [bxVc 22],opB.take 22,fun es c=>?_, ?_⟩
 ·exact c184 ⟨by rfl,by rfl⟩
 refine And.intro ?_ ?_
 ·intro x hx
  have hx' := hx;simp only[List.mem_cons,List.not_mem_nil,or_false] at hx';rcases hx' with rfl | rfl | rfl | rfl | rfl | rfl | rfl | rfl | rfl | rfl | rfl | rfl | rfl | rfl
  all_goals refine⟨_,_,_,_,_,_,_,rfl,rfl,rfl,rfl,rfl,rfl,fun K hK=>ws0 hK,fun y hy hne H K hK=>keqO hx hy H K ?_⟩
  all_goals (rw[decide_eq_false (wr0 _ hx y hy hne)];exact hK)
 intro p hp hpm
 have hlk : ∀ (H:List Blk) (K:Option Nat->Prop),(∀ j,p[j]? = some 3->K (some j))->wE prog T H 205 (.agg ⟨[.int .i64 1, .int .i64 1]⟩) (ents kvO p) 0 K:=by
  intro H K hK;refine ZR (fun x=>decide (x=3)) _ p 0 (wI0 _ _) (fun x hx K' hK' => ?_) (fun j x hj ht=>?_) (fun h=>?_)
  ·have:=keqO (x:=3) (y:=x) (by decide) ((hpm x).1 hx) H K'
   refine this ?_;by_cases e:x=3
   ·subst e;simpa using hK'
   ·rw[decide_eq_false (wr0 3 (by decide) x ((hpm x).1 hx) e)]
    simpa [e] using hK'
  ·have e:x=3:=of_decide_eq_true ht
   subst e;rw[Nat.zero_add];exact hK j hj
  ·have:=h 3 ((hpm 3).2 (by decide))
   simp at this
 refine ws0 ?_;refine hlk _ _ fun j hj=>?_
 refine⟨_,Qa0 kvO hj, ?_⟩;refine⟨[(1,0)],fnVc 280 [bxVc 0],[.cells true 1 [fnVc 176 []]],Nat.zero_le _,zl0 rfl,⟨⟨_,rfl,BRen.cells id fun i x2 h=>⟨x2,by rw[Nat.zero_add];exact h, ?_⟩⟩,trivial⟩,rfl,VRen.func (fun l h=>nomatch h) .nil (.cons (VRen.ptr rfl rfl) .nil),rfl,rfl⟩
 cases i with
 | zero=>cases h;exact VRen.func (fun l h=>nomatch h) .nil .nil
 | succ i=>simp at h

theorem zM0 {ι : List (Nat × Nat)} {j i:Nat} (h : ι[j]? = some (i,0)):uF ι (bxVc j) (bxVc i):=by
 have:=uF.ptr (o:=0) h
 simpa [bxVc] using this
theorem g99a (H:List Blk):qj prog 99 [.int .i64 1, .int .i64 1] H (fun v H' => v=fnVc 280 [bxVc H.length]/\H' = H ++ [.cells true 1 [fnVc 176 []]]) :=
 (Zv (H:=H) (R:=fun v H' => v=fnVc 280 [bxVc H.length]/\H' = H ++ [.cells true 1 [fnVc 176 []]]) l99a [] rfl (.cons (.int _ _) (.cons (.int _ _) .nil)) trivial (by
   rintro v2 H2' ⟨rfl,rfl⟩;refine⟨fnVc 280 [bxVc H.length],[.cells true 1 [fnVc 176 []]],[.cells true 1 [fnVc 176 []]],rfl,rfl,fun k b2 hk=>?_,uF.func (fun l h=>nomatch h) .nil (.cons (zM0 rfl) .nil),rfl,rfl⟩
   cases k with
   | zero=>cases hk;exact⟨.inl rfl,_,rfl,UF.cells (.cons (uF.func (fun l h=>nomatch h) .nil .nil) .nil) rfl⟩
   | succ k=>simp at hk)).call
end Go.Af.Tryz
