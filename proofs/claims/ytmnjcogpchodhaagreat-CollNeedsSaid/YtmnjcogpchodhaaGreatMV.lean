/- A part of the proof. -/
import Derived.Test.YtmnjcogpchodhaaGreatMGH
import Derived.Test.YtmnjcogpchodhaaGreatMS2
import Derived.Test.YtmnjcogpchodhaaGreatMCA
import Derived.Test.YtmnjcogpchodhaaGreatMGG
import Derived.Test.YtmnjcogpchodhaaGreatMGL
set_option linter.all false
set_option maxHeartbeats 4000000
set_option maxRecDepth 100000
namespace Go.Af.Tryz
open Go Go.Proofs
attribute [local irreducible] awp qj qJ qL qC qo isCells qx qp qA qw qh roundEnd

def vaC:List Int->List Value
 | []=>[]
 | x::r=>.int .u64 x :: .int .i64 0::vaC r
@[simp] theorem yV : ∀ l:List Int,(vaC l).length=l.length*2
  | []=>rfl
  | x::r=>by rw[vaC,List.length_cons,List.length_cons,yV r,List.length_cons];omega
theorem yX : ∀ a b:List Int,vaC (a++b)=vaC a++vaC b
 | [],b=>rfl
 | x::r,b=>by rw[List.cons_append,vaC,vaC,yX r b];rfl
theorem vaC_get : ∀ (l:List Int) (i:Nat),i<l.length->(vaC l)[2*i]? = some (.int .u64 l[i]!)/\(vaC l)[2*i+1]? = some (.int .i64 0)
 | [],i,h=>by simp at h
 | x::r,0,h=>by
   rw[vaC];exact⟨rfl,rfl⟩
 | x::r,i+1,h=>by
   have ih:=vaC_get r i (by simpa using h);rw[vaC];have e:(x::r)[i+1]! = r[i]! := by simp
   rw[e];exact⟨ih.1,ih.2⟩
theorem Xr {l:List Int} (i:Nat) {p:Nat} {K:List Value->Prop} (hp:p=2*i) (hi:i<l.length) (h:K [.int .u64 l[i]!, .int .i64 0]):segK (vaC l) p 2 K:=by
 have g:=vaC_get l i hi;subst hp;exact⟨_,g.1,_,g.2,h⟩
def redN (l:List Int):Nat->Int
 | 0=>l[0]!
 | j+1=>IntKind.u64.wrap (redN l j+l[j+1]!)
def redF (l:List Int):Int:=redN l (l.length-1)
theorem c99h {H:List Blk} {R:Value->List Blk->Prop} (h : ∀ H' k,HS H none' [(true,k, .cells true 1 [fnVc 176 []])] H' -> R (fnVc 280 [bxVc k]) H'):qj Tryz.prog 99 [.int .i64 1, .int .i64 1] H R :=
 (g99a H).mono (by
   rintro v H' ⟨rfl,rfl⟩;have:=qi (B := .cells true 1 [fnVc 176 []]) (K:=fun b H' => R (fnVc 280 [bxVc b]) H') (HS.start H none') (fun H1 b e1 l1 hs=>h H1 b hs);rw[vw,Nat.zero_add] at this
   exact this)
theorem c176 {H:List Blk} {a b:Int} {R:Value->List Blk->Prop} (h:R (.int .u64 (IntKind.u64.wrap (a+b))) H):qj Tryz.prog 176 [.int .u64 a, .int .u64 b] H R:=by
 refine qf tok Tryz.call176 Tryz.func176 rfl Tryz.ntmps176 rfl (by simp) ?_;have hs:=HS.start H none'
 repeat' (first|refine nY (fun K0 hK0=>?_)|refine zAw ?_|refine sX hs (fun _ hs=>?_)|refine zNw (fun _ _ hs=>?_)|fail)
 exact h
theorem c280 {H:List Blk} {a b:Int} {k:Nat} {w:Bool} {R:Value->List Blk->Prop} (hk:bget H k=some (.cells w 1 [fnVc 176 []])) (h : ∀ H',HS H none' [] H' -> R (.agg ⟨[.int .u64 (IntKind.u64.wrap (a+b)), .int .i64 0]⟩) H') :
 qj Tryz.prog 280 [.agg ⟨[.int .u64 a, .int .i64 0]⟩, .agg ⟨[.int .u64 b, .int .i64 0]⟩,bxVc k] H R:=by
 have hs:=(HS.start H none').add (c:=false) hk (fun i p hi=>by simp at hi) (fun h=>by cases h);refine qf tok Tryz.call280 Tryz.func280 rfl Tryz.ntmps280 rfl (by simp) ?_;refine qi hs (fun H1 b1 e1 l1 hs=>?_);refine qi hs (fun H2 b2 e2 l2 hs=>?_);refine qi hs (fun H3 b3 e3 l3 hs=>?_);refine qg (fun _ hKs=>hKs _ _ ?_);clear hKs;clear e1 l1 e2 l2 e3 l3
 repeat' (first|refine nY (fun K0 hK0=>?_)|refine zAw ?_|refine sX hs (fun _ hs=>?_)|refine zNw (fun _ _ hs=>?_)|fail)
 repeat' (first|refine nY (fun K0 hK0=>?_)|refine zAw ?_|refine sX hs (fun _ hs=>?_)|refine zNw (fun _ _ hs=>?_)|refine c176 ?_|fail)
 change resK T _ _ _ _;refine ve (by rfl) (by rfl) (hs.get 0 rfl) (by rfl) ?_;refine⟨_,rfl,_,rfl, ?_⟩;exact h _ (qc hs)
theorem c98 {H:List Blk} {l:List Int} {k:Nat} {w:Bool} {R:Value->List Blk->Prop} (hk:bget H k=some (.cells w 2 (vaC l))) (hl:0<l.length) (hll:l.length<=1000000)
 (h : ∀ H',HS H none' [] H' -> R (.agg ⟨[.int .u64 (redF l), .int .i64 0]⟩) H'):qj Tryz.prog 98 [.int .i64 1, .int .i64 1,sv k l.length] H R:=by
 have hs:=(HS.start H none').add (c:=false) hk (fun i p hi=>by simp at hi) (fun h=>by cases h);refine qf tok Tryz.call98 Tryz.func98 rfl Tryz.ntmps98 rfl (by simp) ?_;refine qi hs (fun H1 b1 e1 l1 hs=>?_);refine qg (fun _ hKs=>hKs _ _ ?_);clear hKs;clear e1 l1
 repeat' (first|refine nY (fun K0 hK0=>?_)|refine zAw ?_|refine sX hs (fun _ hs=>?_)|refine zNw (fun _ _ hs=>?_)|(refine dI (fun hc=>?_) (fun hc=>?_) <;> try (exfalso;omega))|(refine c99h (fun H2 f hn=>?_);have hs:=hs.call hn rfl;clear hn)|fail)
 refine Xr 0 rfl hl ?_
 repeat' (first|refine nY (fun K0 hK0=>?_)|refine zAw ?_|refine sX hs (fun _ hs=>?_)|refine zNw (fun _ _ hs=>?_)|(refine dI (fun hc=>?_) (fun hc=>?_) <;> try (exfalso;omega))|fail)
 rename Nat=>x
 have hs:=hs.pick [0,1,2,3] (by decide) rfl (L' := [(true,x, .cells true 1 [.int .u64 (redN l 0), .int .i64 0]),(true,f, .cells true 1 [fnVc 176 []]),(true,b1, .cells true 1 [.int .u64 0, .int .i64 0]),(false,k, .cells w 2 (vaC l))]);refine⟨⟨hl,Nat.le_refl _⟩, ?_⟩
 repeat' (first|refine nY (fun K0 hK0=>?_)|refine zAw ?_|refine sX hs (fun _ hs=>?_)|refine zNw (fun _ _ hs=>?_)|(refine dI (fun hc=>?_) (fun hc=>?_) <;> try (exfalso;omega))|fail)
 refine qE (α := List Blk × Nat) tok (fun z=>HS H none' [(true,x, .cells true 1 [.int .u64 (redN l z.2), .int .i64 0]),(true,f, .cells true 1 [fnVc 176 []]),(true,b1, .cells true 1 [.int .u64 0, .int .i64 0]),(false,k, .cells w 2 (vaC l))] z.1/\z.2<l.length)
  (fun z=>[(6, .pointer (some ⟨b1,0,none⟩)),(10,fnVc 280 [bxVc f]),(11, .pointer (some ⟨x,0,none⟩)),(48, .slice (some ⟨k,2,none⟩) (l.length-1) (l.length-1)),(49, .int .i64 ((l.length-1:Nat):Int)),(50, .int .i64 (z.2:Int))]) (fun z=>z.1) (fun z=>l.length-z.2)
  (_,0) ⟨hs,hl⟩ (Or.inl ⟨⟨rfl,rfl,rfl,rfl,rfl,rfl,trivial⟩,rfl⟩) ?_
 clear hs;rintro ⟨H9,j⟩ ⟨hs,hj⟩;dsimp only at hs hj ⊢
 repeat' (first|refine nY (fun K0 hK0=>?_)|refine zAw ?_|refine sX hs (fun _ hs=>?_)|refine zNw (fun _ _ hs=>?_)|fail)
 refine And.intro (fun hc=>?_) (fun hc=>?_)
 ·have hjl:j+1<l.length:=by simp at hc;omega
  clear hc
  repeat' (first|refine nY (fun K0 hK0=>?_)|refine zAw ?_|refine sX hs (fun _ hs=>?_)|refine zNw (fun _ _ hs=>?_)|fail)
  refine Xr (j+1) (by show 2+j*2=_;omega) hjl ?_
  repeat' (first|refine nY (fun K0 hK0=>?_)|refine zAw ?_|refine sX hs (fun _ hs=>?_)|refine zNw (fun _ _ hs=>?_)|refine c280 (hs.get 2 rfl) (kNo hs (fun H5 hs=>?_))|fail)
  exact⟨(_,j+1),⟨hs.pick [1,2,3,4] (by decide) rfl,hjl⟩,by dsimp only;omega,Or.inl ⟨⟨rfl,rfl,rfl,rfl,rfl,rfl,trivial⟩,rfl⟩⟩
 ·have hje:j=l.length-1:=by simp at hc;omega
  have hr:redN l j=redF l:=by rw[hje];rfl
  rw[hr] at hs
  repeat' (first|refine nY (fun K0 hK0=>?_)|refine zAw ?_|refine sX hs (fun _ hs=>?_)|refine zNw (fun _ _ hs=>?_)|fail)
  change resK T _ _ _ _;refine ve (by rfl) (by rfl) (hs.get 2 rfl) (by rfl) ?_;refine⟨_,rfl,_,rfl, ?_⟩;exact h _ (qc hs)
theorem c97 {H:List Blk} {l:List Int} {k:Nat} {w:Bool} {R:Value->List Blk->Prop} (hk:bget H k=some (.cells w 2 (vaC l))) (hll:l.length<=1000000)
 (h : ∀ H',HS H none' [] H' -> R (.bool true) H'):qj Tryz.prog 97 [.int .i64 1,sv k l.length] H R:=by
 have hs:=(HS.start H none').add (c:=false) hk (fun i p hi=>by simp at hi) (fun h=>by cases h);refine qf tok Tryz.call97 Tryz.func97 rfl Tryz.ntmps97 rfl (by simp) ?_
 repeat' (first|refine nY (fun K0 hK0=>?_)|refine zAw ?_|refine sX hs (fun _ hs=>?_)|refine zNw (fun _ _ hs=>?_)|(refine dI (fun hc=>?_) (fun hc=>?_) <;> try (exfalso;omega))|fail)
 refine qE (α := List Blk × Nat) tok (fun z=>HS H none' [(false,k, .cells w 2 (vaC l))] z.1/\z.2<=l.length)
  (fun z=>[(0, .int .i64 1),(7,sv k l.length),(8, .int .i64 (l.length:Int)),(9, .int .i64 (z.2:Int))]) (fun z=>z.1) (fun z=>l.length-z.2)
  (_,0) ⟨hs,Nat.zero_le _⟩ (Or.inl ⟨⟨rfl,rfl,rfl,rfl,trivial⟩,rfl⟩) ?_
 clear hs;rintro ⟨H9,j⟩ ⟨hs,hj⟩;dsimp only at hs hj ⊢
 repeat' (first|refine nY (fun K0 hK0=>?_)|refine zAw ?_|refine sX hs (fun _ hs=>?_)|refine zNw (fun _ _ hs=>?_)|fail)
 refine And.intro (fun hc=>?_) (fun hc=>?_)
 ·have hjl:j<l.length:=by simp at hc;omega
  clear hc
  repeat' (first|refine nY (fun K0 hK0=>?_)|refine zAw ?_|refine sX hs (fun _ hs=>?_)|refine zNw (fun _ _ hs=>?_)|fail)
  refine Xr j (by show 0+j*2=_;omega) hjl ?_
  repeat' (first|refine nY (fun K0 hK0=>?_)|refine zAw ?_|refine sX hs (fun _ hs=>?_)|refine zNw (fun _ _ hs=>?_)|(refine dI (fun hc=>?_) (fun hc=>?_) <;> try (exfalso;omega))|fail)
  exact⟨(_,j+1),⟨hs.pick [1] (by decide) rfl,hjl⟩,by dsimp only;omega,Or.inl ⟨⟨rfl,rfl,rfl,rfl,trivial⟩,rfl⟩⟩
 ·have hje:j=l.length:=by simp at hc;omega
  repeat' (first|refine nY (fun K0 hK0=>?_)|refine zAw ?_|refine sX hs (fun _ hs=>?_)|refine zNw (fun _ _ hs=>?_)|fail)
  exact h _ (qc hs)
theorem c46 {H:List Blk} {R:Value->List Blk->Prop} (h : ∀ H',HS H none' [] H' -> R (.int .i64 0) H'):qj Tryz.prog 46 [.int .i64 1, .int .i64 1] H R:=by
 refine qf tok Tryz.call46 Tryz.func46 rfl Tryz.ntmps46 rfl (by simp) ?_;have hs:=HS.start H none'
 repeat' (first|refine nY (fun K0 hK0=>?_)|refine zAw ?_|refine sX hs (fun _ hs=>?_)|refine zNw (fun _ _ hs=>?_)|(refine dI (fun hc=>?_) (fun hc=>?_) <;> try (exfalso;omega))|fail)
 refine c99h (fun H2 f hn=>?_);have hs:=qK hs (qc hn);clear hn
 repeat' (first|refine nY (fun K0 hK0=>?_)|refine zAw ?_|refine sX hs (fun _ hs=>?_)|refine zNw (fun _ _ hs=>?_)|(refine dI (fun hc=>?_) (fun hc=>?_) <;> try (exfalso;omega))|fail)
 exact h _ (qc hs)
theorem c45 {H:List Blk} {l:List Int} {k:Nat} {w:Bool} {R:Value->List Blk->Prop} (hk:bget H k=some (.cells w 2 (vaC l))) (hl:0<l.length) (hll:l.length<=1000000)
 (h : ∀ H',HS H none' [] H' -> R (.tuple ⟨[.agg ⟨[.int .u64 (redF l), .int .i64 0]⟩, .int .i64 0]⟩) H'):qj Tryz.prog 45 [.int .i64 1, .int .i64 1,sv k l.length] H R:=by
 have hs:=HS.start H none';refine qf tok Tryz.call45 Tryz.func45 rfl Tryz.ntmps45 rfl (by simp) ?_;refine qi hs (fun H1 b1 e1 l1 hs=>?_);refine qg (fun _ hKs=>hKs _ _ ?_);clear hKs;clear e1 l1
 repeat' (first|refine nY (fun K0 hK0=>?_)|refine zAw ?_|refine sX hs (fun _ hs=>?_)|refine zNw (fun _ _ hs=>?_)|(refine dI (fun hc=>?_) (fun hc=>?_) <;> try (exfalso;omega))|refine c46 (kNo hs (fun H2 hs=>?_))|refine c97 (qM (qc hs) hk) hll (kNo hs (fun H3 hs=>?_))|refine c98 (qM (qc hs) hk) hl hll (kNo hs (fun H4 hs=>?_))|fail)
 change resK T _ _ _ _;refine ve (by rfl) (by rfl) (hs.get 0 rfl) (by rfl) ?_;refine⟨_,rfl,_,rfl, ?_⟩;exact h _ (qc hs)
end Go.Af.Tryz
namespace Go.Af.Tryz
open Go Go.Proofs
attribute [local irreducible] awp qj qJ qL qC qo isCells qx qp qA qw qh roundEnd

def vrC (rows:List (Nat × List Int)):List Value:=rows.map (fun q=>sv q.1 q.2.length)
def vrL (rows:List (Nat × List Int)):List (Bool × Nat × Blk):=rows.map (fun q=>(true,q.1, .cells true 2 (vaC q.2)))
@[simp] theorem Qv (rows:List (Nat × List Int)):(vrC rows).length=rows.length:=by simp[vrC]
theorem Zm (rows:List (Nat × List Int)) (q:Nat × List Int):vrC (rows ++ [q])=vrC rows ++ [sv q.1 q.2.length]:=by simp[vrC]
theorem vrL_snoc (rows:List (Nat × List Int)) (q:Nat × List Int):vrL (rows ++ [q])=vrL rows ++ [(true,q.1, .cells true 2 (vaC q.2))]:=by simp[vrL]
theorem Yh {rows:List (Nat × List Int)} {r:Nat} {q:Nat × List Int} (h:rows[r]? = some q):(vrC rows)[r]? = some (sv q.1 q.2.length):=by
 unfold vrC;rw[List.getElem?_map,h];rfl
end Go.Af.Tryz
namespace Go.Af.Tryz
open Go Go.Proofs
attribute [local irreducible] awp qj qJ qL qC qo isCells qx qp qA qw qh roundEnd zG wX keyK vY

theorem keq105 {H:List Blk} {a b c d:Int} {K:Bool->Prop} (h:K (decide ([a,b] = [c,d]))):keq Tryz.prog T H 105 (.agg ⟨[.int .i64 a, .int .i64 b]⟩) (.agg ⟨[.int .i64 c, .int .i64 d]⟩) K :=
 ⟨[.i64, .i64],YA,h⟩
theorem keyK105 {a b:Int} {K:Prop} (h:K):keyK Tryz.prog T 105 (.agg ⟨[.int .i64 a, .int .i64 b]⟩) K:=by
 unfold keyK;exact⟨_,YA,h⟩
abbrev Fm:=List ((Int × Int) × Int)
def efV (W:Fm):List MapEntry:=W.mapIdx fun i w=>⟨.agg ⟨[.int .i64 w.1.1, .int .i64 w.1.2]⟩, .agg ⟨[.int .u64 w.2, .int .i64 0]⟩,i⟩
abbrev fmV (W:Fm):Blk := .map true (efV W) W.length
theorem efV_get {W:Fm} {j:Nat} {e:MapEntry} (h:(efV W)[j]? = some e) : ∃ w,W[j]? = some w/\e=⟨.agg ⟨[.int .i64 w.1.1, .int .i64 w.1.2]⟩, .agg ⟨[.int .u64 w.2, .int .i64 0]⟩,j⟩:=by
 unfold efV at h;rw[List.getElem?_mapIdx] at h
 cases hw:W[j]? with
 | none=>rw[hw] at h;cases h
 | some p=>rw[hw] at h;cases h;exact⟨p,rfl,rfl⟩
theorem efV_at {W:Fm} {j:Nat} {w:(Int × Int) × Int} (h:W[j]? = some w):(efV W)[j]? = some ⟨.agg ⟨[.int .i64 w.1.1, .int .i64 w.1.2]⟩, .agg ⟨[.int .u64 w.2, .int .i64 0]⟩,j⟩:=by
 unfold efV;rw[List.getElem?_mapIdx,h];rfl
theorem mfind_F {H:List Blk} {W:Fm} {a b:Int} {K:Option Nat->Prop} (h : ∀ j w,W[j]? = some w->w.1=(a,b)->K (some j)) (h0:(∀ w∈W,w.1≠(a,b))->K none):vY Tryz.prog T H 105 (.agg ⟨[.int .i64 a, .int .i64 b]⟩) (efV W) 0 K:=by
 refine zS (fun e=>match e.key with | .agg ⟨[.int .i64 c, .int .i64 d]⟩=>decide ([a,b] = [c,d]) | _=>false) _ _ (fun e he K' hk=>?_) (fun j e hj ht _=>?_) (fun hf=>h0 (fun w hw e=>?_))
 ·obtain ⟨j,hj⟩:=List.getElem?_of_mem he
  obtain ⟨w,_,rfl⟩:=efV_get hj;exact keq105 hk
 ·obtain ⟨w,hw,rfl⟩:=efV_get hj
  simp only[List.cons.injEq,and_true,decide_eq_true_eq] at ht;rw[Nat.zero_add];exact h j w hw (Prod.ext ht.1.symm ht.2.symm)
 ·obtain ⟨j,hj⟩:=List.getElem?_of_mem hw
  have:=hf _ (List.mem_of_getElem? (efV_at hj));simp[e] at this
theorem efV_snoc (W:Fm) (a b x:Int):efV W ++ [⟨.agg ⟨[.int .i64 a, .int .i64 b]⟩, .agg ⟨[.int .u64 x, .int .i64 0]⟩,W.length⟩]=efV (W ++ [((a,b),x)]):=by unfold efV;rw[List.mapIdx_append];simp
theorem updF_hs {H0 H:List Blk} {o:Nat->Prop} {L:List (Bool × Nat × Blk)} (hs:HS H0 o L H) (i:Nat) {m:Nat} {W:Fm} {a b x:Int} {K:List Blk->Prop} (hi:L[i]? = some (true,m,fmV W)) (hn : ∀ w∈W,w.1≠(a,b))
 (kk : ∀ H',HS H0 o (L.set i (true,m,fmV (W ++ [((a,b),x)]))) H' -> K H') :
 wX H m (fun es clock=>keyK Tryz.prog T 105 (.agg ⟨[.int .i64 a, .int .i64 b]⟩) (vY Tryz.prog T H 105 (.agg ⟨[.int .i64 a, .int .i64 b]⟩) es 0 (fun r=>match r with
  | some p=>wG H m (.map true (es.modify p (fun e=>{ e with key := .agg ⟨[.int .i64 a, .int .i64 b]⟩,val := .agg ⟨[.int .u64 x, .int .i64 0]⟩ })) clock) K
  | none=>wG H m (.map true (es ++ [⟨.agg ⟨[.int .i64 a, .int .i64 b]⟩, .agg ⟨[.int .u64 x, .int .i64 0]⟩,clock⟩]) (clock+1)) K))):=by
 refine yU (hs.get i hi) (keyK105 (mfind_F (fun j w hw e=>absurd e (hn w (List.mem_of_getElem? hw))) (fun _=>?_)));refine wY (hs.lt i hi) (fun H' h1 h2 h3=>kk H' ?_);rw[efV_snoc] at h2;refine hs.set i hi h1 ?_ h3;rw[h2];simp
theorem Zz (t:Tk) (f g:Int) {i:Nat} (h:i<(spnF t f g).length):(spnF t f g)[i]! = f*t.pa+(i:Int):=by
 rw[getElem!_pos _ i h];unfold spnF at h ⊢;rw[List.getElem_map,List.getElem_range]
theorem fst_at (t:Tk) (r:Int) : ∃ f:Int, ∀ i,i<(fstF t r).length->(fstF t r)[i]! = f+(i:Int):=by
 unfold fstF;split
 ·exact⟨0,fun i h=>by simp at h⟩
 ·split
  ·exact⟨_,fun i h=>Zz t _ _ h⟩
  ·split
   ·exact⟨_,fun i h=>Zz t _ _ h⟩
   ·split
    ·exact⟨_,fun i h=>Zz t _ _ h⟩
    ·exact⟨_,fun i h=>Zz t _ _ h⟩
theorem fst_inj {t:Tk} {r:Int} {i j:Nat} (hi:i<(fstF t r).length) (hj:j<(fstF t r).length) (h:(fstF t r)[i]! = (fstF t r)[j]!):i=j:=by
 obtain ⟨f,hf⟩:=fst_at t r;rw[hf i hi,hf j hj] at h;omega
structure Wok (t:Tk) (rows:List (Nat × List Int)) (r i:Nat) (W:Fm):Prop where
 a : ∀ w∈W, ∃ r' i' q,(r' < r\/r' = r/\i' < i)/\rows[r']? = some q/\i' < (fstF t (r' : Int)).length/\w=(((r' : Int),(fstF t (r' : Int))[i']!),q.2[i']!)
 b : ∀ r' i' q,(r' < r\/r' = r/\i' < i)->rows[r']? = some q->i' < (fstF t (r' : Int)).length->(((r' : Int),(fstF t (r' : Int))[i']!),q.2[i']!)∈W
theorem Wok.fresh {t:Tk} {rows:List (Nat × List Int)} {r i:Nat} {W:Fm} (h:Wok t rows r i W) (hi:i<(fstF t (r:Int)).length) : ∀ w∈W,w.1≠((r:Int),(fstF t (r:Int))[i]!):=by
 intro w hw e;obtain ⟨r',i',q,hd,_,hi',rfl⟩:=h.a w hw;simp only[Prod.mk.injEq] at e;have hr:r' = r:=by omega
 subst hr;have:=fst_inj hi' hi e.2;omega
theorem Wok.next {t:Tk} {rows:List (Nat × List Int)} {r i:Nat} {W:Fm} {q:Nat × List Int} (h:Wok t rows r i W) (hq:rows[r]? = some q) (hi:i<(fstF t (r:Int)).length):Wok t rows r (i+1) (W ++ [(((r:Int),(fstF t (r:Int))[i]!),q.2[i]!)]):=by
 refine⟨fun w hw=>?_,fun r' i' q' hd hq' hi' => ?_⟩
 ·rcases List.mem_append.1 hw with h1 | h1
  ·obtain ⟨r',i',q',a,b⟩:=h.a w h1
   exact⟨r',i',q',by omega,b⟩
  ·exact⟨r,i,q,by omega,hq,hi,List.mem_singleton.1 h1⟩
 ·by_cases hn:r' < r\/r' = r/\i' < i
  ·exact List.mem_append_left _ (h.b r' i' q' hn hq' hi')
  ·obtain ⟨rfl,rfl⟩:r' = r/\i' = i:=by omega
   rw[hq] at hq';cases hq';exact List.mem_append_right _ List.mem_cons_self
theorem Wok.row {t:Tk} {rows:List (Nat × List Int)} {r:Nat} {W:Fm} (h:Wok t rows r (fstF t (r:Int)).length W):Wok t rows (r+1) 0 W:=by
 refine⟨fun w hw=>?_,fun r' i' q' hd hq' hi' => ?_⟩
 ·obtain ⟨r',i',q',a,b⟩:=h.a w hw
  exact⟨r',i',q',by omega,b⟩
 ·refine h.b r' i' q' ?_ hq' hi'
  by_cases e:r' = r
  ·subst e;exact .inr ⟨rfl,hi'⟩
  ·omega
end Go.Af.Tryz
namespace Go.Af.Tryz
open Go Go.Proofs
attribute [local irreducible] awp qj qJ qL qC qo isCells qx qp qA qw qh roundEnd zG wX keyK vY

structure Vr (H:List Blk) (rows:List (Nat × List Int)) (ko:Nat):Prop where
 o : ∃ w,bget H ko=some (.cells w 1 (vrC rows))
 r : ∀ q∈rows, ∃ w,bget H q.1=some (.cells w 2 (vaC q.2))
theorem Vr.up {H H' : List Blk} {rows:List (Nat × List Int)} {ko:Nat} (v:Vr H rows ko) (h:HS H none' [] H'):Vr H' rows ko :=
 ⟨v.o.imp fun w hw=>qM h hw,fun q hq=>(v.r q hq).imp fun w hw=>qM h hw⟩
structure VW where
 H:List Blk
 r:Nat
 W:Fm
structure VW2 where
 H:List Blk
 i:Nat
 W:Fm
theorem c76 {H:List Blk} {t:Tk} {op kind:Int} {rows:List (Nat × List Int)} {b c ko:Nat} {R:Value->List Blk->Prop} (kt:TkOk t) (vr:Vr H rows ko) (hp:(rows.length:Int)=t.pr)
 (hri : ∀ (r:Nat) q,rows[r]? = some q->q.2.length=(fstF t r).length) (hop:op=0\/op=1/\kind=1)
 (h : ∀ H' m W,HS H none' [(true,m,fmV W)] H' -> Wok t rows rows.length 0 W->R (.tuple ⟨[.map (some m), .int .i64 0]⟩) H') :
 qj Tryz.prog 76 [tkV t b c, .int .i64 op, .int .i64 kind,sv ko rows.length] H R:=by
 have hpr:=kt.pr;refine qf tok Tryz.call76 Tryz.func76 rfl Tryz.ntmps76 rfl (by simp) ?_;refine qi (HS.start H none') (fun H1 b1 e1 l1 hs=>?_);refine qg (fun _ hKs=>hKs _ _ ?_);clear hKs;clear e1 l1;generalize hn:rows.length=n at *
 repeat' (first|refine nY (fun K0 hK0=>?_)|refine zAw ?_|refine sX hs (fun _ hs=>?_)|refine zNw (fun _ _ hs=>?_)|(refine dI (fun hc=>?_) (fun hc=>?_) <;> try (exfalso;omega))|fail)
 rename Nat=>m
 have hs:=hs.pick [0,1] (by decide) rfl (L' := [(true,m,fmV []),(true,b1, .cells true 1 (tkC t b c))])
 refine qE (α := VW) tok (fun z=>HS H none' [(true,m,fmV z.W),(true,b1, .cells true 1 (tkC t b c))] z.H/\z.r<=n/\Wok t rows z.r 0 z.W)
  (fun z=>[(1, .int .i64 op),(2, .int .i64 kind),(3,sv ko n),(4, .pointer (some ⟨b1,0,none⟩)),(10, .map (some m)),(28,sv ko n),(29, .int .i64 (n:Int)),(30, .int .i64 (z.r:Int))]) (fun z=>z.H) (fun z=>n-z.r)
  ⟨_,0,[]⟩ ⟨hs,Nat.zero_le _,⟨fun w hw=>(by cases hw),fun r' i' q hd=>by rcases hd with h | h;exact absurd h (Nat.not_lt_zero _);exact absurd h.2 (Nat.not_lt_zero _)⟩⟩ (Or.inl ⟨⟨rfl,rfl,rfl,rfl,rfl,rfl,rfl,rfl,trivial⟩,rfl⟩) ?_
 clear hs;rintro ⟨H3,r,W⟩ ⟨hs,hr,hW⟩;dsimp only at hs hr hW ⊢
 repeat' (first|refine nY (fun K0 hK0=>?_)|refine zAw ?_|refine sX hs (fun _ hs=>?_)|refine zNw (fun _ _ hs=>?_)|fail)
 refine And.intro (fun hc=>?_) (fun hc=>?_)
 ·have hrn:r<n:=by have:=of_decide_eq_true hc;omega
  clear hc;obtain ⟨q,hq⟩ : ∃ q,rows[r]? = some q:=⟨_,List.getElem?_eq_getElem (by omega)⟩;have hqm:=List.mem_of_getElem? hq;obtain ⟨wo,hbo⟩:=(vr.up (qc hs)).o;have hov:=Yh hq;have hql:=hri r q hq;have hfl:=YG kt (r:Int);obtain ⟨wr,hbr⟩:=(vr.up (qc hs)).r q hqm
  iterate 4 (
   all_goals try (first | refine xu hov ?_ | refine qH hbo ?_ | refine qG hbo ?_ | refine qH hbr ?_)
   all_goals try (
    repeat' (first|refine nY (fun K0 hK0=>?_)|refine zAw ?_|refine sX hs (fun _ hs=>?_)|refine zNw (fun _ _ hs=>?_)|fail)
    ))
  refine c92 kt ⟨by omega,by omega⟩ (fun H4 kl hn2=>?_);have hs:=hs.call hn2 rfl;clear hn2
  repeat' (first|refine nY (fun K0 hK0=>?_)|refine zAw ?_|refine sX hs (fun _ hs=>?_)|refine zNw (fun _ _ hs=>?_)|(refine dI (fun hc=>?_) (fun hc=>?_) <;> try (exfalso;omega))|fail)
  generalize hfn:(fstF t (r:Int)).length=fn at hql hfl
  refine qE (α := VW2) tok (fun z=>HS H none' [(true,kl,rw' (fstF t (r:Int))),(true,m,fmV z.W),(true,b1, .cells true 1 (tkC t b c))] z.H/\z.i<=fn/\Wok t rows r z.i z.W)
   (fun z=>[(1, .int .i64 op),(2, .int .i64 kind),(3,sv ko n),(4, .pointer (some ⟨b1,0,none⟩)),(10, .map (some m)),(11, .int .i64 (r:Int)),(12,sv q.1 fn),(28,sv ko n),(29, .int .i64 (n:Int)),(30, .int .i64 (r:Int)),(43,sv kl fn),(44, .int .i64 (fn:Int)),(45, .int .i64 (z.i:Int))]) (fun z=>z.H) (fun z=>fn-z.i)
   ⟨_,0,W⟩ ⟨hs,Nat.zero_le _,hW⟩ (Or.inl ⟨⟨rfl,rfl,rfl,rfl,rfl,rfl,by rw[<- hql];rfl,rfl,rfl,rfl,by rw[<- hfn];rfl,by rw[<- hfn];rfl,rfl,trivial⟩,rfl⟩) ?_
  clear hs hW hbo hbr;rintro ⟨H5,i,W⟩ ⟨hs,hi,hW⟩;dsimp only at hs hi hW ⊢
  repeat' (first|refine nY (fun K0 hK0=>?_)|refine zAw ?_|refine sX hs (fun _ hs=>?_)|refine zNw (fun _ _ hs=>?_)|fail)
  refine And.intro (fun hc=>?_) (fun hc=>?_)
  ·have hin:i<fn:=by have:=of_decide_eq_true hc;omega
   clear hc;obtain ⟨wr,hbr⟩:=(vr.up (qc hs)).r q hqm
   repeat' (first|refine nY (fun K0 hK0=>?_)|refine zAw ?_|refine sX hs (fun _ hs=>?_)|refine zNw (fun _ _ hs=>?_)|fail)
   refine wI (by omega) ?_
   repeat' (first|refine nY (fun K0 hK0=>?_)|refine zAw ?_|refine sX hs (fun _ hs=>?_)|refine zNw (fun _ _ hs=>?_)|fail)
   refine qH hbr ⟨i,rfl,by omega, ?_⟩
   repeat' (first|refine nY (fun K0 hK0=>?_)|refine zAw ?_|refine sX hs (fun _ hs=>?_)|refine zNw (fun _ _ hs=>?_)|fail)
   refine qG hbr (Xr i (by show 0+i*2=_;omega) (by omega) ?_)
   repeat' (first|refine nY (fun K0 hK0=>?_)|refine zAw ?_|refine sX hs (fun _ hs=>?_)|refine zNw (fun _ _ hs=>?_)|fail)
   refine updF_hs hs 1 rfl (hW.fresh (by omega)) (fun H6 hs=>?_)
   repeat' (first|refine nY (fun K0 hK0=>?_)|refine zAw ?_|refine sX hs (fun _ hs=>?_)|refine zNw (fun _ _ hs=>?_)|fail)
   exact⟨⟨_,i+1,_⟩,⟨hs,hin,hW.next hq (by omega)⟩,by dsimp only;omega,Or.inl ⟨⟨rfl,rfl,rfl,rfl,rfl,rfl,rfl,rfl,rfl,rfl,rfl,rfl,rfl,trivial⟩,rfl⟩⟩
  ·have hin:i=fn:=by have:=of_decide_eq_false hc;omega
   clear hc;subst hin
   repeat' (first|refine nY (fun K0 hK0=>?_)|refine zAw ?_|refine sX hs (fun _ hs=>?_)|refine zNw (fun _ _ hs=>?_)|fail)
   exact⟨⟨_,r+1,W⟩,⟨hs.pick [1,2] (by decide) rfl,hrn,Wok.row (by rw[hfn];exact hW)⟩,by dsimp only;omega,Or.inl ⟨⟨rfl,rfl,rfl,rfl,rfl,rfl,rfl,rfl,trivial⟩,rfl⟩⟩
 ·have hrn:r=n:=by have:=of_decide_eq_false hc;omega
  clear hc;subst hrn
  repeat' (first|refine nY (fun K0 hK0=>?_)|refine zAw ?_|refine sX hs (fun _ hs=>?_)|refine zNw (fun _ _ hs=>?_)|fail)
  refine qE (α := List Blk × Nat) tok (fun z=>HS H none' [(true,m,fmV W),(true,b1, .cells true 1 (tkC t b c))] z.1/\z.2<=r)
   (fun z=>[(1, .int .i64 op),(2, .int .i64 kind),(10, .map (some m)),(60,sv ko r),(61, .int .i64 (r:Int)),(62, .int .i64 (z.2:Int))]) (fun z=>z.1) (fun z=>r-z.2)
   (_,0) ⟨hs,Nat.zero_le _⟩ (Or.inl ⟨⟨rfl,rfl,rfl,rfl,rfl,rfl,trivial⟩,rfl⟩) ?_
  clear hs;rintro ⟨H4,j⟩ ⟨hs,hj⟩;dsimp only at hs hj ⊢
  repeat' (first|refine nY (fun K0 hK0=>?_)|refine zAw ?_|refine sX hs (fun _ hs=>?_)|refine zNw (fun _ _ hs=>?_)|fail)
  refine And.intro (fun hc=>?_) (fun hc=>?_)
  ·have hjr:j<r:=by have:=of_decide_eq_true hc;omega
   clear hc;obtain ⟨q,hq⟩ : ∃ q,rows[j]? = some q:=⟨_,List.getElem?_eq_getElem (by omega)⟩;have hqm:=List.mem_of_getElem? hq;obtain ⟨wo,hbo⟩:=(vr.up (qc hs)).o;have hov:=Yh hq;have hql:=hri j q hq;have hfl:=YG kt (j:Int);obtain ⟨wr,hbr⟩:=(vr.up (qc hs)).r q hqm
   iterate 4 (
    all_goals try (first | refine xu hov ?_ | refine qH hbo ?_ | refine qG hbo ?_ | refine qH hbr ?_)
    all_goals try (
     repeat' (first|refine nY (fun K0 hK0=>?_)|refine zAw ?_|refine sX hs (fun _ hs=>?_)|refine zNw (fun _ _ hs=>?_)|fail)
     ))
   generalize hqn:q.2.length=qn at *
   refine qE (α := List Blk × Nat) tok (fun z=>HS H none' [(true,m,fmV W),(true,b1, .cells true 1 (tkC t b c))] z.1/\z.2<=qn)
    (fun z=>[(1, .int .i64 op),(2, .int .i64 kind),(10, .map (some m)),(60,sv ko r),(61, .int .i64 (r:Int)),(62, .int .i64 (j:Int)),(66,sv q.1 qn),(67, .int .i64 (qn:Int)),(68, .int .i64 (z.2:Int))]) (fun z=>z.1) (fun z=>qn-z.2)
    (_,0) ⟨hs,Nat.zero_le _⟩ (Or.inl ⟨⟨rfl,rfl,rfl,rfl,rfl,rfl,rfl,rfl,rfl,trivial⟩,rfl⟩) ?_
   clear hs hbo hbr;rintro ⟨H5,i⟩ ⟨hs,hi⟩;dsimp only at hs hi ⊢
   repeat' (first|refine nY (fun K0 hK0=>?_)|refine zAw ?_|refine sX hs (fun _ hs=>?_)|refine zNw (fun _ _ hs=>?_)|fail)
   refine And.intro (fun hc=>?_) (fun hc=>?_)
   ·have hin:i<qn:=by have:=of_decide_eq_true hc;omega
    clear hc;obtain ⟨wr,hbr⟩:=(vr.up (qc hs)).r q hqm
    repeat' (first|refine nY (fun K0 hK0=>?_)|refine zAw ?_|refine sX hs (fun _ hs=>?_)|refine zNw (fun _ _ hs=>?_)|fail)
    refine qH hbr ⟨i,rfl,by omega, ?_⟩
    repeat' (first|refine nY (fun K0 hK0=>?_)|refine zAw ?_|refine sX hs (fun _ hs=>?_)|refine zNw (fun _ _ hs=>?_)|fail)
    refine qG hbr (Xr i (by show 0+i*2=_;omega) (by omega) ?_);generalize q.2[i]! = x;rcases hop with rfl | ⟨rfl,rfl⟩
    ·skip
     repeat' (first|refine nY (fun K0 hK0=>?_)|refine zAw ?_|refine sX hs (fun _ hs=>?_)|refine zNw (fun _ _ hs=>?_)|(refine dI (fun hc=>?_) (fun hc=>?_) <;> try (exfalso;omega))|fail)
     exact⟨(_,i+1),⟨hs.pick [1,2] (by decide) rfl,hin⟩,by dsimp only;omega,Or.inl ⟨⟨rfl,rfl,rfl,rfl,rfl,rfl,rfl,rfl,rfl,trivial⟩,rfl⟩⟩
    ·skip
     repeat' (first|refine nY (fun K0 hK0=>?_)|refine zAw ?_|refine sX hs (fun _ hs=>?_)|refine zNw (fun _ _ hs=>?_)|(refine dI (fun hc=>?_) (fun hc=>?_) <;> try (exfalso;omega))|fail)
     refine c45 (l := [x]) (hs.get 0 rfl) (by simp) (by simp) (fun H6 hn2=>?_);have hs:=qK hs hn2;clear hn2
     repeat' (first|refine nY (fun K0 hK0=>?_)|refine zAw ?_|refine sX hs (fun _ hs=>?_)|refine zNw (fun _ _ hs=>?_)|(refine dI (fun hc=>?_) (fun hc=>?_) <;> try (exfalso;omega))|fail)
     exact⟨(_,i+1),⟨hs.pick [3,4] (by decide) rfl,hin⟩,by dsimp only;omega,Or.inl ⟨⟨rfl,rfl,rfl,rfl,rfl,rfl,rfl,rfl,rfl,trivial⟩,rfl⟩⟩
   ·have hin:i=qn:=by have:=of_decide_eq_false hc;omega
    clear hc
    repeat' (first|refine nY (fun K0 hK0=>?_)|refine zAw ?_|refine sX hs (fun _ hs=>?_)|refine zNw (fun _ _ hs=>?_)|fail)
    exact⟨(_,j+1),⟨hs,hjr⟩,by dsimp only;omega,Or.inl ⟨⟨rfl,rfl,rfl,rfl,rfl,rfl,trivial⟩,rfl⟩⟩
  ·have hjr:j=r:=by have:=of_decide_eq_false hc;omega
   clear hc
   repeat' (first|refine nY (fun K0 hK0=>?_)|refine zAw ?_|refine sX hs (fun _ hs=>?_)|refine zNw (fun _ _ hs=>?_)|fail)
   exact h _ m W (hs.pick [0] (by decide) rfl) hW
end Go.Af.Tryz
