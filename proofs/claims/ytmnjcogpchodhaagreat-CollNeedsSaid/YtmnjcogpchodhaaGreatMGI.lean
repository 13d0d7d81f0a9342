/- A part of the proof. -/
import Derived.Test.YtmnjcogpchodhaaGreatMGH
import Derived.Test.YtmnjcogpchodhaaGreatMCA
import Derived.Test.YtmnjcogpchodhaaGreatMGC2
set_option linter.all false
set_option maxHeartbeats 4000000
set_option maxRecDepth 100000
namespace Go.Af.Tryz
open Go Go.Proofs
open Go.Af.Coll (St)
attribute [local irreducible] awp qj qJ qL qC qo isCells qx qp qA qw qh roundEnd

theorem rwL_snoc (rows:List (Nat × Rw)) (rb:Nat) (es:Rw) (LL:List (Bool × Nat × Blk)):rwL (rows ++ [(rb,es)])++LL=rwL rows++(true,rb,rowB es)::LL:=by simp[rwL]
theorem outC_cong (rows:List (Nat × Rw)) (rb m:Nat) {es es' : Rw} (h:es.length=es'.length):outC (rows ++ [(rb,es)]) m=outC (rows ++ [(rb,es')]) m:=by simp[outC,h]
theorem fold_take {α : Type} (f : α->Int->α) (a : α) (fs:List Int) {j:Nat} (h:j<fs.length):(fs.take (j+1)).foldl f a=f ((fs.take j).foldl f a) fs[j]! := by
 rw[List.take_succ_eq_append_getElem h,List.foldl_append,getElem!_pos fs j h];rfl
theorem LfR_set {es M:Rw} (h:LfR es M) (i k:Nat) (l:List Og):LfR (es.set i (k,l)) ((k,l)::M):=fun e he hn=>by
 rcases List.mem_or_eq_of_mem_set he with h1 | h1
 ·exact List.mem_cons_of_mem _ (h e h1 hn)
 ·subst h1;exact List.mem_cons_self
theorem LfR_nil (n:Nat) (M:Rw):LfR (List.replicate n (0,[])) M:=fun e he hn=>absurd (by rw[List.eq_of_mem_replicate he]) hn
theorem outC_at {rows:List (Nat × Rw)} {m m' r rb n:Nat} {es:Rw} (hr:rows.length=r) (hm:m=m' + 1) (he:es.length=n):(outC rows m).set (0+r*1) (sv rb n)=outC (rows ++ [(rb,es)]) m' := by
 subst hr;subst hm;subst he;rw[Nat.zero_add,Nat.mul_one];exact outC_snoc rows m' rb es
theorem rowC_at {es:Rw} {x:Int} {i k:Nat} {l:List Og} (hx:x=i):(rowC es).set (0+i*1) (lfV k l)=rowC (es.set x.toNat (k,l)):=by
 subst hx;rw[Nat.zero_add,Nat.mul_one,rowC_set,Int.toNat_natCast]
theorem Ld_ak {xs:List Int} {i:Nat} {v:Int} {K:Value->Prop} (hi:i<xs.length) (hv:xs[i]! = v) (h:K (.int .i64 v)):Ld (ints xs) (0+i*1) K:=wI hi (by rw[hv];exact h)
theorem step_fin {H0 H:List Blk} {o:Nat->Prop} {rows:List (Nat × Rw)} {rb ob m:Nat} {es es' : Rw} {X:List (Bool × Nat × Blk)} (hs:HS H0 o ((true,rb,rowB es')::(true,ob, .cells true 1 (outC (rows ++ [(rb,es)]) m))::X) H) (hl:es'.length=es.length) :
 HS H0 o ((true,rb,rowB es')::(true,ob, .cells true 1 (outC (rows ++ [(rb,es')]) m))::X) H:=by
 rw[outC_cong rows rb m hl];exact hs
end Go.Af.Tryz
namespace Go.Af.Tryz
open Go Go.Proofs
open Go.Af.Coll (St sndP zF vK zJ addF Ck)

abbrev Tr:=List (List (List Og))
def tget (tr:Tr) (r s:Int):List Og:=(tr[r.toNat]!)[s.toNat]!
def tset (tr:Tr) (r s:Int) (l:List Og):Tr:=tr.set r.toNat ((tr[r.toNat]!).set s.toNat l)
def stpL (now:Tr) (x:St):List Og:=joinL x.jn (tget now x.to x.ds) (tget now x.fr x.sr)
def goT:Option Int->Tr->Tr->List St->Option Tr
 | _,_,nx,[]=>some nx
 | r,now,nx,x::l =>
   if r=some x.rd then if tget now x.fr x.sr = []\/128<(stpL now x).length then none else goT (some x.rd) now (tset nx x.to x.ds (stpL now x)) l
   else if tget nx x.fr x.sr = []\/128<(stpL nx x).length then none else goT (some x.rd) nx (tset nx x.to x.ds (stpL nx x)) l
def trcF (t:Tk) (l:List St):Option Tr:=goT none (stT t) (stT t) l
theorem VB {now nx:Tr} {x:St} {l:List St} (h : ¬ (tget now x.fr x.sr = []\/128<(stpL now x).length)):goT (some x.rd) now nx (x::l)=goT (some x.rd) now (tset nx x.to x.ds (stpL now x)) l:=by
 rw[goT,if_pos rfl,if_neg h]
theorem WB {now nx:Tr} {x:St} {l:List St} (h:tget now x.fr x.sr = []\/128<(stpL now x).length):goT (some x.rd) now nx (x::l)=none:=by
 rw[goT,if_pos rfl,if_pos h]
theorem goT_new {r:Option Int} {now nx:Tr} {x:St} {l:List St} (h:r≠some x.rd):goT r now nx (x::l)=goT (some x.rd) nx nx (x::l):=by
 rw[goT,if_neg h]
 conv=>rhs;rw[goT,if_pos rfl]
structure StOk (p n:Int) (x:St):Prop where
 fr:0<=x.fr/\x.fr<p
 to:0<=x.to/\x.to<p
 sr:0<=x.sr/\x.sr<n
 ds:0<=x.ds/\x.ds<n
 jn:0<=x.jn/\x.jn<=2
theorem self_ok {p n:Int} {prev:Option St} {x:St} (h:zF p n prev x=0):StOk p n x:=by
 unfold zF at h;split at h
 ·omega
 ·split at h
  ·omega
  ·split at h
   ·omega
   ·split at h
    ·omega
    ·exact⟨by omega,by omega,by omega,by omega,by omega⟩
theorem sndP_ok {p n:Int} : ∀ {l:List St} {prev:Option St} {c:Ck},sndP p n prev c l=0->∀ x∈l,StOk p n x
 | [],_,_,_,x,hx=>by cases hx
 | y::l,prev,c,h,x,hx=>by
   rw[sndP] at h;split at h
   ·rename_i h1;exact absurd h h1
   ·rename_i h1
    split at h
    ·rename_i h2;exact absurd h h2
    ·rcases List.mem_cons.1 hx with rfl | hx
     ·exact self_ok (by simpa using h1)
     ·exact sndP_ok h x hx
theorem snd_ok {t:Tk} {l:List St} (h:sndF t l=0):chkF t=0/\∀ x∈l,StOk t.pr (sltF t) x:=by
 unfold sndF at h;split at h
 ·rename_i h1;exact absurd h h1
 ·rename_i h1
  exact⟨by simpa using h1,sndP_ok h⟩
structure Dim (rows:List (Nat × Rw)) (p n:Nat):Prop where
 p:rows.length=p
 n : ∀ q∈rows,q.2.length=n
 l : ∀ q∈rows, ∀ e∈q.2,e.2.length<=128
theorem Dim.at {rows:List (Nat × Rw)} {p n:Nat} (d:Dim rows p n) {r s:Int} (hr:0<=r/\r<p) (hs:0<=s/\s<n) : ∃ q e,rows[r.toNat]? = some q/\q.2[s.toNat]? = some e/\q∈rows/\e∈q.2/\q.2.length=n/\e.2.length<=128/\tget (cont rows) r s=e.2:=by
 have h1:r.toNat<rows.length:=by rw[d.p];omega
 have hq:=List.getElem_mem h1;have h2:s.toNat<rows[r.toNat].2.length:=by rw[d.n _ hq];omega
 have he:=List.getElem_mem h2;refine⟨rows[r.toNat],rows[r.toNat].2[s.toNat],List.getElem?_eq_getElem h1,List.getElem?_eq_getElem h2,hq,he,d.n _ hq,d.l _ hq _ he, ?_⟩;unfold tget cont;rw[getElem!_pos _ r.toNat (by simpa using h1)];rw[getElem!_pos _ s.toNat (by simpa using h2)];simp
theorem stR_dim (t:Tk) (n:Nat) (r:Int):(stR t n r).length=n/\∀ l∈stR t n r,l.length<=128:=by
 unfold stR
 have key : ∀ (fs:List Int) (row:List (List Og)),(row.length=n/\∀ l∈row,l.length<=128)->(fs.foldl (fun row i=>row.set i.toNat [(r,i)]) row).length=n/\∀ l∈fs.foldl (fun row i=>row.set i.toNat [(r,i)]) row,l.length<=128:=by
  intro fs
  induction fs with
  | nil=>exact fun row h=>h
  | cons f fs ih =>
    intro row h;rw[List.foldl_cons];refine ih _ ⟨by rw[List.length_set];exact h.1,fun l hl=>?_⟩;rcases List.mem_or_eq_of_mem_set hl with h1 | rfl
    ·exact h.2 l h1
    ·simp
 refine key _ _ ⟨by simp,fun l hl=>?_⟩;rw[List.eq_of_mem_replicate hl];simp
theorem dim_start {t:Tk} {rows:List (Nat × Rw)} {p n:Nat} (hp:t.pr=p) (hn:sltF t=n) (h:cont rows=stT t):Dim rows p n:=by
 have e:stT t=(List.range p).map (fun r:Nat=>stR t n (r:Int)):=by unfold stT;rw[hp,hn,Int.toNat_natCast,Int.toNat_natCast]
 rw[e] at h
 have hq : ∀ q∈rows,q.2.length=n/\∀ e∈q.2,e.2.length<=128:=fun q hq=>by
  have h1:q.2.map Prod.snd∈cont rows:=List.mem_map.2 ⟨q,hq,rfl⟩;rw[h] at h1;obtain ⟨r,_,hr⟩:=List.mem_map.1 h1;have hd:=stR_dim t n (r:Int);rw[hr] at hd;refine⟨by have:=hd.1;rw[List.length_map] at this;exact this,fun e he=>hd.2 _ (List.mem_map.2 ⟨e,he,rfl⟩)⟩
 refine⟨?_,fun q h=>(hq q h).1,fun q h=>(hq q h).2⟩;have:=congrArg List.length h;unfold cont at this
 simpa using this
theorem UJ {rows:List (Nat × Rw)} {r s:Int} {q:Nat × Rw} (hq:rows[r.toNat]? = some q) (k:Nat) (l:List Og):cont (rows.set r.toNat (q.1,q.2.set s.toNat (k,l)))=tset (cont rows) r s l:=by
 have h1:=(List.getElem?_eq_some_iff.1 hq).1;have h2:=(List.getElem?_eq_some_iff.1 hq).2;unfold tset cont;rw[getElem!_pos _ r.toNat (by simpa using h1),List.map_set];simp[h2,List.map_set]
theorem Dim.set {rows:List (Nat × Rw)} {p n:Nat} (d:Dim rows p n) {r s:Int} {q:Nat × Rw} (hq:rows[r.toNat]? = some q) (k:Nat) {l:List Og} (hl:l.length<=128):Dim (rows.set r.toNat (q.1,q.2.set s.toNat (k,l))) p n:=by
 have hm:=List.mem_of_getElem? hq;refine⟨by rw[List.length_set];exact d.p,fun y hy=>?_,fun y hy e he=>?_⟩
 ·rcases List.mem_or_eq_of_mem_set hy with h1 | rfl
  ·exact d.n y h1
  ·rw[List.length_set];exact d.n q hm
 ·rcases List.mem_or_eq_of_mem_set hy with h1 | rfl
  ·exact d.l y h1 e he
  ·rcases List.mem_or_eq_of_mem_set he with h2 | rfl
   ·exact d.l q hm e h2
   ·exact hl
theorem LfIn_set {rows:List (Nat × Rw)} {M:Rw} (h:LfIn rows M) {r s:Int} {q:Nat × Rw} (hq:rows[r.toNat]? = some q) (k:Nat) (l:List Og):LfIn (rows.set r.toNat (q.1,q.2.set s.toNat (k,l))) ((k,l)::M):=fun y hy=>by
 rcases List.mem_or_eq_of_mem_set hy with h1 | rfl
 ·exact (h y h1).mono (fun _ h=>List.mem_cons_of_mem _ h)
 ·exact LfR_set (h q (List.mem_of_getElem? hq)) _ _ _
theorem rwL_set (rows:List (Nat × Rw)) (i:Nat) (q:Nat × Rw):rwL (rows.set i q)=(rwL rows).set i (true,q.1,rowB q.2):=by
 unfold rwL;rw[List.map_set]
theorem XA {rows:List (Nat × Rw)} {i m:Nat} {q q' : Nat × Rw} (hq:rows[i]? = some q) (h1:q'.1=q.1) (h2:q'.2.length=q.2.length):outC (rows.set i q') m=outC rows m:=by
 unfold outC;congr 1;rw[List.map_set]
 apply List.ext_getElem?
 intro j;rw[List.getElem?_set];split
 ·rename_i hij
  subst hij;rw[h1,h2];have hl:=(List.getElem?_eq_some_iff.1 hq).1;have he:=(List.getElem?_eq_some_iff.1 hq).2;simp[hl,he]
 ·rfl
theorem Lf_of {H0 H:List Blk} {o:Nat->Prop} {L:List (Bool × Nat × Blk)} (hs:HS H0 o L H) {e:Nat × List Og} (h:e.2≠[]->(true,e.1,ogB e.2)∈L):Lf H e.1 e.2:=by
 by_cases he:e.2 = []
 ·exact .inl he
 ·exact .inr ⟨true,hs.mem (h he)⟩
theorem ZR {M:Rw} {e:Nat × List Og} (h:e∈M):(true,e.1,ogB e.2)∈lfL M:=List.mem_map.2 ⟨e,h,rfl⟩
end Go.Af.Tryz
namespace Go.Af.Tryz
open Go Go.Proofs
open Go.Af.Coll (St sndP sndR zF vK zJ addF Ck yP zT QO)

theorem WY {p n:Int} : ∀ {l past:List St},sndR p n past l=0->∀ (a b:Nat) (x y:St),(past++l)[a]? = some x->(past++l)[b]? = some y->a<b->past.length<=b->x.rd=y.rd->(x.to,x.ds)≠(y.to,y.ds)
 | [],past,_,a,b,x,y,_,hb,_,hpb,_=>by
   rw[List.append_nil] at hb;have:=(List.getElem?_eq_some_iff.1 hb).1;omega
 | z::l,past,h,a,b,x,y,ha,hb,hab,hpb,hr=>by
   rw[sndR] at h;split at h
   ·rename_i h1;exact absurd h h1
   ·rename_i h1
    by_cases hbe:b=past.length
    ·subst hbe
     rw[List.getElem?_append_right (Nat.le_refl _),Nat.sub_self] at hb;cases hb;rw[List.getElem?_append_left hab] at ha;have hx:=List.mem_of_getElem? ha;intro e
     have ht:zT past z=true:=by
      unfold zT;rw[List.any_eq_true];refine⟨x,hx, ?_⟩;simp only[Prod.mk.injEq] at e;simp[hr,e.1,e.2]
     refine h1 ?_;unfold yP;split
     ·assumption
     ·first | (rw[if_pos ht];decide) | decide
    ·exact WY (past:=past ++ [z]) h a b x y (by rw[List.append_assoc];exact ha) (by rw[List.append_assoc];exact hb) hab (by rw[List.length_append,List.length_singleton];omega) hr
theorem tset_get (z:Tr) (r s:Int) (l:List Og) (i:Nat):(tset z r s l)[i]? = if i=r.toNat then (z[i]?).map (fun row=>row.set s.toNat l) else z[i]? := by
 unfold tset;rw[List.getElem?_set];by_cases h:r.toNat=i
 ·rw[if_pos h,if_pos h.symm]
  subst h;by_cases hl:r.toNat<z.length
  ·rw[if_pos hl,getElem!_pos z r.toNat hl,List.getElem?_eq_getElem hl]
   rfl
  ·rw[if_neg hl,List.getElem?_eq_none (by omega)]
   rfl
 ·rw[if_neg h,if_neg (fun e=>h e.symm)]
theorem tset_comm (z:Tr) {r s r' s' : Int} (h:r.toNat≠r'.toNat\/s.toNat≠s'.toNat) (a b:List Og):tset (tset z r s a) r' s' b=tset (tset z r' s' b) r s a:=by
 apply List.ext_getElem?
 intro i;simp only[tset_get];by_cases h1:i=r.toNat
 ·by_cases h2:i=r'.toNat
  ·rw[if_pos h2,if_pos h1,if_pos h1,if_pos h2]
   have hs:s.toNat≠s'.toNat:=by omega
   cases z[i]? with
   | none=>rfl
   | some row=>simp only[Option.map_some];rw[List.set_comm _ _ hs]
  ·rw[if_neg h2,if_pos h1,if_pos h1,if_neg h2]
 ·by_cases h2:i=r'.toNat
  ·rw[if_pos h2,if_neg h1,if_neg h1,if_pos h2]
  ·rw[if_neg h2,if_neg h1,if_neg h1,if_neg h2]
abbrev Wt:=List ((Int × Int) × (Nat × List Og))
def putW (tr:Tr) (W:Wt):Tr:=W.foldl (fun tr w=>tset tr w.1.1 w.1.2 w.2.2) tr
structure WtOk (W:Wt):Prop where
 nn : ∀ w∈W,0<=w.1.1/\0<=w.1.2
 nd:(W.map Prod.fst).Nodup
theorem Xz {W W' : Wt} (h:WtOk W) (hp:W.Perm W') (tr:Tr):putW tr W=putW tr W' := by
 unfold putW;refine hp.foldl_eq' (fun x hx y hy z=>?_) tr;by_cases e:x.1=y.1
 ·have:x=y:=by
   obtain ⟨i,hi,rfl⟩:=List.getElem_of_mem hx;obtain ⟨j,hj,rfl⟩:=List.getElem_of_mem hy;have h1:(W.map Prod.fst)[i]'(by simpa using hi)=(W.map Prod.fst)[j]'(by simpa using hj):=by simpa using e
   have:=(List.getElem_inj h.nd).1 h1;subst this;rfl
  rw[this]
 ·refine tset_comm z ?_ _ _
  have a:=h.nn x hx;have b:=h.nn y hy;by_cases h1:x.1.1=y.1.1
  ·right
   have:x.1.2≠y.1.2:=fun h2=>e (Prod.ext h1 h2)
   omega
  ·left;omega
theorem xH (tr:Tr) (W:Wt) (w:(Int × Int) × (Nat × List Og)):putW tr (W ++ [w])=tset (putW tr W) w.1.1 w.1.2 w.2.2:=by
 unfold putW;rw[List.foldl_append];rfl
end Go.Af.Tryz
namespace Go.Af.Tryz
open Go Go.Proofs
open Go.Af.Coll (St)

def RkL (p:Int) (l:List Og):Prop := ∀ o∈l,0<=o.1/\o.1<p
def RkOk (p:Int) (tr:Tr):Prop := ∀ row∈tr, ∀ l∈row,RkL p l
theorem Xy {p:Int} {tr:Tr} (h:RkOk p tr) (r s:Int):RkL p (tget tr r s):=by
 unfold tget;by_cases h1:r.toNat<tr.length
 ·rw[getElem!_pos tr _ h1]
  by_cases h2:s.toNat<tr[r.toNat].length
  ·rw[getElem!_pos tr[r.toNat] s.toNat h2]
   exact h _ (List.getElem_mem h1) _ (List.getElem_mem h2)
  ·rw[getElem!_neg tr[r.toNat] s.toNat h2]
   exact fun o ho=>by cases ho
 ·rw[getElem!_neg tr _ h1]
  exact fun o ho=>by
   have e:(default:List (List Og))[s.toNat]! = []:=rfl;rw[e] at ho;cases ho
theorem rk_join {p j:Int} {a b:List Og} (ha:RkL p a) (hb:RkL p b):RkL p (joinL j a b):=by
 unfold joinL;split
 ·exact hb
 ·split
  ·exact fun o ho=>(List.mem_append.1 ho).elim (hb o) (ha o)
  ·exact fun o ho=>(List.mem_append.1 ho).elim (ha o) (hb o)
theorem rk_set {p:Int} {tr:Tr} (h:RkOk p tr) (r s:Int) {l:List Og} (hl:RkL p l):RkOk p (tset tr r s l):=by
 intro row hrow l' hl';unfold tset at hrow;by_cases h1:r.toNat<tr.length
 ·rw[getElem!_pos tr _ h1] at hrow
  rcases List.mem_or_eq_of_mem_set hrow with h2 | rfl
  ·exact h row h2 l' hl'
  ·rcases List.mem_or_eq_of_mem_set hl' with h3 | rfl
   ·exact h _ (List.getElem_mem h1) _ h3
   ·exact hl
 ·rw[List.set_eq_of_length_le (by omega)] at hrow
  exact h row hrow l' hl'
theorem rk_go {p:Int} : ∀ {l:List St} {r:Option Int} {now nx tr:Tr},RkOk p now->RkOk p nx->goT r now nx l=some tr->RkOk p tr
 | [],_,_,_,_,_,h2,h=>by
   rw[goT] at h;cases h;exact h2
 | x::l,r,now,nx,tr,h1,h2,h=>by
   rw[goT] at h;split at h
   ·split at h
    ·cases h
    ·exact rk_go h1 (rk_set h2 _ _ (rk_join (Xy h1 _ _) (Xy h1 _ _))) h
   ·split at h
    ·cases h
    ·exact rk_go h2 (rk_set h2 _ _ (rk_join (Xy h2 _ _) (Xy h2 _ _))) h
theorem Uc (t:Tk):RkOk (t.pr.toNat:Int) (stT t):=by
 intro row hrow;unfold stT at hrow;obtain ⟨r,hr,rfl⟩:=List.mem_map.1 hrow;have hr:=List.mem_range.1 hr
 have key : ∀ (fs:List Int) (row:List (List Og)),(∀ l∈row,RkL (t.pr.toNat:Int) l)->∀ l∈fs.foldl (fun row i=>row.set i.toNat [((r:Int),i)]) row,RkL (t.pr.toNat:Int) l:=by
  intro fs
  induction fs with
  | nil=>exact fun row h=>h
  | cons f fs ih =>
    intro row h;rw[List.foldl_cons];refine ih _ (fun l hl=>?_);rcases List.mem_or_eq_of_mem_set hl with h1 | rfl
    ·exact h l h1
    ·intro o ho
     simp only[List.mem_singleton] at ho;subst ho;exact⟨by omega,by omega⟩
 exact key _ _ (fun l hl=>by
  rw[List.eq_of_mem_replicate hl]
  exact fun o ho=>by cases ho)
theorem trc_rk {t:Tk} {l:List St} {tr:Tr} (h:trcF t l=some tr):RkOk (t.pr.toNat:Int) tr:=rk_go (Uc t) (Uc t) h
end Go.Af.Tryz
