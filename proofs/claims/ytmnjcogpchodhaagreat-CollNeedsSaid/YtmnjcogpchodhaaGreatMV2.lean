/- A part of the proof. -/
import Derived.Test.YtmnjcogpchodhaaGreatMV
import Derived.Test.YtmnjcogpchodhaaGreatMGI
import Derived.Test.YtmnjcogpchodhaaGreatMGL
import Derived.Test.YtmnjcogpchodhaaGreatMCA
set_option linter.all false
set_option maxHeartbeats 4000000
set_option maxRecDepth 100000
namespace Go.Af.Tryz
open Go Go.Proofs

def InL (t:Tk) (l:List Og):Prop := ∀ o∈l,0<=o.1/\o.1<(t.pr.toNat:Int)/\o.2∈fstF t o.1
def InOk (t:Tk) (tr:Tr):Prop := ∀ row∈tr, ∀ l∈row,InL t l
theorem XJ {t:Tk} {tr:Tr} (h:InOk t tr) (r s:Int):InL t (tget tr r s):=by
 unfold tget;by_cases h1:r.toNat<tr.length
 ·rw[getElem!_pos tr _ h1]
  by_cases h2:s.toNat<tr[r.toNat].length
  ·rw[getElem!_pos tr[r.toNat] s.toNat h2]
   exact h _ (List.getElem_mem h1) _ (List.getElem_mem h2)
  ·rw[getElem!_neg tr[r.toNat] s.toNat h2]
   exact fun o ho=>by cases ho
 ·rw[getElem!_neg tr _ h1]
  exact fun o ho=>by
   have e:(default:List (List Og))[s.toNat]! = []:=rfl;rw[e] at ho;cases ho
theorem in_join {t:Tk} {j:Int} {a b:List Og} (ha:InL t a) (hb:InL t b):InL t (joinL j a b):=by
 unfold joinL;split
 ·exact hb
 ·split
  ·exact fun o ho=>(List.mem_append.1 ho).elim (hb o) (ha o)
  ·exact fun o ho=>(List.mem_append.1 ho).elim (ha o) (hb o)
theorem in_set {t:Tk} {tr:Tr} (h:InOk t tr) (r s:Int) {l:List Og} (hl:InL t l):InOk t (tset tr r s l):=by
 intro row hrow l' hl';unfold tset at hrow;by_cases h1:r.toNat<tr.length
 ·rw[getElem!_pos tr _ h1] at hrow
  rcases List.mem_or_eq_of_mem_set hrow with h2 | rfl
  ·exact h row h2 l' hl'
  ·rcases List.mem_or_eq_of_mem_set hl' with h3 | rfl
   ·exact h _ (List.getElem_mem h1) _ h3
   ·exact hl
 ·rw[List.set_eq_of_length_le (by omega)] at hrow
  exact h row hrow l' hl'
theorem in_go {t:Tk} : ∀ {l:List Coll.St} {r:Option Int} {now nx tr:Tr},InOk t now->InOk t nx->goT r now nx l=some tr->InOk t tr
 | [],_,_,_,_,_,h2,h=>by
   rw[goT] at h;cases h;exact h2
 | x::l,r,now,nx,tr,h1,h2,h=>by
   rw[goT] at h;split at h
   ·split at h
    ·cases h
    ·exact in_go h1 (in_set h2 _ _ (in_join (XJ h1 _ _) (XJ h1 _ _))) h
   ·split at h
    ·cases h
    ·exact in_go h2 (in_set h2 _ _ (in_join (XJ h2 _ _) (XJ h2 _ _))) h
theorem Ur (t:Tk):InOk t (stT t):=by
 intro row hrow;unfold stT at hrow;obtain ⟨r,hr,rfl⟩:=List.mem_map.1 hrow;have hr:=List.mem_range.1 hr
 have key : ∀ (fs:List Int) (row:List (List Og)),(∀ x∈fs,x∈fstF t (r:Int))->(∀ l∈row,InL t l)->∀ l∈fs.foldl (fun row i=>row.set i.toNat [((r:Int),i)]) row,InL t l:=by
  intro fs
  induction fs with
  | nil=>exact fun row _ h=>h
  | cons f fs ih =>
    intro row hf h;rw[List.foldl_cons];refine ih _ (fun x hx=>hf x (List.mem_cons_of_mem _ hx)) (fun l hl=>?_);rcases List.mem_or_eq_of_mem_set hl with h1 | rfl
    ·exact h l h1
    ·intro o ho
     simp only[List.mem_singleton] at ho;subst ho;exact⟨by omega,by omega,hf f List.mem_cons_self⟩
 exact key _ _ (fun x hx=>hx) (fun l hl=>by
  rw[List.eq_of_mem_replicate hl]
  exact fun o ho=>by cases ho)
theorem trc_in {t:Tk} {l:List Coll.St} {tr:Tr} (h:trcF t l=some tr):InOk t tr:=in_go (Ur t) (Ur t) h
def valF (t:Tk) (rows:List (Nat × List Int)) (o:Og):Int:=(rows[o.1.toNat]!).2[(fstF t o.1).idxOf o.2]!
theorem idx_fst {t:Tk} {r:Int} {i:Nat} (h:i<(fstF t r).length):(fstF t r).idxOf (fstF t r)[i]! = i:=by
 have hm:(fstF t r)[i]! ∈ fstF t r:=by rw[getElem!_pos _ i h];exact List.getElem_mem h
 have h1:=List.idxOf_lt_length_of_mem hm;refine fst_inj h1 h ?_;rw[getElem!_pos (fstF t r) _ h1];exact List.getElem_idxOf h1
theorem val_at {t:Tk} {rows:List (Nat × List Int)} {r i:Nat} {q:Nat × List Int} (hq:rows[r]? = some q) (hi:i<(fstF t (r:Int)).length):valF t rows ((r:Int),(fstF t (r:Int))[i]!)=q.2[i]! := by
 unfold valF;dsimp only;rw[idx_fst hi,Int.toNat_natCast,getElem!_pos rows r (List.getElem?_eq_some_iff.1 hq).1,(List.getElem?_eq_some_iff.1 hq).2]
theorem wok_get {t:Tk} {rows:List (Nat × List Int)} {W:Fm} (hW:Wok t rows rows.length 0 W) {o:Og} (h0:0<=o.1/\o.1<(rows.length:Int)) (h1:o.2∈fstF t o.1) :
 (∃ w∈W,w.1=o)/\∀ w∈W,w.1=o->w.2=valF t rows o:=by
 obtain ⟨i,hi,e⟩:=List.getElem_of_mem h1;have hr:o.1=(o.1.toNat:Int):=by omega
 have hq:rows[o.1.toNat]? = some rows[o.1.toNat]:=List.getElem?_eq_getElem (by omega);constructor
 ·refine⟨_,hW.b o.1.toNat i _ (.inl (by omega)) hq (by rw[<- hr];exact hi), ?_⟩
  rw[<- hr,getElem!_pos _ i hi,e]
 ·intro w hw e2
  obtain ⟨r',i',q',_,hq',hi',rfl⟩:=hW.a w hw;dsimp only at e2 ⊢;rw[<- e2,val_at hq' hi']
def fnlF (t:Tk) (tr:Tr) (rows:List (Nat × List Int)) (r:Int) (w:Fi):Int :=
 if 0<=w.u then redF ((tget tr r w.s).map (valF t rows)) else valF t rows (tget tr r w.s)[0]!
def outF (t:Tk) (tr:Tr) (rows:List (Nat × List Int)) (r:Int):List Int:=if t.op=10 then [] else (finF t r).map (fnlF t tr rows r)
theorem has_ne {t:Tk} {w:Fi} {l:List Og} (hp:1<=t.pr) (h:hasF t w l=true):l≠[]:=by
 intro e;subst e;unfold hasF at h;split at h
 ·simp at h
 ·rename_i hu
  rw[Bool.and_eq_true,List.all_eq_true (l:=List.range _)] at h;have:=h.2 0 (List.mem_range.2 (by omega));have hb:badK t w.u ((0:Nat):Int) (cntL [] ((0:Nat):Int))=false:=by simpa using this
  unfold badK at hb;have:=of_decide_eq_false hb;have e0:cntL [] ((0:Nat):Int)=0:=rfl;rw[e0] at this;omega
end Go.Af.Tryz
namespace Go.Af.Tryz
open Go Go.Proofs
attribute [local irreducible] awp qj qJ qL qC qo isCells qx qp qA qw qh roundEnd zG wX keyK vY

theorem c75 {H:List Blk} {op:Int} {R:Value->List Blk->Prop} (h : ∀ H',HS H none' [] H' -> R (.bool (joiF op)) H'):qj Tryz.prog 75 [.int .i64 op] H R:=by
 have hj:joiF op=decide (op∈[(2:Int),3,4,9,10]):=by unfold joiF;simp
 rw[hj] at h;refine qf tok Tryz.call75 Tryz.func75 rfl Tryz.ntmps75 rfl (by simp) ?_;have hs:=HS.start H none'
 repeat' (first|refine nY (fun K0 hK0=>?_)|refine zAw ?_|refine sX hs (fun _ hs=>?_)|refine zNw (fun _ _ hs=>?_)|refine c56 (xs := [2,3,4,9,10]) (hs.get 0 rfl) (by decide) ?_|fail)
 exact h _ (qc hs)
theorem c46g {H:List Blk} {op kind:Int} {R:Value->List Blk->Prop} (hop:op=1/\kind=1) (h : ∀ H',HS H none' [] H' -> R (.int .i64 0) H'):qj Tryz.prog 46 [.int .i64 op, .int .i64 kind] H R:=by
 obtain ⟨rfl,rfl⟩:=hop;exact c46 h
theorem c45g {H:List Blk} {op kind:Int} {l:List Int} {k n:Nat} {w:Bool} {R:Value->List Blk->Prop} (hop:op=1/\kind=1) (hn:l.length=n) (hk:bget H k=some (.cells w 2 (vaC l))) (hl:0<n) (hll:n<=1000000)
 (h : ∀ H',HS H none' [] H' -> R (.tuple ⟨[.agg ⟨[.int .u64 (redF l), .int .i64 0]⟩, .int .i64 0]⟩) H'):qj Tryz.prog 45 [.int .i64 op, .int .i64 kind,sv k n] H R:=by
 obtain ⟨rfl,rfl⟩:=hop;subst hn;exact c45 hk hl hll h
def voC (out:List (Nat × List Int)) (m:Nat):List Value:=vrC out++List.replicate m (.slice none 0 0)
theorem voC_get (out:List (Nat × List Int)) (m i:Nat) (q:Nat × List Int) (h:out[i]? = some q):(voC out m)[i]? = some (sv q.1 q.2.length):=by
 unfold voC;rw[List.getElem?_append_left (by rw[Qv];exact (List.getElem?_eq_some_iff.1 h).1)];exact Yh h
theorem voC_set {out:List (Nat × List Int)} {k k' m r n:Nat} {row row' : List Int} (hr:out.length=r) (hn:row'.length=n):(voC (out ++ [(k,row)]) m).set (0+r*1) (sv k' n)=voC (out ++ [(k',row')]) m:=by
 subst hr;subst hn;unfold voC;rw[Zm,Zm,Nat.zero_add,Nat.mul_one,List.append_assoc,List.append_assoc,List.set_append,if_neg (by rw[Qv];omega),Qv,Nat.sub_self];rfl
theorem Zn (out:List (Nat × List Int)) (m:Nat):(voC out m).length=out.length+m:=by simp[voC]
theorem voC_wk {out:List (Nat × List Int)} {k m:Nat} (i:Nat) (v v' : Value) (h1:(voC out (m+1))[i]? = some v) (h2:(voC (out ++ [(k,[])]) m)[i]? = some v'):WkV v v' := by
 unfold voC at h1 h2;rw[Zm,List.append_assoc] at h2;rcases Nat.lt_or_ge i (vrC out).length with hi | hi
 ·rw[List.getElem?_append_left hi] at h1 h2
  rw[h1] at h2;cases h2;exact .rfl
 ·rw[List.getElem?_append_right hi] at h1 h2
  generalize i-(vrC out).length=j at h1 h2;rw[List.replicate_succ] at h1
  cases j with
  | zero=>cases h1;cases h2;exact .nil _
  | succ j =>
    have h1:(List.replicate m (Value.slice none 0 0))[j]? = some v:=h1;have h2:(List.replicate m (Value.slice none 0 0))[j]? = some v' := h2;rw[h1] at h2;cases h2;exact .rfl
theorem fin_u {t:Tk} (kt:TkOk t) {r:Int} {w:Fi} (h:w∈finF t r) (hu:0<=w.u):joiF t.op=true:=by
 have hop:=kt.op
 have cp : ∀ fr fs xs,w∈cpL fr fs xs->False:=fun fr fs xs hm=>by
  obtain ⟨i,hi,e⟩:=List.mem_map.1 hm;rw[<- e] at hu;dsimp only at hu;omega
 by_cases hj:t.op=2\/t.op=3\/t.op=4\/t.op=9\/t.op=10
 ·unfold joiF;exact decide_eq_true hj
 ·exfalso
  unfold finF at h;have hc:t.op=1\/t.op=5\/t.op=6\/t.op=7\/t.op=8\/t.op=11:=by omega
  rcases hc with e | e | e | e | e | e
  ·rw[if_pos e] at h
   exact cp _ _ _ h
  ·rw[if_neg (by omega),if_neg (by omega),if_pos (by omega)] at h
   split at h
   ·exact cp _ _ _ h
   ·cases h
  ·rw[if_neg (by omega),if_pos e] at h
   exact cp _ _ _ h
  ·rw[if_neg (by omega),if_neg (by omega),if_pos (by omega),if_pos (by omega)] at h
   exact cp _ _ _ h
  ·rw[if_neg (by omega),if_neg (by omega),if_neg (by omega),if_pos e] at h
   exact cp _ _ _ h
  ·rw[if_neg (by omega),if_neg (by omega),if_neg (by omega),if_neg (by omega),if_pos e] at h
   obtain ⟨d,hd,h⟩:=List.mem_flatMap.1 h;unfold halF at h;obtain ⟨k,hk,h⟩:=List.mem_flatMap.1 h;unfold hvL at h;split at h
   ·cases h
   ·exact cp _ _ _ h
theorem fin_has {t:Tk} {tr:Tr} (h:finG t tr=true) {r:Nat} (hr:r<t.pr.toNat) {w:Fi} (hw:w∈finF t (r:Int)):hasF t w (tget tr (r:Int) w.s)=true:=by
 unfold finG at h;rw[List.all_eq_true] at h;exact List.all_eq_true.1 (h r (List.mem_range.2 hr)) w hw
def rowG (t:Tk) (tr:Tr) (rows:List (Nat × List Int)) (r:Int) (i:Nat):List Int:=if t.op=10 then [] else ((finF t r).take i).map (fnlF t tr rows r)
theorem rowG_all (t:Tk) (tr:Tr) (rows:List (Nat × List Int)) (r:Int):rowG t tr rows r (finF t r).length=outF t tr rows r:=by
 unfold rowG outF;rw[List.take_length]
theorem rowG_len {t:Tk} (tr:Tr) (rows:List (Nat × List Int)) (r:Int) (i:Nat):(rowG t tr rows r i).length<=i:=by
 unfold rowG;split
 ·simp
 ·rw[List.length_map,List.length_take];omega
structure RS3 where
 H:List Blk
 k:Nat
 vals:List Int
structure RS where
 H:List Blk
 out:List (Nat × List Int)
structure RS2 where
 H:List Blk
 i:Nat
 k:Nat
 row:List Int
theorem c21 {H:List Blk} {t:Tk} {alg op kind:Int} {l:List Coll.St} {b c d ko:Nat} {vrows:List (Nat × List Int)} {R:Value->List Blk->Prop} (gr:Gr H t.sz b) (gw:Gw H t.ws b c) (hst:Sts H l d)
 (hl:t.sz.length<=9223372036854775807) (hw:t.ws.length<=9223372036854775807) (hll:l.length<=9223372036854775807) (h0:sndF t l=0)
 (vr:Vr H vrows ko) (hvp:(vrows.length:Int)=t.pr) (hvl : ∀ (r:Nat) q,vrows[r]? = some q->q.2.length=(fstF t r).length)
 (hop:if joiF t.op=true/\t.op≠10 then op=1/\kind=1 else op=0/\kind=0)
 (he:rgtF t l=false->∀ H',HS H none' [] H' -> R (.tuple ⟨[.slice none 0 0, .int .i64 6]⟩) H')
 (h : ∀ H' oo out tr,HS H none' ((true,oo, .cells true 1 (vrC out))::vrL out) H' -> trcF t l=some tr->finG t tr=true->(out.length:Int)=t.pr->(∀ (r:Nat) q,out[r]? = some q->q.2=outF t tr vrows r)->R (.tuple ⟨[sv oo out.length, .int .i64 0]⟩) H') :
 qj Tryz.prog 21 [schV t alg b c d l.length, .int .i64 op, .int .i64 kind,sv ko vrows.length] H R:=by
 obtain ⟨hchk,hok⟩:=snd_ok h0;have kt:=yz hchk;have hpr:=kt.pr;have hbr:=ww kt;have hsl:sltF t=blkF t*t.pa:=by unfold sltF;rw[if_pos hchk]
 obtain ⟨p,hp⟩ : ∃ p:Nat,t.pr=p:=⟨t.pr.toNat,by omega⟩;obtain ⟨n,hN⟩ : ∃ n:Nat,sltF t=n:=⟨(sltF t).toNat,by omega⟩;refine qf tok Tryz.call21 Tryz.func21 rfl Tryz.ntmps21 rfl (by simp) ?_;refine qi (HS.start H none') (fun H1 b1 e1 l1 hs=>?_);refine qg (fun _ hKs=>hKs _ _ ?_);clear hKs;clear e1 l1
 repeat' (first|refine nY (fun K0 hK0=>?_)|refine zAw ?_|refine sX hs (fun _ hs=>?_)|refine zNw (fun _ _ hs=>?_)|fail)
 refine c29 (gr.up (qc hs)) (hst.up (qc hs)) hl hw hll (kNo hs (fun H2 hs=>?_));rw[h0]
 repeat' (first|refine nY (fun K0 hK0=>?_)|refine zAw ?_|refine sX hs (fun _ hs=>?_)|refine zNw (fun _ _ hs=>?_)|(refine dI (fun hc=>?_) (fun hc=>?_) <;> try (exfalso;omega))|fail)
 refine c74 (gr.up (qc hs)) (gw.up (qc hs)) (hst.up (qc hs)) hl hll h0 (fun hno H3 hn=>?_) (fun H3 ob rows M hn hlf hdm htr hfg=>?_)
 ·have hs:=qK hs hn
  clear hn
  repeat' (first|refine nY (fun K0 hK0=>?_)|refine zAw ?_|refine sX hs (fun _ hs=>?_)|refine zNw (fun _ _ hs=>?_)|(refine dI (fun hc=>?_) (fun hc=>?_) <;> try (exfalso;omega))|fail)
  refine he ?_ _ (qc hs);unfold rgtF
  cases htr:trcF t l with
  | none=>rfl
  | some tr=>exact hno tr htr
 ·have hs:=(hs.call hn (by rw[List.all_cons,List.all_append,Yr,YE];rfl))
  have hs:HS H none' ((true,ob, .cells true 1 (outC rows 0))::(true,b1,shB t alg b c d l.length)::(rwL rows++lfL M)) H3:=hs.perm ((List.perm_append_comm (l₁ := rwL rows++lfL M) (l₂ := [_])).cons _);clear hn;rw[hp,hN,Int.toNat_natCast,Int.toNat_natCast] at hdm;rw[hdm.p];have hin:=trc_in htr
  repeat' (first|refine nY (fun K0 hK0=>?_)|refine zAw ?_|refine sX hs (fun _ hs=>?_)|refine zNw (fun _ _ hs=>?_)|(refine dI (fun hc=>?_) (fun hc=>?_) <;> try (exfalso;omega))|fail)
  refine c75 (kNo hs (fun H4 hs=>?_));have hop3:joiF t.op=true->t.op≠10->op=1/\kind=1:=fun a b=>by rw[if_pos ⟨a,b⟩] at hop;exact hop
  have hop2:op=0\/op=1/\kind=1:=by split at hop <;> omega
  by_cases hj:joiF t.op=true/\t.op≠10
  case' pos =>
   rw[if_pos hj] at hop;rw[hj.1];have hj2:=hj.2
   repeat' (first|refine nY (fun K0 hK0=>?_)|refine zAw ?_|refine sX hs (fun _ hs=>?_)|refine zNw (fun _ _ hs=>?_)|(refine dI (fun hc=>?_) (fun hc=>?_) <;> try (exfalso;omega))|refine c46g hop (kNo hs (fun H5 hs=>?_))|fail)
  case' neg =>
   rw[if_neg hj] at hop;have hj3:joiF t.op=true->t.op=10:=fun e=>Decidable.byContradiction fun e2=>hj ⟨e,e2⟩
   generalize joiF t.op=jo at hj3;cases jo
   all_goals (
    first
     | have hj4:t.op=10:=hj3 rfl
     | skip
    repeat' (first|refine nY (fun K0 hK0=>?_)|refine zAw ?_|refine sX hs (fun _ hs=>?_)|refine zNw (fun _ _ hs=>?_)|(refine dI (fun hc=>?_) (fun hc=>?_) <;> try (exfalso;omega))|fail)
    try clear hj4
    clear hj3
    )
  all_goals (
   try clear hj2
   refine c76 kt (vr.up (qc hs)) hvp hvl hop2 (fun H6 m W hn hW=>?_);have hs:=hs.call hn rfl;clear hn
   repeat' (first|refine nY (fun K0 hK0=>?_)|refine zAw ?_|refine sX hs (fun _ hs=>?_)|refine zNw (fun _ _ hs=>?_)|(refine dI (fun hc=>?_) (fun hc=>?_) <;> try (exfalso;omega))|fail)
   refine⟨p,p,⟨hp,hp⟩,⟨Nat.le_refl _,by show _*(24+1)<=_;omega⟩,List.replicate p (.slice none 0 0),Yz p, ?_⟩;refine qi hs (fun H7 oo e3 l3 hs=>?_);clear e3 l3
   repeat' (first|refine nY (fun K0 hK0=>?_)|refine zAw ?_|refine sX hs (fun _ hs=>?_)|refine zNw (fun _ _ hs=>?_)|(refine dI (fun hc=>?_) (fun hc=>?_) <;> try (exfalso;omega))|fail)
   )
  all_goals (
   refine qE (α := RS) tok (fun z=>HS H none' ((true,oo, .cells true 1 (voC z.out (p-z.out.length)))::(true,m,fmV W)::(true,ob, .cells true 1 (outC rows 0))::(true,b1,shB t alg b c d l.length)::(vrL z.out++(rwL rows++lfL M))) z.H/\z.out.length<=p/\∀ (r:Nat) q,z.out[r]? = some q->q.2=outF t (cont rows) vrows r)
    (fun z=>[(1, .int .i64 op),(2, .int .i64 kind),(4, .pointer (some ⟨b1,0,none⟩)),(11,sv ob p),(13, .bool (decide (t.op=10))),(15, .map (some m)),(17,sv oo p),(78,sv oo p),(79, .int .i64 (p:Int)),(80, .int .i64 (z.out.length:Int))]) (fun z=>z.H) (fun z=>p-z.out.length)
    ⟨_,[]⟩ ⟨hs,Nat.zero_le _,fun r q hq=>by simp at hq⟩ (Or.inl ⟨⟨rfl,rfl,rfl,rfl,rfl,rfl,rfl,rfl,rfl,rfl,trivial⟩,rfl⟩) ?_
   clear hs;rintro ⟨H8,out⟩ ⟨hs,hor,hoq⟩;dsimp only at hs hor hoq ⊢;generalize hrr:out.length=r at hs hor ⊢
   repeat' (first|refine nY (fun K0 hK0=>?_)|refine zAw ?_|refine sX hs (fun _ hs=>?_)|refine zNw (fun _ _ hs=>?_)|fail)
   refine And.intro (fun hc=>?_) (fun hc=>?_)
   ·have hrp:r<p:=by have:=of_decide_eq_true hc;omega
    clear hc;obtain ⟨m1,hm1⟩ : ∃ m1,p-r=m1+1:=⟨p-r-1,by omega⟩;rw[hm1] at hs
    repeat' (first|refine nY (fun K0 hK0=>?_)|refine zAw ?_|refine sX hs (fun _ hs=>?_)|refine zNw (fun _ _ hs=>?_)|fail)
    refine c77 kt (gr.up (qc hs)) (gw.up (qc hs)) (by omega) (fun H9 kf hn=>?_);have hs:=hs.call hn rfl;clear hn;have hln:=hal_len kt (r:Int);have hfr:=fun w=>@XP t kt (r:Int) (by omega) w
    have hfu:=fun w=>@fin_u t kt (r:Int) w
    have hfh:=fun w=>@fin_has t (cont rows) hfg r (by omega) w
    rw[<- hsl,hN] at hfr
    repeat' (first|refine nY (fun K0 hK0=>?_)|refine zAw ?_|refine sX hs (fun _ hs=>?_)|refine zNw (fun _ _ hs=>?_)|fail)
    have hv:=(hs.virt (.cells true 2 (vaC []))).vset 2 rfl (B' := .cells true 1 (voC (out ++ [(H9.length,[])]) m1));have hh:WkH H9 ((H9 ++ [Blk.cells true 2 (vaC [])]).set oo (.cells true 1 (voC (out ++ [(H9.length,[])]) m1))):=WkH.set (WkH.rfl.app _) (hs.get 1 rfl) (by rw[Zn,Zn,List.length_append,List.length_singleton];omega) voC_wk
    refine qW (α := RS2) tok (fun z=>HS H none' ((true,z.k, .cells true 2 (vaC z.row))::(true,oo, .cells true 1 (voC (out ++ [(z.k,z.row)]) m1))::(true,kf, .cells true 4 (fisC (finF t (r:Int))))::(true,m,fmV W)::(true,ob, .cells true 1 (outC rows 0))::(true,b1,shB t alg b c d l.length)::(vrL out++(rwL rows++lfL M))) z.H/\z.i<=(finF t (r:Int)).length/\z.row=rowG t (cont rows) vrows (r:Int) z.i)
     (fun | ⟨_,i,k,row⟩=>[(1, .int .i64 op),(2, .int .i64 kind),(4, .pointer (some ⟨b1,0,none⟩)),(11,sv ob p),(13, .bool (decide (t.op=10))),(15, .map (some m)),(17,sv oo p),(18, .int .i64 (r:Int)),(78,sv oo p),(79, .int .i64 (p:Int)),(80, .int .i64 (r:Int)),(86,sv kf (finF t (r:Int)).length),(87, .int .i64 ((finF t (r:Int)).length:Int)),(88, .int .i64 (i:Int))]) (fun | ⟨H',_,_,_⟩=>H') (fun z=>(finF t (r:Int)).length-z.i)
     ⟨_,0,H9.length,[]⟩ ⟨hv.pickR (A := [_,_,_,_,_,_]) (R:=vrL out++(rwL rows++lfL M)) [0,2,1,3,4,5] (by decide) (A' := [_,_,_,_,_,_]) rfl,Nat.zero_le _,by dsimp only;unfold rowG;split <;> rfl⟩ ⟨⟨_,rfl, .rfl⟩,⟨_,rfl, .rfl⟩,⟨_,rfl, .rfl⟩,⟨_,rfl, .rfl⟩,⟨_,rfl, .rfl⟩,⟨_,rfl, .rfl⟩,⟨_,rfl, .rfl⟩,⟨_,rfl, .rfl⟩,⟨_,rfl, .rfl⟩,⟨_,rfl, .rfl⟩,⟨_,rfl, .rfl⟩,⟨_,rfl, .rfl⟩,⟨_,rfl, .rfl⟩,⟨_,rfl, .rfl⟩,trivial⟩ hh ?_
    clear hs hv hh;rintro ⟨H10,i,k,row⟩ ⟨hs,hi,hrow⟩;dsimp only at hs hi hrow ⊢;have hrl:=rowG_len (t:=t) (cont rows) vrows (r:Int) i;rw[<- hrow] at hrl
    repeat' (first|refine nY (fun K0 hK0=>?_)|refine zAw ?_|refine sX hs (fun _ hs=>?_)|refine zNw (fun _ _ hs=>?_)|fail)
    refine And.intro (fun hc=>?_) (fun hc=>?_)
    ·have hil:i<(finF t (r:Int)).length:=by have:=of_decide_eq_true hc;omega
     clear hc;have hwm:(finF t (r:Int))[i]! ∈ finF t (r:Int):=getElem!_pos (finF t (r:Int)) i hil ▸ List.getElem_mem hil;have hws:=hfr _ hwm;have hwu:=hfu _ hwm;have hwh:=hfh _ hwm
     have hng:t.op≠10->rowG t (cont rows) vrows (r:Int) (i+1)=rowG t (cont rows) vrows (r:Int) i ++ [fnlF t (cont rows) vrows (r:Int) (finF t (r:Int))[i]!]:=fun e=>by
      unfold rowG;rw[if_neg e,if_neg e,List.take_succ_eq_append_getElem hil,List.map_append,getElem!_pos _ i hil];rfl
     have hnb:t.op=10->rowG t (cont rows) vrows (r:Int) (i+1)=rowG t (cont rows) vrows (r:Int) i:=fun e=>by
      unfold rowG;rw[if_pos e,if_pos e]
     repeat' (first|refine nY (fun K0 hK0=>?_)|refine zAw ?_|refine sX hs (fun _ hs=>?_)|refine zNw (fun _ _ hs=>?_)|fail)
     refine seg_fi hil ?_;generalize hw2:(finF t (r:Int))[i]! = w at hws hwu hwh hng ⊢;obtain ⟨ws,wr,wf,wu⟩:=w;dsimp only at hws hwu hwh ⊢;obtain ⟨s,rfl⟩ : ∃ s:Nat,ws=s:=⟨ws.toNat,by omega⟩;obtain ⟨q,e,a1,a2,a3,a4,a5,a6,a7⟩:=hdm.at (r:=(r:Int)) (s:=(s:Int)) (by omega) hws;rw[Int.toNat_natCast] at a1 a2;have ho2:=xZ rows 0 r q a1;rw[a5] at ho2;have hen:e.2≠[]:=by rw[<- a7];exact has_ne hpr.1 hwh
     have hr2:(rowC q.2)[s]? = some (sv e.1 e.2.length):=by rw[<- zL hen];unfold rowC;rw[List.getElem?_map,a2];rfl
     have hov:(voC (out ++ [(k,row)]) m1)[r]? = some (sv k row.length):=voC_get _ _ _ (k,row) (by rw[List.getElem?_append_right (by omega),hrr,Nat.sub_self];rfl);have hie:InL t e.2:=by rw[<- a7];exact XJ hin _ _
     repeat' (first|refine nY (fun K0 hK0=>?_)|refine zAw ?_|refine sX hs (fun _ hs=>?_)|refine zNw (fun _ _ hs=>?_)|fail)
     rename Nat=>tw
     have hs:=hs.pickR (A := [_,_,_,_,_,_,_]) (R:=vrL out++(rwL rows++lfL M)) [0,1,2,3,4,5,6] (by decide) (A' := [(true,tw, .cells true 1 (fiC ⟨s,wr,wf,wu⟩)),_,_,_,_,_,_]) rfl;have hb2:=hs.mem (c:=true) (b:=q.1) (B:=rowB q.2) (List.mem_append_right _ (List.mem_append_right _ (List.mem_append_left _ (QF a3))));refine zg tok mx [0,0,3,7,0,16,63,127,255,0] [false,false,false,false,true,true,false,false,false,true] [0,1,2,3,4,5,6,7,8,9] (by kernel_rfl) ?_;refine wK (fun K0 hK0=>?_)
     repeat' (first|refine nY (fun K0 hK0=>?_)|refine zAw ?_|refine sX hs (fun _ hs=>?_)|refine zNw (fun _ _ hs=>?_)|fail)
     iterate 10 (
      all_goals try exact trivial
      all_goals try (first | refine xu ho2 ?_ | refine xu hr2 ?_ | refine qH hb2 ?_ | refine qG hb2 ?_)
      all_goals try (
       repeat' (first|refine nY (fun K0 hK0=>?_)|refine zAw ?_|refine sX hs (fun _ hs=>?_)|refine zNw (fun _ _ hs=>?_)|fail)
       ))
     have hel:(true,e.1,ogB e.2)∈lfL M:=ZR (hlf q a3 e a4 hen)
     refine qW (α := RS3) tok (fun z=>HS H none' ((true,z.k, .cells true 2 (vaC z.vals))::(true,tw, .cells true 1 (fiC ⟨s,wr,wf,wu⟩))::(true,k, .cells true 2 (vaC row))::(true,oo, .cells true 1 (voC (out ++ [(k,row)]) m1))::(true,kf, .cells true 4 (fisC (finF t (r:Int))))::(true,m,fmV W)::(true,ob, .cells true 1 (outC rows 0))::(true,b1,shB t alg b c d l.length)::(vrL out++(rwL rows++lfL M))) z.H/\z.vals.length<=e.2.length/\z.vals=(e.2.take z.vals.length).map (valF t vrows))
      (fun | ⟨_,kv,vals⟩=>[(1, .int .i64 op),(2, .int .i64 kind),(4, .pointer (some ⟨b1,0,none⟩)),(11,sv ob p),(13, .bool (decide (t.op=10))),(15, .map (some m)),(17,sv oo p),(18, .int .i64 (r:Int)),(20, .pointer (some ⟨tw,0,none⟩)),(21,sv kv vals.length),(78,sv oo p),(79, .int .i64 (p:Int)),(80, .int .i64 (r:Int)),(86,sv kf (finF t (r:Int)).length),(87, .int .i64 ((finF t (r:Int)).length:Int)),(88, .int .i64 (i:Int)),(99,sv e.1 e.2.length),(100, .int .i64 (e.2.length:Int)),(101, .int .i64 (vals.length:Int))]) (fun | ⟨H',_,_⟩=>H') (fun z=>e.2.length-z.vals.length)
      ⟨_,_,[]⟩ ⟨hs.virt (.cells true 2 (vaC [])),Nat.zero_le _,rfl⟩ ⟨⟨_,rfl, .rfl⟩,⟨_,rfl, .rfl⟩,⟨_,rfl, .rfl⟩,⟨_,rfl, .rfl⟩,⟨_,rfl, .rfl⟩,⟨_,rfl, .rfl⟩,⟨_,rfl, .rfl⟩,⟨_,rfl, .rfl⟩,⟨_,rfl, .rfl⟩,⟨_,rfl, .nil _⟩,⟨_,rfl, .rfl⟩,⟨_,rfl, .rfl⟩,⟨_,rfl, .rfl⟩,⟨_,rfl, .rfl⟩,⟨_,rfl, .rfl⟩,⟨_,rfl, .rfl⟩,⟨_,rfl, .rfl⟩,⟨_,rfl, .rfl⟩,⟨_,rfl, .rfl⟩,trivial⟩ (WkH.rfl.app _) ?_
     clear hs hb2;rintro ⟨H11,kv,vals⟩ ⟨hs,hvl2,hvals⟩;dsimp only at hs hvl2 hvals ⊢;generalize hj0:vals.length=j at hs hvl2 hvals ⊢
     repeat' (first|refine nY (fun K0 hK0=>?_)|refine zAw ?_|refine sX hs (fun _ hs=>?_)|refine zNw (fun _ _ hs=>?_)|fail)
     refine And.intro (fun hc=>?_) (fun hc=>?_)
     ·have hje:j<e.2.length:=by have:=of_decide_eq_true hc;omega
      clear hc
      have hbe:=hs.mem (c:=true) (b:=e.1) (B:=ogB e.2) (by
       repeat (refine List.mem_cons_of_mem _ ?_)
       exact List.mem_append_right _ (List.mem_append_right _ hel))
      repeat' (first|refine nY (fun K0 hK0=>?_)|refine zAw ?_|refine sX hs (fun _ hs=>?_)|refine zNw (fun _ _ hs=>?_)|fail)
      refine qH hbe ⟨j,rfl,by omega, ?_⟩
      repeat' (first|refine nY (fun K0 hK0=>?_)|refine zAw ?_|refine sX hs (fun _ hs=>?_)|refine zNw (fun _ _ hs=>?_)|fail)
      refine qG hbe (seg_og hje ?_);obtain ⟨hi1,hi2,hi3⟩:=hie e.2[j]! (by rw[getElem!_pos e.2 j hje];exact List.getElem_mem hje);have hwk:=wok_get hW (o:=e.2[j]!) ⟨hi1,by omega⟩ hi3
      have htk:(e.2.take (j+1)).map (valF t vrows)=vals ++ [valF t vrows e.2[j]!]:=by
       rw[take_snoc hje,List.map_append,<- hvals];rfl
      generalize e.2[j]! = og at hwk htk ⊢;obtain ⟨og1,og2⟩:=og;generalize valF t vrows (og1,og2)=vx at hwk htk
      repeat' (first|refine nY (fun K0 hK0=>?_)|refine zAw ?_|refine sX hs (fun _ hs=>?_)|refine zNw (fun _ _ hs=>?_)|fail)
      refine Vz (hs.get 6 rfl) (keyK105 (mfind_F (fun j' w' hw' ew=>?_) (fun hno=>?_)))
      ·have hwv:=hwk.2 w' (List.mem_of_getElem? hw') ew
       refine⟨_,efV_at hw', ?_⟩;rw[hwv]
       repeat' (first|refine nY (fun K0 hK0=>?_)|refine zAw ?_|refine sX hs (fun _ hs=>?_)|refine zNw (fun _ _ hs=>?_)|fail)
       refine wz hs 2 (us := [.int .u64 vx, .int .i64 0]) rfl (by decide) (hs.get 0 rfl) rfl rfl (by show (vaC vals).length=j*2;rw[yV,hj0]) (by show (j+1)*(16+1)<=_;omega) (fun H12 kv' e4 l4 hs=>?_);clear e4 l4
       repeat' (first|refine nY (fun K0 hK0=>?_)|refine zAw ?_|refine sX hs (fun _ hs=>?_)|refine zNw (fun _ _ hs=>?_)|fail)
       have hj1:(vals ++ [vx]).length=j+1:=by rw[List.length_append,List.length_singleton,hj0]
       refine⟨⟨_,kv',vals ++ [vx]⟩,⟨?_,by dsimp only;omega,by dsimp only;rw[hj1];exact htk.symm⟩,by dsimp only;omega,Or.inl ⟨⟨rfl,rfl,rfl,rfl,rfl,rfl,rfl,rfl,rfl,by dsimp only;rw[hj1];rfl,rfl,rfl,rfl,rfl,rfl,rfl,rfl,rfl,by dsimp only;rw[hj1];rfl,trivial⟩,rfl⟩⟩;dsimp only;rw[yX];exact hs.pickR (A := [_,_,_,_,_,_,_,_,_,_]) (R:=vrL out++(rwL rows++lfL M)) [2,3,4,5,6,7,8,9] (by decide) (A' := [_,_,_,_,_,_,_,_]) rfl
      ·obtain ⟨w',hw',ew⟩:=hwk.1
       exact absurd ew (hno w' hw')
     ·have hje:j=e.2.length:=by have:=of_decide_eq_false hc;omega
      clear hc;subst hje;rw[List.take_length] at hvals;have h0l:0<e.2.length:=List.length_pos_iff.2 hen;by_cases hb:t.op=10
      ·rw[decide_eq_true hb]
       repeat' (first|refine nY (fun K0 hK0=>?_)|refine zAw ?_|refine sX hs (fun _ hs=>?_)|refine zNw (fun _ _ hs=>?_)|(refine dI (fun hc=>?_) (fun hc=>?_) <;> try (exfalso;omega))|fail)
       exact⟨⟨_,i+1,k,row⟩,⟨hs.pickR (A := [_,_,_,_,_,_,_,_]) (R:=vrL out++(rwL rows++lfL M)) [2,3,4,5,6,7] (by decide) (A' := [_,_,_,_,_,_]) rfl,hil,by dsimp only;rw[hnb hb];exact hrow⟩,by dsimp only;omega,Or.inl ⟨⟨rfl,rfl,rfl,rfl,rfl,rfl,rfl,rfl,rfl,rfl,rfl,rfl,rfl,rfl,trivial⟩,rfl⟩⟩
      ·rw[decide_eq_false hb]
       have hwu2:=fun h=>hop3 (hwu h) hb
       have hng2:=hng hb
       obtain ⟨x,rest,hxr⟩ : ∃ x rest,vals=x::rest:=by
        cases hvc:vals with
        | nil=>rw[hvc] at hj0;exact absurd (List.length_eq_zero_iff.1 hj0.symm) hen
        | cons x rest=>exact⟨x,rest,rfl⟩
       have hfv:fnlF t (cont rows) vrows (r:Int) ⟨s,wr,wf,wu⟩=if 0<=wu then redF vals else x:=by
        unfold fnlF;dsimp only;rw[a7,<- hvals];split
        ·rfl
        ·have hx0:x=vals[0]! := by rw[hxr];rfl
         rw[hx0,hvals,getElem!_pos _ 0 h0l,getElem!_pos _ 0 (by rw[List.length_map];exact h0l),List.getElem_map]
       by_cases hu:0<=wu
       ·have hw1:=hwu2 hu
        first
         | (exfalso;omega)
         | (
           rw[if_pos hu] at hfv
           repeat' (first|refine nY (fun K0 hK0=>?_)|refine zAw ?_|refine sX hs (fun _ hs=>?_)|refine zNw (fun _ _ hs=>?_)|((refine dI (fun hc=>?_) (fun hc=>?_)) <;> (try dsimp only at hc) <;> (try (exfalso;omega)))|fail)
           refine c45g (hwu2 hu) hj0 (hs.get 0 rfl) (List.length_pos_iff.2 hen) (by omega) (kNo hs (fun H12 hs=>?_));generalize redF vals=v at hfv;subst hxr
           repeat' (first|refine nY (fun K0 hK0=>?_)|refine zAw ?_|refine sX hs (fun _ hs=>?_)|refine zNw (fun _ _ hs=>?_)|((refine dI (fun hc=>?_) (fun hc=>?_)) <;> (try dsimp only at hc) <;> (try (exfalso;omega)))|fail)
           have hs:=hs.pickR (A := [_,_,_,_,_,_,_,_,_]) (R:=vrL out++(rwL rows++lfL M)) [1,2,3,4,5,6,7,8] (by decide) (A' := [(true,kv, .cells true 2 (vaC (v::rest))),_,_,_,_,_,_,_]) rfl;refine zg tok mx [0,0,0,0,12,28,0,64,192,448,1020,2047,4095] [false,false,false,false,false,false,true,true,true,true,false,false,false] [0,1,2,3,4,5,6,7,8,9,10,11,12] (by kernel_rfl) ?_;refine wK (fun K0 hK0=>?_)
           repeat' (first|refine nY (fun K0 hK0=>?_)|refine zAw ?_|refine sX hs (fun _ hs=>?_)|refine zNw (fun _ _ hs=>?_)|fail)
           iterate 8 (
            all_goals try exact trivial
            all_goals try (first | refine xu hov ?_ | exact trivial)
            all_goals try (
             repeat' (first|refine nY (fun K0 hK0=>?_)|refine zAw ?_|refine sX hs (fun _ hs=>?_)|refine zNw (fun _ _ hs=>?_)|fail)
             ))
           refine wz hs 3 (us := [.int .u64 v, .int .i64 0]) rfl (by decide) (hs.get 0 rfl) rfl rfl (by show (vaC row).length=row.length*2;exact yV row) (by show (row.length+1)*(16+1)<=_;omega) (fun H13 k2 e4 l4 hs=>?_);clear e4 l4
           repeat' (first|refine nY (fun K0 hK0=>?_)|refine zAw ?_|refine sX hs (fun _ hs=>?_)|refine zNw (fun _ _ hs=>?_)|fail)
           have hr1:(row ++ [v]).length=row.length+1:=by rw[List.length_append,List.length_singleton]
           refine vz hs 4 rfl (voC (out ++ [(k2,row ++ [v])]) m1) rfl rfl (by rw[Zn,List.length_append,List.length_singleton];show 0+r*1+1<=_;omega) (voC_set hrr hr1) (fun H14 e14 hs=>?_);clear e14
           repeat' (first|refine nY (fun K0 hK0=>?_)|refine zAw ?_|refine sX hs (fun _ hs=>?_)|refine zNw (fun _ _ hs=>?_)|fail)
           refine⟨⟨_,i+1,k2,row ++ [v]⟩,⟨?_,hil,by dsimp only;rw[hng2,hfv,<- hrow]⟩,by dsimp only;omega,Or.inl ⟨⟨rfl,rfl,rfl,rfl,rfl,rfl,rfl,rfl,rfl,rfl,rfl,rfl,rfl,rfl,trivial⟩,rfl⟩⟩;dsimp only;rw[yX];exact hs.pickR (A := [_,_,_,_,_,_,_,_,_]) (R:=vrL out++(rwL rows++lfL M)) [3,4,5,6,7,8] (by decide) (A' := [_,_,_,_,_,_]) rfl
           )
       ·first
         | (exfalso;omega)
         | (
           rw[if_neg hu] at hfv;subst hxr
           repeat' (first|refine nY (fun K0 hK0=>?_)|refine zAw ?_|refine sX hs (fun _ hs=>?_)|refine zNw (fun _ _ hs=>?_)|((refine dI (fun hc=>?_) (fun hc=>?_)) <;> (try dsimp only at hc) <;> (try (exfalso;omega)))|fail)
           refine zg tok mx [0,0,0,0,12,28,0,64,192,448,1020,2047,4095] [false,false,false,false,false,false,true,true,true,true,false,false,false] [0,1,2,3,4,5,6,7,8,9,10,11,12] (by kernel_rfl) ?_;refine wK (fun K0 hK0=>?_)
           repeat' (first|refine nY (fun K0 hK0=>?_)|refine zAw ?_|refine sX hs (fun _ hs=>?_)|refine zNw (fun _ _ hs=>?_)|fail)
           iterate 8 (
            all_goals try exact trivial
            all_goals try (first | refine xu hov ?_ | exact trivial)
            all_goals try (
             repeat' (first|refine nY (fun K0 hK0=>?_)|refine zAw ?_|refine sX hs (fun _ hs=>?_)|refine zNw (fun _ _ hs=>?_)|fail)
             ))
           refine wz hs 3 (us := [.int .u64 x, .int .i64 0]) rfl (by decide) (hs.get 0 rfl) rfl rfl (by show (vaC row).length=row.length*2;exact yV row) (by show (row.length+1)*(16+1)<=_;omega) (fun H13 k2 e4 l4 hs=>?_);clear e4 l4
           repeat' (first|refine nY (fun K0 hK0=>?_)|refine zAw ?_|refine sX hs (fun _ hs=>?_)|refine zNw (fun _ _ hs=>?_)|fail)
           have hr1:(row ++ [x]).length=row.length+1:=by rw[List.length_append,List.length_singleton]
           refine vz hs 4 rfl (voC (out ++ [(k2,row ++ [x])]) m1) rfl rfl (by rw[Zn,List.length_append,List.length_singleton];show 0+r*1+1<=_;omega) (voC_set hrr hr1) (fun H14 e14 hs=>?_);clear e14
           repeat' (first|refine nY (fun K0 hK0=>?_)|refine zAw ?_|refine sX hs (fun _ hs=>?_)|refine zNw (fun _ _ hs=>?_)|fail)
           refine⟨⟨_,i+1,k2,row ++ [x]⟩,⟨?_,hil,by dsimp only;rw[hng2,hfv,<- hrow]⟩,by dsimp only;omega,Or.inl ⟨⟨rfl,rfl,rfl,rfl,rfl,rfl,rfl,rfl,rfl,rfl,rfl,rfl,rfl,rfl,trivial⟩,rfl⟩⟩;dsimp only;rw[yX];exact hs.pickR (A := [_,_,_,_,_,_,_,_,_]) (R:=vrL out++(rwL rows++lfL M)) [3,4,5,6,7,8] (by decide) (A' := [_,_,_,_,_,_]) rfl
           )
    ·have hil:i=(finF t (r:Int)).length:=by have:=of_decide_eq_false hc;omega
     subst hil;rw[rowG_all] at hrow;have hm2:m1=p-(r+1):=by omega
     have hl1:(out ++ [(k,row)]).length=r+1:=by rw[List.length_append,List.length_singleton,hrr]
     repeat' (first|refine nY (fun K0 hK0=>?_)|refine zAw ?_|refine sX hs (fun _ hs=>?_)|refine zNw (fun _ _ hs=>?_)|fail)
     refine⟨⟨_,out ++ [(k,row)]⟩,⟨?_,by dsimp only;omega,fun r2 q hq=>?_⟩,by dsimp only;omega,Or.inl ⟨⟨rfl,rfl,rfl,rfl,rfl,rfl,rfl,rfl,rfl,by dsimp only;rw[hl1];rfl,trivial⟩,rfl⟩⟩
     ·dsimp only
      rw[hl1,<- hm2,vrL_snoc,List.append_assoc];have:=hs.pickR (A := [_,_,_,_,_,_]) (R:=vrL out++(rwL rows++lfL M)) [1,3,4,5,0] (by decide) (A' := [_,_,_,_,(true,k, .cells true 2 (vaC row))]) rfl;exact HS.toEnd (A := [_,_,_,_]) this
     ·dsimp only at hq
      rcases Nat.lt_or_ge r2 r with h2 | h2
      ·rw[List.getElem?_append_left (by omega)] at hq
       exact hoq r2 q hq
      ·rw[List.getElem?_append_right (by omega),hrr] at hq
       have h3:r2-r=0:=by
        have:=(List.getElem?_eq_some_iff.1 hq).1;simp at this;omega
       rw[h3] at hq;cases hq;have:r2=r:=by omega
       rw[this];exact hrow
   ·have hrp:r=p:=by have:=of_decide_eq_false hc;omega
    subst hrp;rw[Nat.sub_self] at hs
    repeat' (first|refine nY (fun K0 hK0=>?_)|refine zAw ?_|refine sX hs (fun _ hs=>?_)|refine zNw (fun _ _ hs=>?_)|fail)
    have hs:=hs.pickR (A := [_,_,_,_]) (R:=vrL out++(rwL rows++lfL M)) [0] (by decide) (A' := [_]) rfl;have e0:voC out 0=vrC out:=by unfold voC;simp
    rw[e0] at hs;rw[<- hrr]
    exact h _ oo out _ (hs.left (L:=(true,oo, .cells true 1 (vrC out))::vrL out)) htr hfg (by omega) hoq)
end Go.Af.Tryz
