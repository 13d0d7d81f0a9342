/-
  What a schedule asks for (demands), plainly.
  A set of origins in memory.
  What a schedule asks for (demands), as a call whose own four calls are premises.
-/
import Derived.Test.YtgdbclgcbbbenaaGreatMGL
import Derived.Test.YtgdbclgcbbbenaaGreatMPH
import Derived.Test.YtgdbclgcbbbenaaGreatMPD
import Derived.Test.YtgdbclgcbbbenaaGreatMCA
set_option linter.all false
namespace Go.Af.Tryz
open Go Go.Proofs Go.Af.Pl Co
set_option maxRecDepth 100000
def newF (r:Int):List Og->List Og->List Og
 | _,[]=>[]
 | seen,o::l=>if o.1≠r/\o ∉ seen then o::newF r (o::seen) l else newF r seen l
def demS (r s:Int) (l:List Og):List (List Int):=(newF r [] l).map (fun o=>[o.1,o.2,r,s])
def demR (X:List (List (List Og))) (fin:Nat->List Int) (r:Nat):List (List Int):=(fin r).flatMap (fun s=>demS r s ((X[r]!)[s.toNat]!))
def demX (X:List (List (List Og))) (fin:Nat->List Int):List (List Int):=(List.range X.length).flatMap (demR X fin)
theorem demX_succ (X:List (List (List Og))) (fin:Nat->List Int) (k:Nat):(List.range (k+1)).flatMap (demR X fin)=(List.range k).flatMap (demR X fin)++demR X fin k:=by
 rw[List.range_succ,List.flatMap_append];simp
end Go.Af.Tryz
namespace Go.Af.Tryz
open Go Go.Proofs Go.Af.Pl Co
set_option maxRecDepth 100000
set_option maxHeartbeats 4000000
theorem ht145:Tryz.prog.underlying 145=some (.struct (Tryz.prog.fieldsOf 145)):=by kernel_rfl
theorem mk145:MKey Tryz.prog 145 [.i64, .i64]:=xu ht145 (by kernel_rfl) (by kernel_rfl) (xB (by kernel_rfl))
theorem kt145:KeyT Tryz.prog T 145 2:=⟨fun H a b K ha hb h=>by
 match a,b,ha,hb with
 | [x,y],[x',y'],_,_=>exact⟨[.i64, .i64],mk145,h⟩,fun a K ha h=>by
 match a,ha with
 | [x,y],_=>exact⟨[.i64, .i64],mk145,h⟩⟩
def oI (o:Og):List Int := [o.1,o.2]
theorem oI_inj {a b:Og} (h:oI a=oI b):a=b:=by
 cases a;cases b
 simp only[oI,List.cons.injEq,and_true] at h
 rw[h.1,h.2]
def entO (W:List Og):List MapEntry:=W.mapIdx fun i o=>⟨.agg ⟨ints (oI o)⟩, .bool true,i⟩
abbrev mpO (W:List Og):Blk := .map true (entO W) W.length
theorem entO_get {W:List Og} {j:Nat} {e:MapEntry} (h:(entO W)[j]? = some e) : ∃ o,W[j]? = some o/\e=⟨.agg ⟨ints (oI o)⟩, .bool true,j⟩:=by
 unfold entO at h
 rw[List.getElem?_mapIdx] at h
 cases hw:W[j]? with
 | none=>rw[hw] at h;cases h
 | some p=>rw[hw] at h;cases h;exact⟨p,rfl,rfl⟩
theorem entO_at {W:List Og} {j:Nat} {o:Og} (h:W[j]? = some o):(entO W)[j]? = some ⟨.agg ⟨ints (oI o)⟩, .bool true,j⟩:=by
 unfold entO
 rw[List.getElem?_mapIdx,h];rfl
theorem entO_snoc (W:List Og) (a:Og):entO W ++ [⟨.agg ⟨ints (oI a)⟩, .bool true,W.length⟩]=entO (W ++ [a]):=by unfold entO;rw[List.mapIdx_append];simp
theorem mfind_O {H:List Blk} {W:List Og} {a:Og} {K:Option Nat->Prop} (h1 : ∀ j,W[j]? = some a->K (some j)) (h0:a ∉ W->K none):vX Tryz.prog T H 145 (.agg ⟨ints (oI a)⟩) (entO W) 0 K:=by
 refine mfind_l (fun e=>decide (oI a=keyInts e.key)) _ _ (fun e he K' hk=>?_) (fun j e hj ht _=>?_) (fun hn=>h0 (fun hm=>?_))
 ·obtain ⟨j,hj⟩:=List.getElem?_of_mem he
  obtain ⟨p,_,rfl⟩:=entO_get hj
  rw[wL] at hk
  exact kt145.eq _ _ _ _ rfl rfl hk
 ·obtain ⟨p,hp,rfl⟩:=entO_get hj
  rw[wL] at ht
  have hap:a=p:=oI_inj (of_decide_eq_true ht)
  rw[Nat.zero_add]
  exact h1 j (by rw[hp,hap])
 ·obtain ⟨j,hj⟩:=List.getElem?_of_mem hm
  have:=hn _ (List.mem_of_getElem? (entO_at hj))
  rw[wL] at this
  exact of_decide_eq_false this rfl
theorem look_O {H:List Blk} {m n:Nat} {wr:Bool} {W:List Og} {a:Og} {K:Value->Prop} (hm:bget H m=some (.map wr (entO W) n)) (h:K (.bool (decide (a∈W)))) :
 zD H m (fun es=>keyK Tryz.prog T 145 (.agg ⟨ints (oI a)⟩) (vX Tryz.prog T H 145 (.agg ⟨ints (oI a)⟩) es 0 (fun r=>lkK false (.bool false) es r K))):=by
 refine rdMap_of hm (kt145.ok _ _ rfl (mfind_O (fun j hj=>?_) (fun hn=>?_)))
 ·refine⟨_,entO_at hj, ?_⟩
  rw[decide_eq_true (List.mem_of_getElem? hj)] at h
  exact h
 ·rw[decide_eq_false hn] at h
  exact h
theorem upd_O {H0 H:List Blk} {o:Nat->Prop} {L:List (Bool × Nat × Blk)} (hs:HS H0 o L H) (i:Nat) {m:Nat} {W:List Og} {a:Og} {K:List Blk->Prop} (hi:L[i]? = some (true,m,mpO W)) (hn:a ∉ W) (k : ∀ H',HS H0 o (L.set i (true,m,mpO (W ++ [a]))) H' -> K H') :
 wS H m (fun es clock=>keyK Tryz.prog T 145 (.agg ⟨ints (oI a)⟩) (vX Tryz.prog T H 145 (.agg ⟨ints (oI a)⟩) es 0 (fun r=>match r with
  | some p=>ww H m (.map true (es.modify p (fun e=>{ e with key := .agg ⟨ints (oI a)⟩,val := .bool true })) clock) K
  | none=>ww H m (.map true (es ++ [⟨.agg ⟨ints (oI a)⟩, .bool true,clock⟩]) (clock+1)) K))):=by
 refine zH (hs.get i hi) (kt145.ok _ _ rfl (mfind_O (fun j hj=>absurd (List.mem_of_getElem? hj) hn) (fun _=>?_)))
 refine wJ (hs.lt i hi) (fun H' h1 h2 h3=>k H' ?_)
 rw[entO_snoc] at h2
 refine hs.set i hi h1 ?_ h3
 rw[h2];simp
end Go.Af.Tryz
namespace Go.Af.Tryz
open Go Go.Proofs Go.Af.Pl Co
set_option maxRecDepth 100000
set_option maxHeartbeats 4000000
attribute [local irreducible] awp qi qw qH qy qx isCells qo qj qI qG ql roundEnd zD wS keyK vX zL xh

theorem newF_snoc (r:Int) (o:Og) : ∀ (l seen:List Og),newF r seen (l ++ [o])=newF r seen l++(if o.1≠r/\o ∉ seen/\o ∉ newF r seen l then [o] else [])
 | [],seen=>by
   simp only[List.nil_append,newF,List.not_mem_nil,not_false_eq_true,and_true]
 | x::l,seen=>by
   rw[List.cons_append,newF,newF]
   split
   ·rename_i h
    rw[newF_snoc r o l (x::seen),List.cons_append]
    congr 2
    have e:(o.1≠r/\o ∉ x::seen/\o ∉ newF r (x::seen) l)=(o.1≠r/\o ∉ seen/\o ∉ x::newF r (x::seen) l):=by
     simp only[List.mem_cons,not_or,ne_eq,eq_iff_iff]
     constructor
     ·rintro ⟨h1,⟨h2,h3⟩,h4⟩;exact⟨h1,h3,h2,h4⟩
     ·rintro ⟨h1,h3,h2,h4⟩;exact⟨h1,⟨h2,h3⟩,h4⟩
    simp only[e]
   ·rw[newF_snoc r o l seen]
theorem newF_len (r:Int) : ∀ (l seen:List Og),(newF r seen l).length<=l.length
 | [],_=>Nat.le_refl _
 | x::l,seen=>by
   rw[newF]
   split
   ·have:=newF_len r l (x::seen);simp only[List.length_cons];omega
   ·have:=newF_len r l seen;simp only[List.length_cons];omega
def demO (r s:Int) (W:List Og):List (List Int):=W.map (fun o=>[o.1,o.2,r,s])
abbrev deB (O:List (List Int)):Blk := .cells true 4 (flC O)
theorem demS_len (r s:Int) (l:List Og):(demS r s l).length<=l.length:=by
 unfold demS;rw[List.length_map];exact newF_len r l []
theorem dem4 {X:List (List (List Og))} {fin:Nat->List Int} {n:Nat} : ∀ x∈(List.range n).flatMap (demR X fin),x.length=4:=fun x hx=>by
 obtain ⟨r,_,hx⟩:=List.mem_flatMap.1 hx
 obtain ⟨s,_,hx⟩:=List.mem_flatMap.1 hx
 obtain ⟨o,_,rfl⟩:=List.mem_map.1 hx
 rfl
def demP (X:List (List (List Og))) (fin:Nat->List Int) (r i:Nat):List (List Int):=(List.range r).flatMap (demR X fin)++((fin r).take i).flatMap (fun s=>demS r s ((X[r]!)[s.toNat]!))
theorem demP_zero (X:List (List (List Og))) (fin:Nat->List Int) (r:Nat):demP X fin r 0=(List.range r).flatMap (demR X fin):=by simp[demP]
theorem demP_full (X:List (List (List Og))) (fin:Nat->List Int) (r:Nat):demP X fin r (fin r).length=demP X fin (r+1) 0:=by
 rw[demP_zero,demX_succ,demP,List.take_length];rfl
theorem demP_succ (X:List (List (List Og))) (fin:Nat->List Int) (r i:Nat) (h:i<(fin r).length):demP X fin r (i+1)=demP X fin r i++demO r (fin r)[i]! (newF r [] ((X[r]!)[((fin r)[i]!).toNat]!)):=by
 unfold demP
 rw[List.take_succ_eq_append_getElem h,<- getElem!_pos (fin r) i h,List.flatMap_append,<- List.append_assoc]
 simp[demS,demO]
theorem demP4 {X:List (List (List Og))} {fin:Nat->List Int} {r i:Nat} : ∀ x∈demP X fin r i,x.length=4:=fun x hx=>by
 rcases List.mem_append.1 hx with hx | hx
 ·exact dem4 x hx
 ·obtain ⟨s,_,hx⟩:=List.mem_flatMap.1 hx
  obtain ⟨o,_,rfl⟩:=List.mem_map.1 hx
  rfl
theorem dim_le {rows:List (Nat × Rw)} {p n:Nat} (d:Dim rows p n) (r s:Nat):(((cont rows)[r]!)[s]!).length<=128:=by
 by_cases hr:r<rows.length
 ·have hr2:r<(cont rows).length:=by unfold cont;simpa using hr
  have e:(cont rows)[r]! = rows[r].2.map Prod.snd:=by rw[getElem!_pos (cont rows) r hr2];simp[cont]
  rw[e]
  by_cases hs:s<rows[r].2.length
  ·rw[getElem!_pos _ s (by simpa using hs),List.getElem_map]
   exact d.l _ (List.getElem_mem hr) _ (List.getElem_mem hs)
  ·rw[getElem!_neg _ s (by simpa using hs)];exact Nat.zero_le _
 ·have hr2 : ¬ r<(cont rows).length:=by unfold cont;simpa using hr
  rw[getElem!_neg (cont rows) r hr2]
  exact Nat.zero_le _
theorem demP_len {X:List (List (List Og))} {fin:Nat->List Int} {p:Nat} (hp:p<=1000) (hfl : ∀ r,r<p->(fin r).length<=100000) (hx : ∀ r s:Nat,((X[r]!)[s]!).length<=128) (r:Nat) (hr:r<=p) (i:Nat):(demP X fin r i).length<=r*12800000+i*128:=by
 have one : ∀ (q:Nat) (l:List Int),(l.flatMap (fun s=>demS q s ((X[q]!)[s.toNat]!))).length<=l.length*128:=by
  intro q l
  induction l with
  | nil=>exact Nat.zero_le _
  | cons s l ih =>
    rw[List.flatMap_cons,List.length_append,List.length_cons]
    have:=demS_len q s ((X[q]!)[s.toNat]!)
    have:=hx q s.toNat
    omega
 have all : ∀ q,q<=p->((List.range q).flatMap (demR X fin)).length<=q*12800000:=by
  intro q hq
  induction q with
  | zero=>exact Nat.zero_le _
  | succ q ih =>
    rw[demX_succ,List.length_append]
    have a:=ih (by omega)
    have b:=one q (fin q)
    have c:=hfl q (by omega)
    have d:(demR X fin q).length=((fin q).flatMap (fun s=>demS q s ((X[q]!)[s.toNat]!))).length:=rfl
    omega
 unfold demP
 rw[List.length_append]
 have a:=all r hr
 have b:=one r ((fin r).take i)
 have c:((fin r).take i).length<=i:=by rw[List.length_take];exact Nat.min_le_left _ _
 omega
theorem c63 {H:List Blk} {x0 x1 x2 x3:Int} {p4 p5:Option Addr} {n4 k4 n5 k5:Nat} {a0:Int} {ar:List Int} {L:List Coll.St} {X:List (List (List Og))} {fin:Nat->List Int} {p n:Nat} {R:Value->List Blk->Prop}
 (hp:p<=1000) (hX:X.length=p) (hfl : ∀ r,r<p->(fin r).length<=100000) (hfr : ∀ r,r<p->∀ s∈fin r,0<=s/\s<n)
 (hA : ∀ H' R,HS H none' [] H' -> (∀ H'' k,HS H' none' [(true,k,rw' (a0::ar))] H'' -> R (.tuple ⟨[sv k (ar.length+1), .int .i64 0]⟩) H'')->qi Tryz.prog 44 [.agg ⟨[.int .i64 x0, .int .i64 x1, .int .i64 x2, .int .i64 x3, .slice p4 n4 k4, .slice p5 n5 k5]⟩] H' R)
 (hM : ∀ H' R,HS H none' [] H' -> (∀ H'' k,HS H' none' [(true,k, .cells true 6 (stsC L))] H'' -> R (.tuple ⟨[.agg ⟨[.int .i64 x0, .int .i64 x1, .int .i64 x2, .int .i64 x3, .slice p4 n4 k4, .slice p5 n5 k5, .int .i64 a0,sv k L.length]⟩, .int .i64 0]⟩) H'')->qi Tryz.prog 85 [.agg ⟨[.int .i64 x0, .int .i64 x1, .int .i64 x2, .int .i64 x3, .slice p4 n4 k4, .slice p5 n5 k5]⟩, .int .i64 a0] H' R)
 (hT : ∀ H' R d,HS H none' [] H' -> Sts H' L d->(∀ H'' ob rows M,HS H' none' ((true,ob, .cells true 1 (outC rows 0))::(rwL rows++lfL M)) H'' -> LfIn rows M->Dim rows p n->cont rows=X->R (.tuple ⟨[sv ob rows.length, .int .i64 0]⟩) H'')->qi Tryz.prog 116 [.agg ⟨[.int .i64 x0, .int .i64 x1, .int .i64 x2, .int .i64 x3, .slice p4 n4 k4, .slice p5 n5 k5, .int .i64 a0,sv d L.length]⟩] H' R)
 (hF : ∀ H' R (r:Nat),r<p->HS H none' [] H' -> (∀ H'' k,HS H' none' [(true,k,rw' (fin r))] H'' -> R (.tuple ⟨[sv k (fin r).length, .int .i64 0]⟩) H'')->qi Tryz.prog 117 [.agg ⟨[.int .i64 x0, .int .i64 x1, .int .i64 x2, .int .i64 x3, .slice p4 n4 k4, .slice p5 n5 k5]⟩, .int .i64 (r:Int)] H' R)
 (h : ∀ H' k,HS H none' [(true,k,deB (demX X fin))] H' -> R (sv k (demX X fin).length) H') :
 qi Tryz.prog 63 [.agg ⟨[.int .i64 x0, .int .i64 x1, .int .i64 x2, .int .i64 x3, .slice p4 n4 k4, .slice p5 n5 k5]⟩] H R:=by
 refine qh tok Tryz.call63 Tryz.func63 rfl Tryz.ntmps63 rfl (by simp) ?_
 refine vJ (HS.start H none') (fun H1 b1 e1 l1 hs=>?_)
 refine vw (fun _ hKs=>hKs _ _ ?_);clear hKs
 clear e1 l1
 repeat' (first|refine nX ?_|refine nY (fun K0 hK0=>?_)|refine zSt hs ?_|refine nN hs (fun _ _ hs=>?_)|refine nS hs (fun _ _ hs=>?_)|refine sX hs (fun _ hs=>?_)|(refine hK0 _ _ ?_;clear hK0)|fail)
 refine hA _ _ (qJ hs) (fun H2 ka hn=>?_)
 have hs:=hs.call hn rfl
 clear hn
 repeat' (first|refine nX ?_|refine nY (fun K0 hK0=>?_)|refine zSt hs ?_|refine nN hs (fun _ _ hs=>?_)|refine nS hs (fun _ _ hs=>?_)|refine sX hs (fun _ hs=>?_)|(refine hK0 _ _ ?_;clear hK0)|fail)
 refine vC tok mx [0,0,2,6,15,31,63,63,0,383,1023] [false,true,true,true,false,false,false,false,true,false,false] (.first 0 (.first 1 (.first 2 (.first 3 (.alt 4 (.first 5 (.first 6 (.first 7 (.first 8 (.first 9 (.first 10 .done)))))) (.alt 8 (.first 4 (.first 5 (.first 6 (.first 7 (.first 9 (.first 10 .done)))))) .no)))))) (by kernel_rfl) ?_
 refine vG (fun K0 hK0=>?_)
 repeat' (first|refine nX ?_|refine nY (fun K0 hK0=>?_)|refine zSt hs ?_|refine nN hs (fun _ _ hs=>?_)|refine nS hs (fun _ _ hs=>?_)|refine sX hs (fun _ hs=>?_)|(refine hK0 _ _ ?_;clear hK0)|fail)
 refine aI (Nat.succ_pos _) ?_
 repeat' (first|refine nX ?_|refine nY (fun K0 hK0=>?_)|refine zSt hs ?_|refine nN hs (fun _ _ hs=>?_)|refine nS hs (fun _ _ hs=>?_)|refine sX hs (fun _ hs=>?_)|(refine hK0 _ _ ?_;clear hK0)|fail)
 refine And.intro ?_ (And.intro ?_ trivial)
 all_goals (
  repeat' (first|refine nX ?_|refine nY (fun K0 hK0=>?_)|refine zSt hs ?_|refine nN hs (fun _ _ hs=>?_)|refine nS hs (fun _ _ hs=>?_)|refine sX hs (fun _ hs=>?_)|(refine hK0 _ _ ?_;clear hK0)|fail)
  refine hM _ _ (qJ hs) (fun H3 kd hn=>?_)
  have hs:=hs.call hn rfl
  clear hn
  repeat' (first|refine nX ?_|refine nY (fun K0 hK0=>?_)|refine zSt hs ?_|refine nN hs (fun _ _ hs=>?_)|refine nS hs (fun _ _ hs=>?_)|refine sX hs (fun _ hs=>?_)|(refine hK0 _ _ ?_;clear hK0)|fail)
  have hd:Sts _ L kd:=⟨⟨_,hs.mem (c:=true) (b:=kd) (B := .cells true 6 (stsC L)) (by simp)⟩⟩
  have hs:=hs.pick [3] (by decide) rfl (L' := [(true,b1, .cells true 1 [.int .i64 x0, .int .i64 x1, .int .i64 x2, .int .i64 x3, .slice p4 n4 k4, .slice p5 n5 k5])])
  refine hT _ _ kd (qJ hs) hd (fun H4 ob rows M hn hlf hdm hc=>?_)
  have hs:=(hs.call hn (by rw[List.all_cons,List.all_append,rwL_all,lfL_all];rfl))
  have hs:HS H none' ((true,ob, .cells true 1 (outC rows 0))::(true,b1, .cells true 1 [.int .i64 x0, .int .i64 x1, .int .i64 x2, .int .i64 x3, .slice p4 n4 k4, .slice p5 n5 k5])::(rwL rows++lfL M)) H4:=hs.perm ((List.perm_append_comm (l₁ := rwL rows++lfL M) (l₂ := [_])).cons _)
  clear hn hd
  have hxl:=dim_le hdm
  rw[hc] at hxl
  have hdl:=fun r (hr:r<=p) i=>demP_len hp hfl hxl r hr i
  rw[hdm.p]
  repeat' (first|refine nX ?_|refine nY (fun K0 hK0=>?_)|refine zSt hs ?_|refine nN hs (fun _ _ hs=>?_)|refine nS hs (fun _ _ hs=>?_)|refine sX hs (fun _ hs=>?_)|(refine hK0 _ _ ?_;clear hK0)|fail)
  refine vcg_loopV (α := List Blk × Nat × Nat) tok (fun z=>HS H none' ((true,z.2.1,deB (demP X fin z.2.2 0))::(true,ob, .cells true 1 (outC rows 0))::(true,b1, .cells true 1 [.int .i64 x0, .int .i64 x1, .int .i64 x2, .int .i64 x3, .slice p4 n4 k4, .slice p5 n5 k5])::(rwL rows++lfL M)) z.1/\z.2.2<=p)
   (fun | ⟨_,k,r⟩=>[(1, .pointer (some ⟨b1,0,none⟩)),(7,sv ob p),(9,sv k (demP X fin r 0).length),(37, .int .i64 (p:Int)),(38, .int .i64 (r:Int))]) (fun | ⟨H',_,_⟩=>H') (fun z=>p-z.2.2)
   ⟨H4 ++ [deB []],H4.length,0⟩ ⟨hs.virt _,Nat.zero_le _⟩ ⟨⟨_,rfl, .rfl⟩,⟨_,rfl, .rfl⟩,⟨_,rfl, .nil _⟩,⟨_,rfl, .rfl⟩,⟨_,rfl, .rfl⟩,trivial⟩ (WkH.rfl.app _) ?_
  clear hs
  rintro ⟨H5,ko,r⟩ ⟨hs,hr⟩
  dsimp only at hs hr ⊢
  repeat' (first|refine nX ?_|refine nY (fun K0 hK0=>?_)|refine zSt hs ?_|refine nN hs (fun _ _ hs=>?_)|refine nS hs (fun _ _ hs=>?_)|refine sX hs (fun _ hs=>?_)|(refine hK0 _ _ ?_;clear hK0)|fail)
  refine And.intro (fun hc2=>?_) (fun hc2=>?_)
  ·have hrp:r<p:=by simp at hc2;omega
   clear hc2
   repeat' (first|refine nX ?_|refine nY (fun K0 hK0=>?_)|refine zSt hs ?_|refine nN hs (fun _ _ hs=>?_)|refine nS hs (fun _ _ hs=>?_)|refine sX hs (fun _ hs=>?_)|(refine hK0 _ _ ?_;clear hK0)|fail)
   refine hF _ _ r hrp (qJ hs) (fun H6 kf hn=>?_)
   have hs:=(hs.call hn rfl).pickR (A := [_,_,_,_]) [1,0,2,3] (by decide) (A' := [_,_,_,_]) rfl
   clear hn
   have hfR:=hfr r hrp
   have hfL:=hfl r hrp
   repeat' (first|refine nX ?_|refine nY (fun K0 hK0=>?_)|refine zSt hs ?_|refine nN hs (fun _ _ hs=>?_)|refine nS hs (fun _ _ hs=>?_)|refine sX hs (fun _ hs=>?_)|(refine hK0 _ _ ?_;clear hK0)|fail)
   refine qN (α := List Blk × Nat × Nat) tok (fun z=>HS H none' ((true,z.2.1,deB (demP X fin r z.2.2))::(true,kf,rw' (fin r))::(true,ob, .cells true 1 (outC rows 0))::(true,b1, .cells true 1 [.int .i64 x0, .int .i64 x1, .int .i64 x2, .int .i64 x3, .slice p4 n4 k4, .slice p5 n5 k5])::(rwL rows++lfL M)) z.1/\z.2.2<=(fin r).length)
    (fun | ⟨_,k,i⟩=>[(1, .pointer (some ⟨b1,0,none⟩)),(7,sv ob p),(9,sv k (demP X fin r i).length),(10, .int .i64 (r:Int)),(37, .int .i64 (p:Int)),(38, .int .i64 (r:Int)),(47,sv kf (fin r).length),(48, .int .i64 ((fin r).length:Int)),(49, .int .i64 (i:Int))]) (fun | ⟨H',_,_⟩=>H') (fun z=>(fin r).length-z.2.2)
    ⟨H6,ko,0⟩ ⟨hs,Nat.zero_le _⟩ (Or.inl ⟨⟨rfl,rfl,rfl,rfl,rfl,rfl,rfl,rfl,rfl,trivial⟩,rfl⟩) ?_
   clear hs
   rintro ⟨H7,k2,i⟩ ⟨hs,hi⟩
   dsimp only at hs hi ⊢
   repeat' (first|refine nX ?_|refine nY (fun K0 hK0=>?_)|refine zSt hs ?_|refine nN hs (fun _ _ hs=>?_)|refine nS hs (fun _ _ hs=>?_)|refine sX hs (fun _ hs=>?_)|(refine hK0 _ _ ?_;clear hK0)|fail)
   refine And.intro (fun hc2=>?_) (fun hc2=>?_)
   ·have hil:i<(fin r).length:=by simp at hc2;omega
    clear hc2
    have hds:=demP_succ X fin r i hil
    have hws:=hfR _ (getElem!_pos (fin r) i hil ▸ List.getElem_mem hil)
    repeat' (first|refine nX ?_|refine nY (fun K0 hK0=>?_)|refine zSt hs ?_|refine nN hs (fun _ _ hs=>?_)|refine nS hs (fun _ _ hs=>?_)|refine sX hs (fun _ hs=>?_)|(refine hK0 _ _ ?_;clear hK0)|fail)
    refine Ld_at (xs:=fin r) hil ?_
    generalize hw:(fin r)[i]! = w at hws hds ⊢
    obtain ⟨s,rfl⟩ : ∃ s:Nat,w=s:=⟨w.toNat,by omega⟩
    obtain ⟨q,⟨kl,l⟩,a1,a2,a3,a4,a5,a6,a7⟩:=hdm.at (r:=(r:Int)) (s:=(s:Int)) (by omega) hws
    dsimp only at a6 a7
    rw[Int.toNat_natCast] at a1 a2 hds
    have a8:(X[r]!)[s]! = l:=by rw[<- hc,<- a7];unfold Co.tget;rw[Int.toNat_natCast,Int.toNat_natCast]
    rw[a8] at hds
    have ho2:=outC_get rows 0 r q a1
    rw[a5] at ho2
    have hr2:(rowC q.2)[s]? = some (lfV kl l):=by unfold rowC;rw[List.getElem?_map,a2];rfl
    repeat' (first|refine nX ?_|refine nY (fun K0 hK0=>?_)|refine zSt hs ?_|refine nN hs (fun _ _ hs=>?_)|refine nS hs (fun _ _ hs=>?_)|refine sX hs (fun _ hs=>?_)|(refine hK0 _ _ ?_;clear hK0)|fail)
    rename_i mp H8
    refine Ld_of ho2 ?_
    repeat' (first|refine nX ?_|refine nY (fun K0 hK0=>?_)|refine zSt hs ?_|refine nN hs (fun _ _ hs=>?_)|refine nS hs (fun _ _ hs=>?_)|refine sX hs (fun _ hs=>?_)|(refine hK0 _ _ ?_;clear hK0)|fail)
    have hs:=hs.pickR (A := [_,_,_,_,_]) [0,1,2,3,4] (by decide) (A' := [_,_,_,_,_]) rfl
    have hb2:=hs.mem (c:=true) (b:=q.1) (B:=rowB q.2) (List.mem_append_right _ (List.mem_append_left _ (rwL_mem a3)))
    refine qQ hb2 ⟨s,rfl,by omega, ?_⟩
    repeat' (first|refine nX ?_|refine nY (fun K0 hK0=>?_)|refine zSt hs ?_|refine nN hs (fun _ _ hs=>?_)|refine nS hs (fun _ _ hs=>?_)|refine sX hs (fun _ hs=>?_)|(refine hK0 _ _ ?_;clear hK0)|fail)
    refine qK hb2 ?_
    refine Ld_of hr2 ?_
    have hmM:=hlf q a3 _ a4
    dsimp only at hmM
    clear a1 a2 a4 a7 a8 ho2 hr2 hb2
    by_cases hl0:l = []
    ·subst hl0
     rw[show lfV kl [] = .slice none 0 0 from rfl]
     have hd0:demP X fin r (i+1)=demP X fin r i:=by rw[hds];simp[newF,demO]
     repeat' (first|refine nX ?_|refine nY (fun K0 hK0=>?_)|refine zSt hs ?_|refine nN hs (fun _ _ hs=>?_)|refine nS hs (fun _ _ hs=>?_)|refine sX hs (fun _ hs=>?_)|(refine hK0 _ _ ?_;clear hK0)|fail)
     refine qN (α := Unit) tok (fun _=>True) (fun _=>[(1, .pointer (some ⟨b1,0,none⟩)),(7,sv ob p),(9,sv k2 (demP X fin r i).length),(10, .int .i64 (r:Int)),(37, .int .i64 (p:Int)),(38, .int .i64 (r:Int)),(47,sv kf (fin r).length),(48, .int .i64 ((fin r).length:Int)),(49, .int .i64 (i:Int)),(61, .int .i64 0),(62, .int .i64 0)]) (fun _=>_) (fun _=>0)
      () trivial (Or.inl ⟨⟨rfl,rfl,rfl,rfl,rfl,rfl,rfl,rfl,rfl,rfl,rfl,trivial⟩,rfl⟩) ?_
     rintro ⟨⟩ -
     repeat' (first|refine nX ?_|refine nY (fun K0 hK0=>?_)|refine zSt hs ?_|refine nN hs (fun _ _ hs=>?_)|refine nS hs (fun _ _ hs=>?_)|refine sX hs (fun _ hs=>?_)|(refine hK0 _ _ ?_;clear hK0)|fail)
     refine⟨(_,k2,i+1),⟨?_,hil⟩,by dsimp only;omega,Or.inl ⟨⟨rfl,rfl,by rw[hd0];rfl,rfl,rfl,rfl,rfl,rfl,rfl,trivial⟩,rfl⟩⟩
     dsimp only
     rw[hd0]
     exact hs.pickR (A := [_,_,_,_,_]) [1,2,3,4] (by decide) (A' := [_,_,_,_]) rfl
    ·rw[xA hl0]
     repeat' (first|refine nX ?_|refine nY (fun K0 hK0=>?_)|refine zSt hs ?_|refine nN hs (fun _ _ hs=>?_)|refine nS hs (fun _ _ hs=>?_)|refine sX hs (fun _ hs=>?_)|(refine hK0 _ _ ?_;clear hK0)|fail)
     have hdi:=hdl r hr i
     have hz0:demP X fin r i++demO r s (newF r [] (l.take 0))=demP X fin r i:=by simp[newF,demO]
     have hfb:(fin r).length<=100000:=hfL
     refine qN (α := List Blk × Nat × Nat) tok (fun z=>HS H none' ((true,mp,mpO (newF r [] (l.take z.2.2)))::(true,z.2.1,deB (demP X fin r i++demO r s (newF r [] (l.take z.2.2))))::(true,kf,rw' (fin r))::(true,ob, .cells true 1 (outC rows 0))::(true,b1, .cells true 1 [.int .i64 x0, .int .i64 x1, .int .i64 x2, .int .i64 x3, .slice p4 n4 k4, .slice p5 n5 k5])::(rwL rows++lfL M)) z.1/\z.2.2<=l.length)
      (fun | ⟨_,k,j⟩=>[(1, .pointer (some ⟨b1,0,none⟩)),(7,sv ob p),(9,sv k (demP X fin r i++demO r s (newF r [] (l.take j))).length),(10, .int .i64 (r:Int)),(14, .int .i64 (s:Int)),(15, .map (some mp)),(37, .int .i64 (p:Int)),(38, .int .i64 (r:Int)),(47,sv kf (fin r).length),(48, .int .i64 ((fin r).length:Int)),(49, .int .i64 (i:Int)),(60,sv kl l.length),(61, .int .i64 (l.length:Int)),(62, .int .i64 (j:Int))]) (fun | ⟨H',_,_⟩=>H') (fun z=>l.length-z.2.2)
      ⟨H8,k2,0⟩ ⟨by dsimp only;rw[hz0];exact hs,Nat.zero_le _⟩ (Or.inl ⟨⟨rfl,rfl,by dsimp only;rw[hz0];rfl,rfl,rfl,rfl,rfl,rfl,rfl,rfl,rfl,rfl,rfl,rfl,trivial⟩,rfl⟩) ?_
     clear hs
     rintro ⟨H9,k3,j⟩ ⟨hs,hj⟩
     dsimp only at hs hj ⊢
     repeat' (first|refine nX ?_|refine nY (fun K0 hK0=>?_)|refine zSt hs ?_|refine nN hs (fun _ _ hs=>?_)|refine nS hs (fun _ _ hs=>?_)|refine sX hs (fun _ hs=>?_)|(refine hK0 _ _ ?_;clear hK0)|fail)
     refine And.intro (fun hc2=>?_) (fun hc2=>?_)
     ·have hjl:j<l.length:=by simp at hc2;omega
      clear hc2
      have hsn:=newF_snoc r l[j]! (l.take j) []
      rw[<- take_snoc hjl] at hsn
      have hkb:=hs.mem (c:=true) (b:=kl) (B:=ogB l) (List.mem_append_right [_,_,_,_,_] (List.mem_append_right _ (lfL_mem (hmM hl0))))
      repeat' (first|refine nX ?_|refine nY (fun K0 hK0=>?_)|refine zSt hs ?_|refine nN hs (fun _ _ hs=>?_)|refine nS hs (fun _ _ hs=>?_)|refine sX hs (fun _ hs=>?_)|(refine hK0 _ _ ?_;clear hK0)|fail)
      refine qQ hkb ⟨j,rfl,hjl, ?_⟩
      repeat' (first|refine nX ?_|refine nY (fun K0 hK0=>?_)|refine zSt hs ?_|refine nN hs (fun _ _ hs=>?_)|refine nS hs (fun _ _ hs=>?_)|refine sX hs (fun _ hs=>?_)|(refine hK0 _ _ ?_;clear hK0)|fail)
      refine qK hkb (seg_og hjl ?_)
      generalize l[j]! = og at hsn ⊢
      obtain ⟨oa,obb⟩:=og
      dsimp only at hsn ⊢
      have hnl:=newF_len r (l.take j) []
      rw[List.length_take] at hnl
      by_cases hor:oa=r
      ·have hsn:newF r [] (l.take (j+1))=newF r [] (l.take j):=by rw[hsn,if_neg (fun h=>h.1 hor),List.append_nil]
       repeat' (first|refine nX ?_|refine nY (fun K0 hK0=>?_)|refine zSt hs ?_|refine nN hs (fun _ _ hs=>?_)|refine nS hs (fun _ _ hs=>?_)|refine sX hs (fun _ hs=>?_)|(refine dI (fun hc=>?_) (fun hc=>?_) <;> try (exfalso;omega))|(refine hK0 _ _ ?_;clear hK0)|fail)
       all_goals try (exfalso;omega)
       refine⟨(_,k3,j+1),⟨?_,hjl⟩,by dsimp only;omega,Or.inl ⟨⟨rfl,rfl,by dsimp only;rw[hsn];rfl,rfl,rfl,rfl,rfl,rfl,rfl,rfl,rfl,rfl,rfl,rfl,trivial⟩,rfl⟩⟩
       dsimp only
       rw[hsn]
       exact hs.pickR (A := [_,_,_,_,_,_]) [1,2,3,4,5] (by decide) (A' := [_,_,_,_,_]) rfl
      ·by_cases hin:(oa,obb)∈newF r [] (l.take j)
       ·have hsn:newF r [] (l.take (j+1))=newF r [] (l.take j):=by rw[hsn,if_neg (fun h=>h.2.2 hin),List.append_nil]
        repeat' (first|refine nX ?_|refine nY (fun K0 hK0=>?_)|refine zSt hs ?_|refine nN hs (fun _ _ hs=>?_)|refine nS hs (fun _ _ hs=>?_)|refine sX hs (fun _ hs=>?_)|(refine dI (fun hc=>?_) (fun hc=>?_) <;> try (exfalso;omega))|(refine hK0 _ _ ?_;clear hK0)|fail)
        all_goals try (exfalso;omega)
        refine look_O (a:=(oa,obb)) (hs.get 1 rfl) ?_
        rw[decide_eq_true hin]
        repeat' (first|refine nX ?_|refine nY (fun K0 hK0=>?_)|refine zSt hs ?_|refine nN hs (fun _ _ hs=>?_)|refine nS hs (fun _ _ hs=>?_)|refine sX hs (fun _ hs=>?_)|(refine dI (fun hc=>?_) (fun hc=>?_) <;> try (exfalso;omega))|(refine hK0 _ _ ?_;clear hK0)|fail)
        refine⟨(_,k3,j+1),⟨?_,hjl⟩,by dsimp only;omega,Or.inl ⟨⟨rfl,rfl,by dsimp only;rw[hsn];rfl,rfl,rfl,rfl,rfl,rfl,rfl,rfl,rfl,rfl,rfl,rfl,trivial⟩,rfl⟩⟩
        dsimp only
        rw[hsn]
        exact hs.pickR (A := [_,_,_,_,_,_]) [1,2,3,4,5] (by decide) (A' := [_,_,_,_,_]) rfl
       ·have hsn:newF r [] (l.take (j+1))=newF r [] (l.take j) ++ [(oa,obb)]:=by rw[hsn,if_pos ⟨hor,List.not_mem_nil,hin⟩]
        repeat' (first|refine nX ?_|refine nY (fun K0 hK0=>?_)|refine zSt hs ?_|refine nN hs (fun _ _ hs=>?_)|refine nS hs (fun _ _ hs=>?_)|refine sX hs (fun _ hs=>?_)|(refine dI (fun hc=>?_) (fun hc=>?_) <;> try (exfalso;omega))|(refine hK0 _ _ ?_;clear hK0)|fail)
        all_goals try (exfalso;omega)
        refine look_O (a:=(oa,obb)) (hs.get 1 rfl) ?_
        rw[decide_eq_false hin]
        repeat' (first|refine nX ?_|refine nY (fun K0 hK0=>?_)|refine zSt hs ?_|refine nN hs (fun _ _ hs=>?_)|refine nS hs (fun _ _ hs=>?_)|refine sX hs (fun _ hs=>?_)|(refine dI (fun hc=>?_) (fun hc=>?_) <;> try (exfalso;omega))|(refine hK0 _ _ ?_;clear hK0)|fail)
        refine upd_O hs 1 rfl hin (fun H10 hs=>?_)
        rw[<- hsn] at hs
        repeat' (first|refine nX ?_|refine nY (fun K0 hK0=>?_)|refine zSt hs ?_|refine nN hs (fun _ _ hs=>?_)|refine nS hs (fun _ _ hs=>?_)|refine sX hs (fun _ hs=>?_)|(refine dI (fun hc=>?_) (fun hc=>?_) <;> try (exfalso;omega))|(refine hK0 _ _ ?_;clear hK0)|fail)
        have h4 : ∀ x∈demP X fin r i++demO r s (newF r [] (l.take j)),x.length=4:=fun x hx=>(List.mem_append.1 hx).elim (fun hx=>demP4 x hx) (fun hx=>by
         obtain ⟨o,_,rfl⟩:=List.mem_map.1 hx
         rfl)
        have hfl4:=flC_len h4
        have hdo:(demO r s (newF r [] (l.take j))).length=(newF r [] (l.take j)).length:=by simp[demO]
        refine app_hs hs 3 (us:=ints [oa,obb,r,s]) rfl (by decide) (hs.get 0 rfl) rfl rfl hfl4 (by dsimp only;rw[List.length_append,hdo];omega) (fun H11 k' _ _ hs=>?_)
        repeat' (first|refine nX ?_|refine nY (fun K0 hK0=>?_)|refine zSt hs ?_|refine nN hs (fun _ _ hs=>?_)|refine nS hs (fun _ _ hs=>?_)|refine sX hs (fun _ hs=>?_)|(refine dI (fun hc=>?_) (fun hc=>?_) <;> try (exfalso;omega))|(refine hK0 _ _ ?_;clear hK0)|fail)
        have e5:demP X fin r i++demO r s (newF r [] (l.take (j+1)))=(demP X fin r i++demO r s (newF r [] (l.take j))) ++ [[oa,obb,(r:Int),(s:Int)]]:=by rw[hsn,List.append_assoc];simp[demO]
        have e6:(demP X fin r i++demO r s (newF r [] (l.take (j+1)))).length=(demP X fin r i++demO r s (newF r [] (l.take j))).length+1:=by rw[e5];exact List.length_append
        refine⟨(_,k',j+1),⟨?_,hjl⟩,by dsimp only;omega,Or.inl ⟨⟨rfl,rfl,by dsimp only;rw[e6];rfl,rfl,rfl,rfl,rfl,rfl,rfl,rfl,rfl,rfl,rfl,rfl,trivial⟩,rfl⟩⟩
        dsimp only
        rw[e5,deB,flC_app]
        exact hs.pickR (A := [_,_,_,_,_,_,_]) [2,3,4,5,6] (by decide) (A' := [_,_,_,_,_]) rfl
     ·have hje:j=l.length:=by simp at hc2;omega
      subst hje
      rw[List.take_length,<- hds] at hs
      repeat' (first|refine nX ?_|refine nY (fun K0 hK0=>?_)|refine zSt hs ?_|refine nN hs (fun _ _ hs=>?_)|refine nS hs (fun _ _ hs=>?_)|refine sX hs (fun _ hs=>?_)|(refine dI (fun hc=>?_) (fun hc=>?_) <;> try (exfalso;omega))|(refine hK0 _ _ ?_;clear hK0)|fail)
      refine⟨(H9,k3,i+1),⟨hs.pickR (A := [_,_,_,_,_]) [1,2,3,4] (by decide) (A' := [_,_,_,_]) rfl,hil⟩,by dsimp only;omega,Or.inl ⟨⟨rfl,rfl,by rw[List.take_length,<- hds];rfl,rfl,rfl,rfl,rfl,rfl,rfl,trivial⟩,rfl⟩⟩
   ·have hie:i=(fin r).length:=by simp at hc2;omega
    subst hie
    rw[demP_full] at hs ⊢
    repeat' (first|refine nX ?_|refine nY (fun K0 hK0=>?_)|refine zSt hs ?_|refine nN hs (fun _ _ hs=>?_)|refine nS hs (fun _ _ hs=>?_)|refine sX hs (fun _ hs=>?_)|(refine dI (fun hc=>?_) (fun hc=>?_) <;> try (exfalso;omega))|(refine hK0 _ _ ?_;clear hK0)|fail)
    exact⟨(H7,k2,r+1),⟨hs.pickR (A := [_,_,_,_]) [0,2,3] (by decide) (A' := [_,_,_]) rfl,hrp⟩,by dsimp only;omega,Or.inl ⟨⟨rfl,rfl,rfl,rfl,rfl,trivial⟩,rfl⟩⟩
  ·have hre:r=p:=by simp at hc2;omega
   subst hre
   have e:=h H5 ko
   unfold demX at e
   rw[hX,<- demP_zero] at e
   repeat' (first|refine nX ?_|refine nY (fun K0 hK0=>?_)|refine zSt hs ?_|refine nN hs (fun _ _ hs=>?_)|refine nS hs (fun _ _ hs=>?_)|refine sX hs (fun _ hs=>?_)|(refine dI (fun hc=>?_) (fun hc=>?_) <;> try (exfalso;omega))|(refine hK0 _ _ ?_;clear hK0)|fail)
   exact e (hs.pickR (A := [_,_,_]) (R:=rwL rows++lfL M) [0] (by decide) (A' := [_]) rfl).left
 )
end Go.Af.Tryz
