/-
  A search in breadth: what it computes, with no program in sight.
  The library's Repeat, of a row of one number.
  A queue: put and take.
  The search in breadth, as a call.
  Distance.
-/
import Derived.Test.YtgdbclgcbbbenaaGreatMY
set_option linter.all false
namespace Go.Af.Tryz.Ne
open Go

def negF:List Int->Nat
 | []=>0
 | x::r=>(if x<0 then 1 else 0)+negF r
theorem negF_set : ∀ {D:List Int} {i:Nat} {v:Int},i<D.length->D[i]! < 0->0<=v->negF (D.set i v)+1=negF D
 | x::r,0,v,_,h,hv=>by
   simp only[List.getElem!_cons_zero] at h
   simp only[List.set_cons_zero,negF]
   rw[if_neg (by omega),if_pos h];omega
 | x::r,i+1,v,hi,h,hv=>by
   simp only[List.getElem!_cons_succ] at h
   simp only[List.set_cons_succ,negF]
   have:=negF_set (D:=r) (i:=i) (by simpa using hi) h hv
   omega
theorem negF_rep (n:Nat):negF (List.replicate n (-1))=n:=by
 induction n with
 | zero=>rfl
 | succ n ih=>rw[List.replicate_succ,negF,ih,if_pos (by decide)];omega

structure Bfs (nr:Nat->List Int) (N src:Nat) (D Q:List Int) (h:Nat):Prop where
 len:D.length=N
 qin : ∀ y∈Q,0<=y/\y<N
 qd : ∀ z:Nat,z<N->((z:Int)∈Q↔0<=D[z]!)
 cnt:Q.length+negF D=N
 s0:D[src]! = 0
 hsrc:src<N
 back : ∀ z:Nat,z<N->0<=D[z]! -> z=src\/∃ w:Nat,w<N/\(z:Int)∈nr w/\0<=D[w]! /\ D[z]! = D[w]! + 1
 fwd : ∀ i,i<h->∀ y∈nr Q[i]!.toNat,0<=D[y.toNat]! /\ D[y.toNat]! <= D[Q[i]!.toNat]! + 1
 mono : ∀ i j,i<=j->j<Q.length->D[Q[i]!.toNat]! <= D[Q[j]!.toNat]!
 top:h<Q.length->∀ j,j<Q.length->D[Q[j]!.toNat]! <= D[Q[h]!.toNat]! + 1
 bd : ∀ j:Nat,j<Q.length->D[Q[j]!.toNat]! <= j
 hle:h<=Q.length
 neg : ∀ z:Nat,z<N -> -1<=D[z]!
def seeF (x:Int) (s:List Int × List Int) (y:Int):List Int × List Int :=
 if s.1[y.toNat]! < 0 then (s.1.set y.toNat (s.1[x.toNat]! + 1),s.2 ++ [y]) else s
section
variable {nr:Nat->List Int} {N src:Nat} {D Q:List Int} {h:Nat}
theorem mem_get! {l:List Int} {i:Nat} (hi:i<l.length):l[i]! ∈ l:=by rw[getElem!_pos l i hi];exact List.getElem_mem hi
theorem app_get! {l:List Int} {a:Int} {i:Nat} (hi:i<l.length):(l ++ [a])[i]! = l[i]! := by
 rw[getElem!_pos _ i (by simp;omega),List.getElem_append_left hi,getElem!_pos l i hi]
theorem app_at! {l:List Int} {a:Int}:(l ++ [a])[l.length]! = a:=by
 rw[getElem!_pos _ l.length (by simp)];simp
theorem set_ne! {l:List Int} {i j:Nat} {v:Int} (h:j≠i):(l.set i v)[j]! = l[j]! := by
 by_cases hj:j<l.length
 ·rw[getElem!_pos _ j (by simpa using hj),List.getElem_set_ne (by omega),getElem!_pos l j hj]
 ·rw[getElem!_neg _ j (by simpa using hj),getElem!_neg _ j hj]
theorem set_at! {l:List Int} {i:Nat} {v:Int} (h:i<l.length):(l.set i v)[i]! = v:=by
 rw[getElem!_pos _ i (by simpa using h)];simp
theorem Bfs.qget (b:Bfs nr N src D Q h) {i:Nat} (hi:i<Q.length) : ∃ z:Nat,Q[i]! = z/\z<N/\0<=D[z]! := by
 have h1:=b.qin _ (mem_get! hi)
 refine⟨Q[i]!.toNat,by omega,by omega,(b.qd _ (by omega)).1 ?_⟩
 rw[show ((Q[i]!.toNat:Nat):Int)=Q[i]! by omega]
 exact mem_get! hi
theorem Bfs.qle (b:Bfs nr N src D Q h):Q.length<=N:=by have:=b.cnt;omega
theorem Bfs.start (hs:src<N):Bfs nr N src ((List.replicate N (-1)).set src 0) [(src:Int)] 0:=by
 have hl:(List.replicate N (-1:Int)).length=N:=by simp
 have g : ∀ z:Nat,z<N->((List.replicate N (-1:Int)).set src 0)[z]! = if z=src then 0 else -1:=fun z hz=>by
  by_cases e:z=src
  ·subst e;rw[set_at! (by omega),if_pos rfl]
  ·rw[set_ne! e,getElem!_pos _ z (by omega),if_neg e];simp
 have g0:=g src hs
 rw[if_pos rfl] at g0
 have q0 : ∀ j:Nat,j < [(src:Int)].length->[(src:Int)][j]!.toNat=src:=fun j hj=>by
  have:j=0:=by simpa using hj
  subst this;simp
 refine⟨by simp,fun y hy=>by simp at hy;omega,fun z hz=>?_, ?_,g0,hs,fun z hz hd=>?_,fun i hi=>absurd hi (Nat.not_lt_zero i),fun i j hij hj=>?_,fun h0 j hj=>?_,fun j hj=>?_,by simp,fun z hz=>by rw[g z hz];split <;> omega⟩
 ·rw[g z hz]
  by_cases e:z=src
  ·rw[if_pos e];simp[e]
  ·rw[if_neg e];simp;omega
 ·have:=negF_set (D:=List.replicate N (-1)) (i:=src) (v:=0) (by omega) (by rw[getElem!_pos _ src (by omega)];simp) (by omega)
  rw[negF_rep] at this
  simp only[List.length_singleton];omega
 ·rw[g z hz] at hd
  by_cases e:z=src
  ·exact .inl e
  ·rw[if_neg e] at hd;omega
 ·rw[q0 j hj,q0 i (by omega)];exact Int.le_refl _
 ·rw[q0 j hj,q0 0 (by simp)];omega
 ·rw[q0 j hj,g0];omega
theorem Bfs.see (b:Bfs nr N src D Q h) (hh:h<Q.length) {y:Int} (hy:y∈nr Q[h]!.toNat) (hyr:0<=y/\y<N) :
 Bfs nr N src (seeF Q[h]! (D,Q) y).1 (seeF Q[h]! (D,Q) y).2 h/\(seeF Q[h]! (D,Q) y).2[h]! = Q[h]! /\ Q.length<=(seeF Q[h]! (D,Q) y).2.length /\
 (0<=(seeF Q[h]! (D,Q) y).1[y.toNat]! /\ (seeF Q[h]! (D,Q) y).1[y.toNat]! <= (seeF Q[h]! (D,Q) y).1[Q[h]!.toNat]! + 1) /\
 ∀ z:Nat,0<=D[z]! -> (seeF Q[h]! (D,Q) y).1[z]! = D[z]! := by
 obtain ⟨x,hx,hxN,hxd⟩:=b.qget hh
 obtain ⟨y,rfl⟩ : ∃ k:Nat,y=k:=⟨y.toNat,by omega⟩
 have hyN:y<N:=by omega
 have tn : ∀ k:Nat,((k:Int)).toNat=k:=fun k=>Int.toNat_natCast k
 rw[hx,tn] at hy ⊢
 simp only[seeF,tn]
 by_cases hd:D[y]! < 0
 ·rw[if_pos hd]
  have hne : ∀ z:Nat,0<=D[z]! -> z≠y:=fun z hz e=>by subst e;omega
  have keep : ∀ z:Nat,0<=D[z]! -> (D.set y (D[x]! + 1))[z]! = D[z]! := fun z hz=>set_ne! (hne z hz)
  have hyl:y<D.length:=by rw[b.len];exact hyN
  have at' : (D.set y (D[x]! + 1))[y]! = D[x]! + 1:=set_at! hyl
  have qk : ∀ {i:Nat},i<Q.length->∃ z:Nat,Q[i]! = z/\z<N/\0<=D[z]! /\ (Q ++ [(y:Int)])[i]! = z/\(D.set y (D[x]! + 1))[z]! = D[z]! := fun {i} hi=>by
   obtain ⟨z,h1,h2,h3⟩:=b.qget hi
   exact⟨z,h1,h2,h3,by rw[app_get! hi,h1],keep z h3⟩
  have last : ∀ {j:Nat},j<(Q ++ [(y:Int)]).length->j<Q.length\/(j=Q.length/\(Q ++ [(y:Int)])[j]! = y):=fun {j} hj=>by
   by_cases h1:j<Q.length
   ·exact .inl h1
   ·have:j=Q.length:=by simp at hj;omega
    subst this;exact .inr ⟨rfl,app_at!⟩
  refine⟨⟨by simp[b.len],fun z hz=>?_,fun z hz=>?_, ?_, ?_,b.hsrc,fun z hz hdz=>?_,fun i hi v hv=>?_,fun i j hij hj=>?_,fun _ j hj=>?_,fun j hj=>?_,by simp;have:=b.hle;omega,fun z hz=>?_⟩,by rw[app_get! hh,hx],by simp, ?_,keep⟩
  ·rcases List.mem_append.1 hz with hz | hz
   ·exact b.qin z hz
   ·simp at hz;omega
  ·rw[List.mem_append]
   by_cases e:z=y
   ·subst e;rw[at'];exact⟨fun _=>by omega,fun _=>.inr (by simp)⟩
   ·rw[set_ne! e,<- b.qd z hz];simp;omega
  ·have:=negF_set hyl hd (v:=D[x]! + 1) (by omega)
   have:=b.cnt
   simp only[List.length_append,List.length_singleton];omega
  ·rw[keep src (by rw[b.s0];omega)];exact b.s0
  ·by_cases e:z=y
   ·subst e
    exact .inr ⟨x,hxN,hy,by rw[keep x hxd];exact hxd,by rw[at',keep x hxd]⟩
   ·rw[set_ne! e] at hdz ⊢
    rcases b.back z hz hdz with h1 | ⟨w,h1,h2,h3,h4⟩
    ·exact .inl h1
    ·exact .inr ⟨w,h1,h2,by rw[keep w h3];exact h3,by rw[keep w h3];exact h4⟩
  ·obtain ⟨z,h1,h2,h3,h4,h5⟩:=qk (i:=i) (by omega)
   rw[h4,tn] at hv
   have:=b.fwd i hi v (by rw[h1,tn];exact hv)
   rw[h1,tn] at this
   rw[h4,tn,h5,keep _ this.1]
   exact this
  ·rcases last hj with h1 | ⟨h1,h2⟩
   ·obtain ⟨z,a1,a2,a3,a4,a5⟩:=qk (i:=i) (by omega)
    obtain ⟨z',b1,b2,b3,b4,b5⟩:=qk h1
    have:=b.mono i j hij h1
    rw[a1,b1,tn,tn] at this
    rw[a4,b4,tn,tn,a5,b5];exact this
   ·rw[h2,tn,at']
    rcases last (j:=i) (by simp at hj ⊢; omega) with h3 | ⟨_,h4⟩
    ·obtain ⟨z,a1,a2,a3,a4,a5⟩:=qk h3
     have:=b.top hh i h3
     rw[a1,hx,tn,tn] at this
     rw[a4,tn,a5];exact this
    ·rw[h4,tn,at'];exact Int.le_refl _
  ·rw[app_get! hh,hx,tn,keep x hxd]
   rcases last hj with h1 | ⟨h1,h2⟩
   ·obtain ⟨z,a1,a2,a3,a4,a5⟩:=qk h1
    have:=b.top hh j h1
    rw[a1,hx,tn,tn] at this
    rw[a4,tn,a5];exact this
   ·rw[h2,tn,at'];exact Int.le_refl _
  ·have hb:=b.bd h hh
   rw[hx,tn] at hb
   rcases last hj with h1 | ⟨h1,h2⟩
   ·obtain ⟨z,a1,a2,a3,a4,a5⟩:=qk h1
    have:=b.bd j h1
    rw[a1,tn] at this
    rw[a4,tn,a5];exact this
   ·rw[h2,tn,at'];omega
  ·by_cases e:z=y
   ·subst e;rw[at'];omega
   ·rw[set_ne! e];exact b.neg z hz
  ·rw[at',keep x hxd];omega
 ·have hd : ¬ D[y]! < 0:=hd
  rw[if_neg hd]
  refine⟨b,hx,Nat.le_refl _,⟨show 0<=D[y]! by omega, ?_⟩,fun _ _=>rfl⟩
  obtain ⟨i,hi,hq⟩ : ∃ i,i<Q.length/\Q[i]! = y:=by
   obtain ⟨i,hi,h2⟩:=List.getElem_of_mem ((b.qd y hyN).2 (by omega))
   exact⟨i,hi,by rw[getElem!_pos Q i hi,h2]⟩
  have:=b.top hh i hi
  rw[hq,hx,tn,tn] at this
  exact this
theorem Bfs.next (b:Bfs nr N src D Q h) (hh:h<Q.length) (hp : ∀ y∈nr Q[h]!.toNat,0<=D[y.toNat]! /\ D[y.toNat]! <= D[Q[h]!.toNat]! + 1):Bfs nr N src D Q (h+1) where
 len:=b.len
 qin:=b.qin
 qd:=b.qd
 cnt:=b.cnt
 s0:=b.s0
 hsrc:=b.hsrc
 back:=b.back
 fwd:=fun i hi y hy=>by
  by_cases e:i=h
  ·subst e;exact hp y hy
  ·exact b.fwd i (by omega) y hy
 mono:=b.mono
 top:=fun h1 j hj=>by
  have:=b.top hh j hj
  have:=b.mono h (h+1) (by omega) h1
  omega
 bd:=b.bd
 hle:=hh
 neg:=b.neg

structure Dst (nr:Nat->List Int) (N src:Nat) (D:List Int):Prop where
 len:D.length=N
 hsrc:src<N
 s0:D[src]! = 0
 le : ∀ z:Nat,z<N->D[z]! <= N
 back : ∀ z:Nat,z<N->0<=D[z]! -> z=src\/∃ w:Nat,w<N/\(z:Int)∈nr w/\0<=D[w]! /\ D[z]! = D[w]! + 1
 fwd : ∀ z:Nat,z<N->0<=D[z]! -> ∀ y∈nr z,0<=D[y.toNat]! /\ D[y.toNat]! <= D[z]! + 1
 neg : ∀ z:Nat,z<N -> -1<=D[z]!
theorem Bfs.done (b:Bfs nr N src D Q h) (hh:h=Q.length):Dst nr N src D where
 len:=b.len
 hsrc:=b.hsrc
 s0:=b.s0
 le:=fun z hz=>by
  by_cases h0:0<=D[z]!
  ·obtain ⟨i,hi,h2⟩:=List.getElem_of_mem ((b.qd z hz).2 h0)
   have:=b.bd i hi
   rw[getElem!_pos Q i hi,h2,Int.toNat_natCast] at this
   have:=b.qle
   omega
  ·omega
 back:=b.back
 fwd:=fun z hz h0 y hy=>by
  obtain ⟨i,hi,h2⟩:=List.getElem_of_mem ((b.qd z hz).2 h0)
  have:=b.fwd i (by omega) y (by rw[getElem!_pos Q i hi,h2,Int.toNat_natCast];exact hy)
  rw[getElem!_pos Q i hi,h2,Int.toNat_natCast] at this
  exact this
 neg:=b.neg
end
end Go.Af.Tryz.Ne
namespace Go.Af.Tryz.Ne
open Go Go.Proofs
attribute [local irreducible] awp qo qA qN qI qG isCells qC qw qY

theorem wrapU {z:Int} (h0:0<=z) (h1:z<18446744073709551616):IntKind.u64.wrap z=z:=by
 show (if (false&&decide (z % (2 ^ 64:Int) ≥ 2 ^ 63))=true then z % (2 ^ 64:Int)-2 ^ 64 else z % (2 ^ 64:Int))=z
 rw[Bool.false_and,if_neg (by decide)]
 omega
theorem andM {N:Nat} (hN:N<=1024):IntKind.u64.wrap ((BitVec.ofInt IntKind.u64.bits (N:Int) &&& BitVec.ofInt IntKind.u64.bits 4294967295).toNat:Int)=N:=by
 have e1:(BitVec.ofInt IntKind.u64.bits (N:Int)).toNat=N:=by
  show (BitVec.ofInt 64 (N:Int)).toNat=N
  rw[BitVec.toNat_ofInt];omega
 have e2:(BitVec.ofInt IntKind.u64.bits 4294967295).toNat=2 ^ 32-1:=by decide
 rw[BitVec.toNat_and,e1,e2,Nat.and_two_pow_sub_one_eq_mod,Nat.mod_eq_of_lt (by omega)]
 exact wrapU (by omega) (by omega)
theorem shrN {N:Nat} (hN:N<=1024):(N:Int).fdiv (2 ^ (min (32:Int).toNat IntKind.u64.bits))=0:=by
 show (N:Int).fdiv 4294967296=0
 rw[Int.fdiv_eq_ediv_of_nonneg _ (by decide)]
 omega
set_option maxRecDepth 100000 in
theorem n108 {H:List Blk} {R:Value->List Blk->Prop} {N:Nat} (hN:N<=1024) (h:R (.tuple ⟨[.int .u64 0, .int .u64 N]⟩) H):qo Tryz.prog 361 [.int .u64 1, .int .u64 N] H R:=by
 have w1:IntKind.u64.wrap (1*(N:Int))=N:=by rw[Int.one_mul];exact wrapU (by omega) (by omega)
 have w0:IntKind.u64.wrap (0*(N:Int))=0:=by rw[Int.zero_mul];rfl
 refine qj tok71 Tryz.call361 Tryz.func361 rfl Tryz.ntmps361 rfl (by simp) ?_
 refine⟨1,by decide, ?_⟩
 refine⟨by decide,0,by decide, ?_⟩
 refine⟨N,andM hN, ?_⟩
 refine⟨by decide,0,shrN hN, ?_⟩
 refine⟨by decide,0,(congrArg (fun z:Int=>z.fdiv (2 ^ (min (32:Int).toNat IntKind.u64.bits))) w1).trans (shrN hN), ?_⟩
 refine⟨0, ?_, ?_⟩
 ·show IntKind.u64.wrap ((BitVec.ofInt IntKind.u64.bits (IntKind.u64.wrap (IntKind.u64.wrap (0*(N:Int))+0)) &&& _).toNat:Int)=0
  rw[w0];decide
 refine⟨by decide,0, ?_, ?_⟩
 ·show (IntKind.u64.wrap (IntKind.u64.wrap (0*(N:Int))+0)).fdiv _=0
  rw[w0];decide
 refine⟨by decide,0,by decide, ?_⟩
 show R (.tuple ⟨[.int .u64 _, .int .u64 (IntKind.u64.wrap (1*(N:Int)))]⟩) H
 rw[w1]
 exact h
theorem n95 {H:List Blk} {R:Value->List Blk->Prop} {N:Nat} (hN:N<=1024) (h:R (.tuple ⟨[.int .u64 0, .int .u64 N]⟩) H):qo Tryz.prog 353 [.int .u64 1, .int .u64 N] H R:=by
 refine qj tok71 Tryz.call353 Tryz.func353 rfl Tryz.ntmps353 rfl (by simp) ?_
 refine And.intro (fun h=>absurd h (by decide)) (fun _=>?_)
 refine n108 hN ?_
 refine⟨_,rfl,_,rfl, ?_⟩
 exact h
abbrev repR (N i:Nat):List Int:=List.replicate i (-1)++List.replicate (N-i) 0
theorem setSeg_mid (a c:List Value) : ∀ (m x:List Value),x.length=m.length->setSeg (a++m++c) a.length x=a++x++c:=by
 intro m x
 induction x generalizing a m with
 | nil=>intro h;cases m with
   | nil=>rfl
   | cons y m=>simp at h
 | cons z x ih=>intro h;cases m with
   | nil=>simp at h
   | cons y m =>
     simp only[setSeg]
     rw[show (a++y::m++c).set a.length z=(a ++ [z])++m++c by simp,show a.length+1=(a ++ [z]).length by simp,ih (a ++ [z]) m (by simpa using h)]
     simp
theorem rep_seg {N i m:Nat} (hi:i+m<=N) (hm:m<=i):setSeg (ints (repR N i)) (0+i*1) (((ints (repR N i)).drop 0).take (m*1))=ints (repR N (i+m)):=by
 have e1:(((ints (repR N i)).drop 0).take (m*1))=ints (List.replicate m (-1)):=by
  rw[List.drop_zero,Nat.mul_one]
  simp[ints,List.take_append,List.take_replicate,Nat.min_eq_left hm,show m-i=0 by omega]
 have e2:ints (repR N i)=ints (List.replicate i (-1))++ints (List.replicate m 0)++ints (List.replicate (N-(i+m)) 0):=by
  rw[<- wo,<- wo,List.append_assoc,List.replicate_append_replicate,show m+(N-(i+m))=N-i by omega]
 rw[e1,e2]
 have:=setSeg_mid (ints (List.replicate i (-1))) (ints (List.replicate (N-(i+m)) 0)) (ints (List.replicate m 0)) (ints (List.replicate m (-1))) (by simp)
 rw[show (ints (List.replicate i (-1:Int))).length=0+i*1 by simp] at this
 rw[this,<- wo,List.replicate_append_replicate,<- wo]
set_option maxRecDepth 100000 in
theorem g87 {H:List Blk} {R:Value->List Blk->Prop} {b N:Nat} {wr:Bool} (hN:1<=N/\N<=1024) (hb:bget H b=some (.cells wr 1 (ints [-1])))
 (h : ∀ H' k,HS H none' [(true,k,rw' (List.replicate N (-1)))] H' -> R (sv k N) H'):qo Tryz.prog 321 [sv b 1, .int .i64 N] H R:=by
 refine qj tok71 Tryz.call321 Tryz.func321 rfl Tryz.ntmps321 rfl (by simp) ?_
 have wN:IntKind.u64.wrap (N:Int)=N:=wrapU (by omega) (by omega)
 refine And.intro (fun h=>by simp at h;omega) (fun _=>?_)
 refine (?_:qo Tryz.prog 353 [.int .u64 1, .int .u64 (IntKind.u64.wrap (N:Int))] _ _)
 rw[wN]
 refine n95 hN.2 ?_
 refine⟨_,rfl,_,rfl, ?_⟩
 repeat refine And.intro (fun _=>?_) (fun h=>absurd h (by first | decide | (simp;done) | (simp;omega)))
 refine And.intro (fun h=>by simp at h;omega) (fun _=>?_)
 refine Or.inl ⟨(N:Int),rfl,by unfold I64;omega, ?_⟩
 refine⟨by decide,N,N,⟨rfl,rfl⟩,⟨Nat.le_refl _,by simp only;omega⟩,ints (List.replicate N 0),by simp[vG,ints,qF], ?_⟩
 refine vO (((HS.start H none').add (c:=false) hb (fun i p hi=>by simp at hi) (fun h=>by cases h))) (fun H1 j e1 l1 hs1=>?_)
 refine⟨1,by omega,Or.inr ⟨by decide, ?_⟩⟩
 rw[hs1.get 0 rfl,hs1.get 1 rfl]
 refine⟨⟨by decide,by simp;omega,by decide⟩,ints (repR N 1), ?_, ?_⟩
 ·show setSeg (ints (List.replicate N 0)) 0 [.int .i64 (-1)]=_
  obtain ⟨n,rfl⟩ : ∃ n,N=n+1:=⟨N-1,by omega⟩
  simp[setSeg,List.replicate_succ,repR,ints]
 refine yB (hs1.lt 0 rfl) (fun H2 a1 a2 a3=>?_)
 have hs2:HS H none' [(true,j,rw' (repR N 1)),(false,b, .cells wr 1 (ints [-1]))] H2:=hs1.set 0 rfl a1 a2 a3
 refine qJ (α := List Blk × Nat) tok71 (fun z=>HS H none' [(true,j,rw' (repR N z.2))] z.1/\1<=z.2/\z.2<=N) (fun z=>[(7,sv j N),(8, .int .i64 (z.2:Int))]) (fun z=>z.1) (fun z=>N-z.2)
  (H2,1) ⟨hs2.pick [0] (by decide) rfl,Nat.le_refl _,hN.1⟩ (Or.inl ⟨⟨rfl,rfl,trivial⟩,rfl⟩) ?_
 clear hs2 hs1 a1 a2 a3
 rintro ⟨H3,i⟩ ⟨hs3,h1,hi⟩
 simp only at hs3 h1 hi
 refine And.intro (fun hc=>?_) (fun hc=>?_)
 ·have hlt:i<N:=by simpa using hc
  refine qO tok mx [0,0,0,6,0,0,48,126,255,511] [false,false,false,false,false,false,false,false,false,false] [0,1,2,3,4,5,6,7,8,9] (by kernel_rfl) ?_
  refine vT (fun K0 hK0=>?_)
  refine qc (hs3.get 0 rfl) ?_
  refine⟨rfl,i,rfl,⟨hi,Nat.le_refl _⟩, ?_⟩
  refine qc (hs3.get 0 rfl) ?_
  refine⟨rfl,i,rfl,⟨Nat.zero_le _,hi⟩, ?_⟩
  obtain ⟨m,hm⟩ : ∃ m,min (i-0) (N-i)=m:=⟨_,rfl⟩
  refine⟨m,hm.symm,Or.inr ⟨by omega, ?_⟩⟩
  rw[hs3.get 0 rfl]
  refine⟨⟨by simp;omega,by simp;omega, ?_⟩,ints (repR N (i+m)),rep_seg (by omega) (by omega), ?_⟩
  ·refine List.all_eq_true.2 fun v hv=>?_
   have hv:=List.mem_of_mem_drop (List.mem_of_mem_take hv)
   obtain ⟨z,_,rfl⟩:=List.mem_map.1 hv
   rfl
  refine yB (hs3.lt 0 rfl) (fun H4 a1 a2 a3=>?_)
  have hs4:HS H none' [(true,j,rw' (repR N (i+m)))] H4:=hs3.set 0 rfl a1 a2 a3
  refine Or.inl ⟨((i+m:Nat):Int),by simp,by unfold I64;omega, ?_⟩
  refine hK0 _ _ ?_
  exact⟨(H4,i+m),⟨hs4,by simp only;omega,by simp only;omega⟩,by simp only;omega,Or.inl ⟨⟨rfl,rfl,trivial⟩,rfl⟩⟩
 ·have:i=N:=by simp at hc;omega
  subst this
  refine h _ _ ?_
  rw[show List.replicate i (-1:Int)=repR i i by simp[repR]]
  exact hs3
end Go.Af.Tryz.Ne
namespace Go.Af.Tryz.Ne
open Go Go.Proofs
attribute [local irreducible] awp qo qA qN qI qG isCells qC qw qY ve qM roundEnd

abbrev quB (v:Value) (h:Nat):Blk := .cells true 1 [v, .int .i64 h]
theorem hs_rot {H0 H:List Blk} {o:Nat->Prop} {L:List (Bool × Nat × Blk)} {a b c:Bool × Nat × Blk} (h:HS H0 o (a::b::c::L) H):HS H0 o (c::a::L) H :=
 (h.perm ((List.Perm.swap b a _).trans ((List.Perm.swap c a _).cons b))).tail
theorem g88n {H0 H:List Blk} {o:Nat->Prop} {L:List (Bool × Nat × Blk)} {R:Value->List Blk->Prop} {bq h:Nat} {x:Int} (hs:HS H0 o ((true,bq,quB (.slice none 0 0) h)::L) H)
 (hR : ∀ H' k,HS H0 o ((true,bq,quB (sv k 1) h)::(true,k,rw' [x])::L) H' -> R (.tuple ⟨[]⟩) H'):qo Tryz.prog 322 [pV bq, .int .i64 x] H R:=by
 refine qj tok Tryz.call322 Tryz.func322 rfl Tryz.ntmps322 rfl (by simp) ?_
 refine And.intro (by decide) ?_
 refine qg (hs.get 0 rfl) ?_
 refine qc (hs.get 0 rfl) ?_
 refine⟨_,rfl, ?_⟩
 refine And.intro (by decide) ?_
 refine xx hs (fun H2 j e2 l2 hs2=>?_)
 refine And.intro rfl ?_
 refine app_nil_hs hs2 (by decide) (hs2.get 0 rfl) rfl rfl (by decide) (fun H3 k' e3 l3 hs3=>?_)
 refine And.intro (by decide) ?_
 refine qg (hs3.get 2 rfl) ?_
 simp only[putK,vops,vM,wS,Nat.blt]
 refine ww hs3 2 rfl [sv k' 1, .int .i64 h] rfl rfl (Nat.le_add_right _ _) rfl (fun H4 l4 hs4=>?_)
 refine hR H4 k' ?_
 exact hs_rot hs4
theorem g88 {H0 H:List Blk} {o:Nat->Prop} {L:List (Bool × Nat × Blk)} {R:Value->List Blk->Prop} {bq k h:Nat} {xs:List Int} {x:Int} (hl:xs.length<=1000000) (hs:HS H0 o ((true,bq,quB (sv k xs.length) h)::(true,k,rw' xs)::L) H)
 (hR : ∀ H' k',HS H0 o ((true,bq,quB (sv k' (xs ++ [x]).length) h)::(true,k',rw' (xs ++ [x]))::L) H' -> R (.tuple ⟨[]⟩) H'):qo Tryz.prog 322 [pV bq, .int .i64 x] H R:=by
 refine qj tok Tryz.call322 Tryz.func322 rfl Tryz.ntmps322 rfl (by simp) ?_
 refine And.intro (by decide) ?_
 refine qg (hs.get 0 rfl) ?_
 refine qc (hs.get 0 rfl) ?_
 refine⟨_,rfl, ?_⟩
 refine And.intro (by decide) ?_
 refine xx hs (fun H2 j e2 l2 hs2=>?_)
 refine And.intro rfl ?_
 refine app_hs hs2 2 rfl (by decide) (hs2.get 0 rfl) rfl rfl (by simp) (by simp only;omega) (fun H3 k' e3 l3 hs3=>?_)
 refine And.intro (by decide) ?_
 refine qg (hs3.get 1 rfl) ?_
 simp only[putK,vops,vM,wS,Nat.blt]
 refine ww hs3 1 rfl [sv k' (xs.length+1), .int .i64 h] rfl rfl (Nat.le_add_right _ _) rfl (fun H4 l4 hs4=>?_)
 refine hR H4 k' ?_
 simp only[List.length_append,List.length_cons,List.length_nil,rw',wo]
 exact hs4.tail
theorem g89n {H0 H:List Blk} {o:Nat->Prop} {L:List (Bool × Nat × Blk)} {R:Value->List Blk->Prop} {bq k h:Nat} {xs:List Int} (hl:h=xs.length) (hs:HS H0 o ((true,bq,quB (sv k xs.length) h)::(true,k,rw' xs)::L) H)
 (hR:R (.tuple ⟨[.int .i64 0, .bool false]⟩) H):qo Tryz.prog 323 [pV bq] H R:=by
 refine qj tok Tryz.call323 Tryz.func323 rfl Tryz.ntmps323 rfl (by simp) ?_
 refine qO tok mx [0,1,3,7,0,16,48,112,240,511] [false,false,false,false,true,true,true,true,true,false] [0,1,2,3,4,5,6,7,8,9] (by kernel_rfl) ?_
 refine vT (fun K0 hK0=>?_)
 refine And.intro (by decide) ?_
 refine qg (hs.get 0 rfl) ?_
 refine qc (hs.get 0 rfl) ?_
 refine⟨_,rfl, ?_⟩
 refine And.intro (by decide) ?_
 refine qg (hs.get 0 rfl) ?_
 refine qc (hs.get 0 rfl) ?_
 refine⟨_,rfl, ?_⟩
 refine hK0 _ _ ?_
 refine And.intro (fun _=>?_) (fun hc=>by simp[hl] at hc)
 exact hR
theorem g89 {H0 H:List Blk} {o:Nat->Prop} {L:List (Bool × Nat × Blk)} {R:Value->List Blk->Prop} {bq k h:Nat} {xs:List Int} (hl:h<xs.length) (hll:xs.length<=1000000) (hs:HS H0 o ((true,bq,quB (sv k xs.length) h)::(true,k,rw' xs)::L) H)
 (hR : ∀ H',HS H0 o ((true,bq,quB (sv k xs.length) (h+1))::(true,k,rw' xs)::L) H' -> R (.tuple ⟨[.int .i64 xs[h]!, .bool true]⟩) H'):qo Tryz.prog 323 [pV bq] H R:=by
 refine qj tok Tryz.call323 Tryz.func323 rfl Tryz.ntmps323 rfl (by simp) ?_
 refine qO tok mx [0,1,3,7,0,16,48,112,240,511] [false,false,false,false,true,true,true,true,true,false] [0,1,2,3,4,5,6,7,8,9] (by kernel_rfl) ?_
 refine vT (fun K0 hK0=>?_)
 refine And.intro (by decide) ?_
 refine qg (hs.get 0 rfl) ?_
 refine qc (hs.get 0 rfl) ?_
 refine⟨_,rfl, ?_⟩
 refine And.intro (by decide) ?_
 refine qg (hs.get 0 rfl) ?_
 refine qc (hs.get 0 rfl) ?_
 refine⟨_,rfl, ?_⟩
 refine hK0 _ _ ?_
 clear hK0 K0
 refine And.intro (fun hc=>by simp at hc;omega) (fun _=>?_)
 refine qZ (fun K0 hK0=>?_)
 refine And.intro (by decide) ?_
 refine qg (hs.get 0 rfl) ?_
 refine qc (hs.get 0 rfl) ?_
 refine⟨_,rfl, ?_⟩
 refine Or.inl ⟨((h+1:Nat):Int),by simp,by unfold I64;omega, ?_⟩
 refine And.intro (by decide) ?_
 refine qg (hs.get 0 rfl) ?_
 simp only[putK,vops,vM,wS,Nat.blt]
 refine ww hs 0 rfl [sv k xs.length, .int .i64 ((h+1:Nat):Int)] rfl rfl (Nat.le_refl _) rfl (fun H2 l2 hs2=>?_)
 refine hK0 _ _ ?_
 clear hK0 K0
 refine qO tok mx [0,1,3,7,0,16,48,112,240,511,1023,2047,4095] [false,false,false,false,true,true,true,true,true,false,false,false,false] [0,1,2,3,4,5,6,7,8,9,10,11,12] (by kernel_rfl) ?_
 refine vT (fun K0 hK0=>?_)
 refine And.intro (by decide) ?_
 refine qg (hs2.get 0 rfl) ?_
 refine qc (hs2.get 0 rfl) ?_
 refine⟨_,rfl, ?_⟩
 refine And.intro (by decide) ?_
 refine qg (hs2.get 0 rfl) ?_
 refine qc (hs2.get 0 rfl) ?_
 refine⟨_,rfl, ?_⟩
 refine Or.inl ⟨(h:Int),by rw[Int.natCast_add];omega,by unfold I64;omega, ?_⟩
 refine qg (hs2.get 1 rfl) ⟨h,rfl,hl, ?_⟩
 refine qc (hs2.get 1 rfl) (qH h xs[h]! (by simp) (by simp[hl]) ?_)
 refine hK0 _ _ ?_
 exact hR H2 hs2
end Go.Af.Tryz.Ne
namespace Go.Af.Tryz.Ne
open Go Go.Proofs
attribute [local irreducible] awp qo qA qN qI qG isCells qC qw qY ve qM roundEnd

theorem n74 {H:List Blk} {R:Value->List Blk->Prop} {x y:Int} (h:R (.bool true) H):qo Tryz.prog 217 [.int .i64 x, .int .i64 y] H R:=by
 refine qj tok Tryz.call217 Tryz.func217 rfl Tryz.ntmps217 rfl (by simp) ?_
 exact h
abbrev fnV:Value := .func (.func 217) ⟨[]⟩ ⟨[]⟩
abbrev srL (k bq dr xc bf dc b:Nat) (wr:Bool) (sides Q D:List Int) (hd N:Nat) (x:Int):List (Bool × Nat × Blk) :=
 [(true,k,rw' Q),(true,bq,quB (sv k Q.length) hd),(true,dr,rw' D),(true,xc, .cells true 1 [.int .i64 x]),(false,bf, .cells true 1 [fnV]),(false,dc, .cells true 1 [sv dr N]),(false,b, .cells wr 1 (ints sides))]
theorem hs_low {H0 H:List Blk} {o:Nat->Prop} {A S:List (Bool × Nat × Blk)} (h:HS H0 o (A++S) H):HS H0 o (A++S.map (fun p=>(false,p.2))) H:=by
 have key : ∀ {i:Nat} {p:Bool × Nat × Blk},(A++S.map (fun p=>(false,p.2)))[i]? = some p->∃ c,(A++S)[i]? = some (c,p.2)/\(p.1=true->c=true):=fun {i p} hi=>by
  by_cases hlt:i<A.length
  ·rw[List.getElem?_append_left hlt] at hi ⊢
   exact⟨p.1,hi,fun h=>h⟩
  ·rw[List.getElem?_append_right (by omega)] at hi ⊢
   rw[List.getElem?_map] at hi
   cases hx:S[i-A.length]? with
   | none=>rw[hx] at hi;cases hi
   | some x =>
     rw[hx] at hi;cases hi
     exact⟨x.1,rfl,fun h=>by cases h⟩
 refine⟨fun {i c b B} hi=>?_,fun {i j p q} hi hj he=>?_,h.u⟩
 ·obtain ⟨c',h1,h2⟩:=key hi
  have:=h.g h1
  exact⟨this.1,fun hc=>this.2 (h2 hc)⟩
 ·obtain ⟨c',h1,_⟩:=key hi
  obtain ⟨c'',h2,_⟩:=key hj
  exact h.nd h1 h2 he
structure SrS where
 H:List Blk
 k:Nat
 xc:Nat
 Q:List Int
 D:List Int
 h:Nat
def curF (Q:List Int) (h:Nat):Int:=if h<Q.length then Q[h]! else 0
def hdF (Q:List Int) (h:Nat):Nat:=if h<Q.length then h+1 else h

set_option maxHeartbeats 4000000 in
theorem g73 {H:List Blk} {R:Value->List Blk->Prop} {b src n:Nat} {wr:Bool} {kind:Int} {sides:List Int} {s:Sh} (hok:s.ok) (hof:s.of kind sides) (hn:s.sw=n) (hsrc:src<n) (hb:bget H b=some (.cells wr 1 (ints sides)))
 (h : ∀ H' k D,Dst (fun x:Nat=>s.near x) n src D->HS H none' [(true,k,rw' D)] H' -> R (sv k n) H'):qo Tryz.prog 216 [shV (sv b sides.length) s, .int .i64 src,fnV] H R:=by
 have hbd:=sw_bd hok
 refine qj tok Tryz.call216 Tryz.func216 rfl Tryz.ntmps216 rfl (by simp) ?_
 refine vO (((HS.start H none').add (c:=false) hb (fun i p hi=>by simp at hi) (fun h=>by cases h))) (fun H1 bf e1 l1 hs1=>?_)
 refine And.intro (by decide) ?_
 refine xx hs1 (fun H2 j2 e2 l2 hs2=>?_)
 (first | refine x_sw hok (at_of hof (hs2.get 2 rfl)) ?_ | refine (x_sw hok (at_of hof (hs2.get 2 rfl)) ?_).call)
 rw[hn]
 refine g87 (N:=n) ⟨by omega,by omega⟩ (hs2.get 0 rfl) (fun H3 dr hs3=>?_)
 have hs3:=hs2.call hs3 rfl
 refine vO hs3 (fun H4 dc e4 l4 hs4=>?_)
 simp only[putK,vops,vM,wS,Nat.blt]
 refine ww hs4 0 rfl [sv dr n] rfl rfl (Nat.le_refl _) rfl (fun H5 l5 hs5=>?_)
 refine qc (hs5.get 0 rfl) ?_
 refine⟨_,rfl, ?_⟩
 refine qg (hs5.get 1 rfl) ⟨src,rfl,by omega, ?_⟩
 simp only[putK,vops,vM,wS,Nat.blt]
 refine ww hs5 1 rfl (ints ((List.replicate n (-1)).set src 0)) rfl rfl (by simp;omega) (zx _ _ _) (fun H6 l6 hs6=>?_)
 refine vO hs6 (fun H7 bq e7 l7 hs7=>?_)
 refine g88n (h:=0) hs7 (fun H8 k hs8=>?_)
 refine g89 (h:=0) (xs := [(src:Int)]) (by simp) (by simp) hs8 (fun H9 hs9=>?_)
 refine⟨_,rfl,_,rfl, ?_⟩
 refine vO hs9 (fun H10 xc e10 l10 hs10=>?_)
 simp only[putK,vops,vM,wS,Nat.blt]
 refine ww hs10 0 rfl [.int .i64 (src:Int)] rfl rfl (Nat.le_refl _) rfl (fun H11 l11 hs11=>?_)
 have hs12:HS H none' (srL k bq dr xc bf dc b wr sides [(src:Int)] ((List.replicate n (-1)).set src 0) 1 n src) H11 :=
  hs_low (A := [(true,k,_),(true,bq,_),(true,dr,_),(true,xc,_)]) (S := [(true,bf,_),(true,dc,_),(false,b,_)]) (hs11.pick [2,1,4,0,6,3,7] (by decide) rfl)
 clear hs11 hs10 hs9 hs8 hs7 hs6 hs5 hs4 hs3 hs2 hs1 l11 l10 l7 l6 l5 l4 l2 l1 e10 e7 e4 e2 e1
 refine qJ (α := SrS) tok (fun z=>HS H none' (srL z.k bq dr z.xc bf dc b wr sides z.Q z.D (hdF z.Q z.h) n (curF z.Q z.h)) z.H/\Bfs (fun x:Nat=>s.near x) n src z.D z.Q z.h)
  (fun z=>[(0,shV (sv b sides.length) s),(5,pV bf),(7,pV dc),(8,pV bq),(9,pV z.xc),(10, .bool (decide (z.h<z.Q.length)))]) (fun z=>z.H) (fun z=>n-z.h)
  ⟨H11,k,xc,[(src:Int)],(List.replicate n (-1)).set src 0,0⟩ ⟨hs12,Bfs.start hsrc⟩ (Or.inl ⟨⟨rfl,rfl,rfl,rfl,rfl,rfl,trivial⟩,rfl⟩) ?_
 clear hs12
 rintro ⟨H1,k,xc,Q,D,i⟩ ⟨hs1,bf1⟩
 simp only at hs1 bf1
 refine And.intro (fun hc=>?_) (fun hc=>?_)
 rotate_left
 ·have hc : ¬ i<Q.length:=by simpa using hc
  have hge:=bf1.hle
  refine qc (hs1.get 5 rfl) ?_
  refine⟨_,rfl, ?_⟩
  exact h _ dr D (bf1.done (by omega)) (hs1.pick [2] (by decide) rfl)
 have hlt:i<Q.length:=by simpa using hc
 obtain ⟨x,hx,hxn,hx0⟩:=bf1.qget hlt
 have hql:=bf1.qle
 rw[show hdF Q i=i+1 from if_pos hlt,show curF Q i=x by rw[show curF Q i=Q[i]! from if_pos hlt,hx]] at hs1
 refine qc (hs1.get 3 rfl) ?_
 refine⟨_,rfl, ?_⟩
 refine x_near hok (at_of hof (hs1.get 6 rfl)) ⟨by omega,by omega⟩ (fun fv H2 hf l2 he2=>?_)
 have l2:H2.length=H1.length+2:=l2
 have hs2:=hs1.ext (by omega) he2
 obtain ⟨g,first,cap,rfl,hnear⟩:=hf
 refine vO (HS.start H2 none') (fun H3 lr e3 l3 hs3' => ?_)
 generalize hL:Blk.loop LoopState.ready none _ _ _ _ _=L at hs3'
 have hs3:=hs2.call hs3' rfl
 have he3 : ∀ i,i<H2.length->bget H3 i=bget H2 i:=fun i hi=>hs3'.u.2 i hi (fun x=>x)
 have hnin:=near_in hok (x:=(x:Int)) ⟨by omega,by omega⟩
 have hR:=roundsI_of (P:=Tryz.prog) (l:=lr) (Hs:=H3) (o0:=fun j=>j=lr\/j=k\/j=bq\/j=dr) (xs:=s.near x) (Z:=fun _=>False)
  [(xc, .cells true 1 [.int .i64 (x:Int)]),(bf, .cells true 1 [fnV]),(dc, .cells true 1 [sv dr n]),(b, .cells wr 1 (ints sides))]
  (fun b' ⟨i',B,hi'⟩=>by
    match i',hi' with
    | 0,hi' => simp at hi'; rw[<- hi'.1];exact hs3.lt 4 rfl
    | 1,hi' => simp at hi'; rw[<- hi'.1];exact hs3.lt 5 rfl
    | 2,hi' => simp at hi'; rw[<- hi'.1];exact hs3.lt 6 rfl
    | 3,hi' => simp at hi'; rw[<- hi'.1];exact hs3.lt 7 rfl
    | i' + 4,hi' => simp at hi')
  (fun p M => ∃ k' Q' D',M = [(lr,L),(k',rw' Q'),(bq,quB (sv k' Q'.length) (i+1)),(dr,rw' D')]/\Bfs (fun x:Nat=>s.near x) n src D' Q' i/\i<Q'.length/\Q'[i]! = x/\∀ y∈p,0<=D'[y.toNat]! /\ D'[y.toNat]! <= D'[x]! + 1)
  (fun {p y H4 M o} hp hN hq ho hs4=>by
    obtain ⟨k',Q',D',rfl,bfs,hi',hqx,hpv⟩:=hq
    have hym:y∈s.near x:=hp.subset (by simp)
    have hyr:=hnin.1 y hym
    have hyr:0<=y/\y<n:=by omega
    have hsee:=bfs.see hi' (y:=y) (by rw[hqx,Int.toNat_natCast];exact hym) hyr
    have hb1:=bfs.bd i hi'
    have hb2:=bfs.qle
    have hbl:=bfs.len
    obtain ⟨x',hx1,hx2,hx3⟩:=bfs.qget hi'
    have:x' = x:=by omega
    subst this
    rw[hqx,Int.toNat_natCast] at hb1
    rw[hqx] at hsee
    obtain ⟨yn,rfl⟩ : ∃ yn:Nat,y=yn:=⟨y.toNat,by omega⟩
    have hyl:yn<D'.length:=by omega
    have hxl:x' < D'.length:=by omega
    subst hL
    have q0:=hs4.get 0 rfl
    refine vK tok q0 ?_
    refine roundBegin_of q0 (fun H5 d1 d2 d3=>?_)
    have hs5:=hs4.set 0 rfl d1 d2 d3
    refine qZ (fun K0 hK0=>?_)
    refine qc (hs5.get 6 rfl) ?_
    refine⟨_,rfl, ?_⟩
    refine qg (hs5.get 3 rfl) ⟨yn,rfl,by omega, ?_⟩
    refine qc (hs5.get 3 rfl) (qH yn D'[yn]! (by simp) (by simp[hyl]) ?_)
    by_cases hd:D'[yn]! < 0
    ·have hdt:decide (D'[yn]! < 0)=true:=decide_eq_true hd
     rw[show seeF (x' : Int) (D',Q') (yn:Int)=(D'.set yn (D'[x']! + 1),Q' ++ [(yn:Int)]) by unfold seeF;simp only[Int.toNat_natCast];rw[if_pos hd]] at hsee
     obtain ⟨u1,u2,u3,u4,u5⟩:=hsee
     repeat refine And.intro (fun _=>?_) (fun h=>absurd h (by first | decide | (rw[hdt];decide)))
     refine qc (hs5.get 5 rfl) ?_
     refine⟨_,rfl, ?_⟩
     repeat refine And.intro (fun _=>?_) (fun h=>absurd h (by first | decide | (rw[hdt];decide)))
     refine qc (hs5.get 4 rfl) ?_
     refine⟨_,rfl, ?_⟩
     repeat refine And.intro (fun _=>?_) (fun h=>absurd h (by first | decide | (rw[hdt];decide)))
     refine n74 ?_
     repeat refine And.intro (fun _=>?_) (fun h=>absurd h (by first | decide | (rw[hdt];decide)))
     refine hK0 _ _ ?_
     clear hK0 K0
     refine And.intro (fun _=>?_) (fun h=>absurd h (by decide))
     refine qO tok mx [0,0,0,0,12,28,60,127,255] [false,true,true,true,true,true,true,false,false] [0,1,2,3,4,5,6,7,8] (by kernel_rfl) ?_
     refine vT (fun K0 hK0=>?_)
     refine qc (hs5.get 6 rfl) ?_
     refine⟨_,rfl, ?_⟩
     refine qc (hs5.get 6 rfl) ?_
     refine⟨_,rfl, ?_⟩
     refine qc (hs5.get 4 rfl) ?_
     refine⟨_,rfl, ?_⟩
     refine qg (hs5.get 3 rfl) ⟨x',rfl,by omega, ?_⟩
     refine qc (hs5.get 3 rfl) (qH x' D'[x']! (by simp) (by simp[hxl]) ?_)
     refine Or.inl ⟨D'[x']! + 1,rfl,by unfold I64;omega, ?_⟩
     refine qg (hs5.get 3 rfl) ⟨yn,rfl,by omega, ?_⟩
     simp only[putK,vopsO,wX,stepQ,bAt,vM,wS,Nat.blt]
     refine ww hs5 3 rfl (ints (D'.set yn (D'[x']! + 1))) rfl rfl (by simp[hbl];omega) (zx _ _ _) (fun H6 l6 hs6=>?_)
     refine hK0 _ _ ?_
     clear hK0 K0
     have hs6' := hs6.pick [2,1,0,3,4,5,6,7] (by decide) (L' := [(true,bq,quB (sv k' Q'.length) (i+1)),(true,k',rw' Q'),(true,lr,_),(true,dr,_),(false,xc,_),(false,bf,_),(false,dc,_),(false,b,_)]) rfl
     refine g88 (xs:=Q') (by omega) hs6' (fun H7 k'' hs7=>?_)
     refine roundEnd_go (hs7.get 2 rfl) (fun H8 t1 t2 t3=>?_)
     have hs8:=hs7.set 2 rfl t1 t2 t3
     refine Or.inl ⟨rfl,_,⟨k'',_,_,rfl,u1,Nat.lt_of_lt_of_le hi' u3,u2,fun z hz=>?_⟩, ?_⟩
     rotate_left
     ·exact hs8.pick [2,1,0,3,4,5,6,7] (by decide) rfl
     rcases List.mem_append.1 hz with hz | hz
     ·have h1:=hpv z hz
      rw[u5 _ h1.1,u5 _ hx3];exact h1
     ·have hz:z=yn:=by simpa using hz
      subst hz
      rw[Int.toNat_natCast,Int.toNat_natCast] at u4
      rw[Int.toNat_natCast];exact u4
    ·have hdt:decide (D'[yn]! < 0)=false:=decide_eq_false hd
     rw[show seeF (x' : Int) (D',Q') (yn:Int)=(D',Q') by unfold seeF;simp only[Int.toNat_natCast];rw[if_neg hd]] at hsee
     obtain ⟨u1,u2,u3,u4,u5⟩:=hsee
     repeat refine And.intro (fun h=>absurd h (by first | decide | (rw[hdt];decide))) (fun _=>?_)
     refine hK0 _ _ ?_
     clear hK0 K0
     refine And.intro (fun h=>absurd h (by decide)) (fun _=>?_)
     refine roundEnd_go (hs5.get 0 rfl) (fun H8 t1 t2 t3=>?_)
     have hs8:=hs5.set 0 rfl t1 t2 t3
     refine Or.inl ⟨rfl,_,⟨k',_,_,rfl,u1,hi',u2,fun z hz=>?_⟩, ?_⟩
     rotate_left
     ·exact hs8
     rcases List.mem_append.1 hz with hz | hz
     ·exact hpv z hz
     ·have hz:z=yn:=by simpa using hz
      subst hz
      rw[Int.toNat_natCast,Int.toNat_natCast] at u4
      rw[Int.toNat_natCast];exact u4)
 have k1:=hs1.lt 0 rfl
 have k2:=hs1.lt 1 rfl
 have k3:=hs1.lt 2 rfl
 have k6:=hs1.lt 6 rfl
 have n0:=hs1.ne 6 0 rfl rfl (by decide)
 have n1:=hs1.ne 6 1 rfl rfl (by decide)
 have n2:=hs1.ne 6 2 rfl rfl (by decide)
 have hoo : ∀ j,(j=lr\/j=k\/j=bq\/j=dr)↔keyIn [(lr,L),(k,rw' Q),(bq,quB (sv k Q.length) (i+1)),(dr,rw' D)] j:=by
  intro j
  constructor
  ·rintro (rfl | rfl | rfl | rfl)
   ·exact⟨0,_,rfl⟩
   ·exact⟨1,_,rfl⟩
   ·exact⟨2,_,rfl⟩
   ·exact⟨3,_,rfl⟩
  ·rintro ⟨i',B,hi'⟩
   match i',hi' with
   | 0,hi' => simp at hi'; exact .inl hi'.1.symm
   | 1,hi' => simp at hi'; exact .inr (.inl hi'.1.symm)
   | 2,hi' => simp at hi'; exact .inr (.inr (.inl hi'.1.symm))
   | 3,hi' => simp at hi'; exact .inr (.inr (.inr hi'.1.symm))
   | i' + 4,hi' => simp at hi'
 refine hnear (o:=fun j=>j=lr\/j=k\/j=bq\/j=dr) ?_ hR.rounds ⟨[],rfl,[(lr,L),(k,rw' Q),(bq,quB (sv k Q.length) (i+1)),(dr,rw' D)],⟨k,Q,D,rfl,bf1,hlt,hx,fun y hy=>by simp at hy⟩, ?_, ?_⟩ ?_ ?_
 ·intro j hj
  have hj' : j<H2.length:=by rcases hj with rfl | hj <;> omega
  refine⟨?_,he3 j hj'⟩
  show ¬ (j=lr\/j=k\/j=bq\/j=dr)
  rcases hj with rfl | hj <;> omega
 ·exact hoo
 ·exact hs_refl (M := [(lr,L),(k,rw' Q),(bq,quB (sv k Q.length) (i+1)),(dr,rw' D)]) (S := [(xc, .cells true 1 [.int .i64 (x:Int)]),(bf, .cells true 1 [fnV]),(dc, .cells true 1 [sv dr n]),(b, .cells wr 1 (ints sides))])
   (hs_low (A := [(true,lr,_),(true,k,_),(true,bq,_),(true,dr,_)]) (S := [(true,xc,_),(false,bf,_),(false,dc,_),(false,b,_)]) hs3) hoo
 ·rintro o' H5 ⟨ps,e,M,⟨k',Q',D',rfl,bfs,hi',hqx,hpv⟩,ho,hs5⟩
  have e:=ints_inj' e
  subst e
  have hs5:=hs3.comp hs5 (fun j hj=>by
   rcases hj with rfl | rfl | rfl | rfl
   ·exact (hs3.g (i:=0) rfl).2 rfl
   ·exact (hs3.g (i:=1) rfl).2 rfl
   ·exact (hs3.g (i:=2) rfl).2 rfl
   ·exact (hs3.g (i:=3) rfl).2 rfl)
  subst hL
  refine rangeEnd_of (hs5.get 0 rfl) (by decide) (fun H7 r1 r2=>?_)
  have hs7:=hs5.forget r1 r2
  clear hR hnear
  refine qc (hs7.get 3 rfl) ?_
  refine⟨_,rfl, ?_⟩
  refine vO hs7 (fun H8 xc2 e8 l8 hs8=>?_)
  simp only[putK,vops,vM,wS,Nat.blt]
  refine ww hs8 0 rfl [.int .i64 (x:Int)] rfl rfl (Nat.le_refl _) rfl (fun H9 l9 hs9=>?_)
  have hs9' := hs9.pick [2,1,3,0,5,6,7] (by decide) (L' := [(true,bq,quB (sv k' Q'.length) (i+1)),(true,k',rw' Q'),(true,dr,_),(true,xc2,_),(false,bf,_),(false,dc,_),(false,b,_)]) rfl
  have hql' := bfs.qle
  have bf2:=bfs.next hi' (fun y hy=>by rw[hqx,Int.toNat_natCast] at hy ⊢; exact hpv y hy)
  by_cases hnx:i+1<Q'.length
  ·refine g89 hnx (by omega) hs9' (fun H10 hs10=>?_)
   refine⟨_,rfl,_,rfl, ?_⟩
   simp only[putK,vops,vM,wS,Nat.blt]
   refine ww hs10 3 rfl [.int .i64 Q'[i+1]!] rfl rfl (Nat.le_refl _) rfl (fun H11 l11 hs11=>?_)
   refine⟨⟨H11,k',xc2,Q',D',i+1⟩,⟨?_,bf2⟩,by simp only;omega,Or.inl ⟨⟨rfl,rfl,rfl,rfl,rfl, ?_,trivial⟩,rfl⟩⟩
   ·rw[show hdF Q' (i+1)=i+1+1 from if_pos hnx,show curF Q' (i+1)=Q'[i+1]! from if_pos hnx]
    exact hs11.pick [1,0,2,3,4,5,6] (by decide) rfl
   ·show some (Value.bool true)=some (Value.bool (decide (i+1<Q'.length)))
    rw[decide_eq_true hnx]
  ·refine g89n (by omega) hs9' ?_
   refine⟨_,rfl,_,rfl, ?_⟩
   simp only[putK,vops,vM,wS,Nat.blt]
   refine ww hs9' 3 rfl [.int .i64 0] rfl rfl (Nat.le_refl _) rfl (fun H11 l11 hs11=>?_)
   refine⟨⟨H11,k',xc2,Q',D',i+1⟩,⟨?_,bf2⟩,by simp only;omega,Or.inl ⟨⟨rfl,rfl,rfl,rfl,rfl, ?_,trivial⟩,rfl⟩⟩
   ·rw[show hdF Q' (i+1)=i+1 from if_neg hnx,show curF Q' (i+1)=0 from if_neg hnx]
    exact hs11.pick [1,0,2,3,4,5,6] (by decide) rfl
   ·show some (Value.bool false)=some (Value.bool (decide (i+1<Q'.length)))
    rw[decide_eq_false hnx]
 ·intro H' h;exact h.elim
end Go.Af.Tryz.Ne
namespace Go.Af.Tryz.Ne
open Go Go.Proofs
attribute [local irreducible] awp qo qA qN qI qG isCells qC qw qY ve qM roundEnd


theorem g43 {H:List Blk} {R:Value->List Blk->Prop} {b n x y:Nat} {wr:Bool} {kind hosts:Int} {sides:List Int} {s:Sh} (hs:qp kind sides hosts=some s) (hn:s.sw=n) (hx:x<n) (hy:y<n) (hb:bget H b=some (.cells wr 1 (ints sides)))
 (h : ∀ H' D,Dst (fun x:Nat=>s.near x) n y D->HS H none' [] H' -> R (.tuple ⟨[.int .i64 D[x]!, .int .i64 0]⟩) H'):qo Tryz.prog 136 [spV kind (sv b sides.length) hosts, .int .i64 x, .int .i64 y] H R:=by
 have hok:=wP hs
 have hof:=xI hs
 refine qj tok Tryz.call136 Tryz.func136 rfl Tryz.ntmps136 rfl (by simp) ?_
 refine vO (((HS.start H none').add (c:=false) hb (fun i p hi=>by simp at hi) (fun h=>by cases h))) (fun H1 b1 e1 l1 hs1=>?_)
 refine qc (hs1.get 0 rfl) ?_
 refine⟨_,rfl,_,rfl,_,rfl, ?_⟩
 refine And.intro (by decide) ?_
 refine xx hs1 (fun H2 j e2 l2 hs2=>?_)
 (first | refine c62 (l := [(x:Int),(y:Int)]) kind hosts (hs2.get 2 rfl) (Nat.le_refl _) (hs2.get 0 rfl) (Nat.le_refl _) (by simp) ?_ | refine (c62 (l := [(x:Int),(y:Int)]) kind hosts (hs2.get 2 rfl) (Nat.le_refl _) (hs2.get 0 rfl) (Nat.le_refl _) (by simp) ?_).call)
 have e1:withR (sv b sides.length) (some s) [(x:Int),(y:Int)] = .tuple ⟨[shV (sv b sides.length) s, .int .i64 0]⟩:=by
  have:inAll [(x:Int),(y:Int)] s.sw=true:=by simp[inAll];omega
  simp[withR,this]
 rw[hs,e1]
 refine⟨_,rfl,_,rfl, ?_⟩
 refine And.intro (fun h=>absurd h (by decide)) (fun _=>?_)
 refine g73 hok hof hn hy (hs2.get 2 rfl) (fun H3 k D hd hs3=>?_)
 have hlen:=hd.len
 have hxl:x<D.length:=by omega
 refine qg (hs3.get 0 rfl) ⟨x,rfl,hx, ?_⟩
 refine qc (hs3.get 0 rfl) (qH x D[x]! (by simp) (by simp[hxl]) ?_)
 exact h H3 D hd ((hs2.call hs3 rfl).pick [] (by decide) rfl)
end Go.Af.Tryz.Ne
