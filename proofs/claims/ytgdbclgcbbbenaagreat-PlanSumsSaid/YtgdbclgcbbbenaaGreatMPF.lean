/-
  The totals of a schedule (plan.Measure).
  The law's own functions: usable, total.
-/
import Derived.Test.YtgdbclgcbbbenaaGreatMPE
set_option linter.all false
namespace Go.Af.Tryz
open Go Go.Proofs Go.Af.Pl Co Ne
open Go.Af.Coll (St)
set_option maxRecDepth 100000
set_option maxHeartbeats 4000000
attribute [local irreducible] awp ql qy qK qH qF isCells qx qp qZ qX qI roundEnd xm zA keyK wE zM xx

def RowOk (m:Mc) (x:List Int):Prop := ∃ a b c d,x=totF m [a,b,c,d]/\(0<=a/\a<=1)/\(0<=b/\b<=99)/\(0<=c/\c<=200000000)/\(0<=d/\d<=200000000)/\(0<c↔a=1)/\(0<b->a=1)
theorem totR_ok {s:Sh} {m:Mc} {l:List St} (mk:McOk m s) (hsd:SdOk l m.hs.length) (hll:l.length<=1000) (r:Nat):RowOk m (totR s m l r):=by
 obtain ⟨a,b,c,d,h,h1⟩:=rdc_bd (S:=segF l r) mk (Nat.le_trans (List.length_filter_le _ _) hll) (fun x hx=>by
  have:=hsd.r x (List.mem_filter.1 hx).1
  omega)
 exact⟨a,b,c,d,by unfold totR;rw[h],h1⟩
def suF (j:Nat) (O:List (List Int)):Int:=(O.map (fun x=>x[j]!)).sum
def sum4 (O:List (List Int)):List Int := [suF 0 O,suF 1 O,suF 2 O,suF 3 O]
theorem wG (j:Nat) (O:List (List Int)) (k:Nat) (hk:k<O.length):suF j (O.take (k+1))=suF j (O.take k)+O[k]![j]! := by
 unfold suF
 rw[List.take_succ,List.getElem?_eq_getElem hk,List.map_append,List.sum_append,getElem!_pos O k hk]
 simp
theorem yw {m:Mc} {O:List (List Int)} (h : ∀ x∈O,RowOk m x) (j:Nat) (hj:j<4) : ∀ k,k<=O.length->0<=suF j (O.take k)/\suF j (O.take k)<=k*200000000
 | 0,_=>⟨Int.le_refl _,Int.le_refl _⟩
 | k+1,hk=>by
   have ih:=yw h j hj k (by omega)
   rw[wG j O k (by omega)]
   obtain ⟨a,b,c,d,e,h1,h2,h3,h4,_⟩:=h (O[k]!) (by rw[getElem!_pos O k (by omega)];exact List.getElem_mem _)
   have:0<=O[k]![j]! /\ O[k]![j]! <= 200000000:=by
    rw[e]
    match j,hj with
    | 0,_=>exact⟨h1.1,by show a<=_;omega⟩
    | 1,_=>exact⟨h2.1,by show b<=_;omega⟩
    | 2,_=>exact⟨h3.1,by show c<=_;omega⟩
    | 3,_=>exact⟨h4.1,by show d<=_;omega⟩
   omega
def msrF (s:Sh) (m:Mc) (t:Tk) (l:List St):List Int:=totF m (sum4 ((List.range (Co.rndF t l).toNat).map (totR s m l)))
theorem totC_get : ∀ (O:List (List Int)) (i k:Nat),(∀ x∈O,x.length=5)->i<O.length->k<5->(totC O)[5*i+k]? = (ints O[i]!)[k]?
 | [],i,k,_,hi,hk=>by simp at hi
 | s::r,0,k,h,hi,hk=>by
   show (ints s++totC r)[5*0+k]? = _
   rw[List.getElem?_append_left (by rw[zo,h s List.mem_cons_self];omega),Nat.mul_zero,Nat.zero_add]
   rfl
 | s::r,i+1,k,h,hi,hk=>by
   show (ints s++totC r)[5*(i+1)+k]? = _
   rw[List.getElem?_append_right (by rw[zo,h s List.mem_cons_self];omega)]
   have e:5*(i+1)+k-(ints s).length=5*i+k:=by rw[zo,h s List.mem_cons_self];omega
   rw[e,totC_get r i k (fun x hx=>h x (List.mem_cons_of_mem _ hx)) (by simpa using hi) hk]
   rfl
theorem Ld_tot {O:List (List Int)} {i k:Nat} {v:Value} {K:Value->Prop} (h5 : ∀ x∈O,x.length=5) (hi:i<O.length) (hk:k<5) (hv:(ints O[i]!)[k]? = some v) (h:K v):Ld (totC O) (0+i*5+k) K :=
 ⟨v,by rw[show 0+i*5+k=5*i+k by omega,totC_get O i k h5 hi hk,hv],h⟩
theorem seg_tot {O:List (List Int)} {i:Nat} {a0 a1 a2 a3 a4:Int} {K:List Value->Prop} (h5 : ∀ x∈O,x.length=5) (hi:i<O.length) (hx:O[i]! = [a0,a1,a2,a3,a4]) (h:K (ints [a0,a1,a2,a3,a4])):segK (totC O) (0+i*5) 5 K :=
 Ld_tot (k:=0) h5 hi (by decide) (by rw[hx];rfl) (Ld_tot (k:=1) h5 hi (by decide) (by rw[hx];rfl) (Ld_tot (k:=2) h5 hi (by decide) (by rw[hx];rfl) (Ld_tot (k:=3) h5 hi (by decide) (by rw[hx];rfl) (Ld_tot (k:=4) h5 hi (by decide) (by rw[hx];rfl) h))))
theorem RowOk.len {m:Mc} {x:List Int} (h:RowOk m x):x.length=5:=by obtain ⟨a,b,c,d,rfl,_⟩:=h;rfl
structure Q3 where
 H:List Blk
 k:Nat
theorem c14 {H:List Blk} {m:Mc} {t:Tk} {alg:Int} {l:List St} {b c e f d:Nat} {R:Value->List Blk->Prop} (g:Mr H m b c) (gr:Gr H t.sz e) (hst:Sts H l d) (hh:m.hs.length<=9223372036854775807) (hl:t.sz.length<=9223372036854775807) (hw:t.ws.length<=9223372036854775807) (hll:l.length<=1000)
 (hbad : ∀ H' z,HS H none' [] H' -> z≠0->(z=sndF t l\/(sndF t l=0/\z=chkM m t.pr))->R (.tuple ⟨[.agg ⟨ints [0,0,0,0,0]⟩, .int .i64 z]⟩) H')
 (h : ∀ H' s,HS H none' [] H' -> sndF t l=0->chkM m t.pr=0->McOk m s->R (.tuple ⟨[.agg ⟨ints (msrF s m t l)⟩, .int .i64 0]⟩) H') :
 ql Tryz.prog 14 [mcV m b c,schV t alg e f d l.length] H R:=by
 refine qj tok Tryz.call14 Tryz.func14 rfl Tryz.ntmps14 rfl (by simp) ?_
 refine vz (HS.start H none') (fun H1 b2 e1 l1 hs=>?_)
 refine vz hs (fun H2 b3 e2 l2 hs=>?_)
 refine vz hs (fun H3 b4 e3 l3 hs=>?_)
 refine qU (fun _ hKs=>hKs _ _ ?_);clear hKs
 clear e1 l1 e2 l2 e3 l3
 repeat' (first|refine nX ?_|refine nY (fun K0 hK0=>?_)|refine bH ?_|refine bM ?_|refine iS hs ?_|refine rS hs ?_|refine eI _ (aI rfl ?_)|refine qh ?_|refine qg ?_|refine qc ?_|refine oJ ?_|refine nN hs (fun _ _ hs=>?_)|refine nS hs (fun _ _ hs=>?_)|refine sX hs (fun _ hs=>?_)|(refine hK0 _ _ ?_;clear hK0)|fail)
 refine c18 (g.up (qw hs)) (gr.up (qw hs)) (hst.up (qw hs)) hh hl hw hll (fun H4 z hn hz hv=>?_) (fun H4 k s hn hS hC mk=>?_)
 ·have hs:=vH hs hn
  clear hn
  repeat' (first|refine nX ?_|refine nY (fun K0 hK0=>?_)|refine bH ?_|refine bM ?_|refine iS hs ?_|refine rS hs ?_|refine eI _ (aI rfl ?_)|refine qh ?_|refine qg ?_|refine qc ?_|refine oJ ?_|refine nN hs (fun _ _ hs=>?_)|refine nS hs (fun _ _ hs=>?_)|refine sX hs (fun _ hs=>?_)|(refine dI (fun hc=>?_) (fun hc=>?_) <;> try (exfalso;omega))|(refine hK0 _ _ ?_;clear hK0)|fail)
  change resK T _ _ _ _
  refine resK_agg (by rfl) (by rfl) (hs.get 0 rfl) (by rfl) ?_
  refine⟨_,rfl,_,rfl,_,rfl,_,rfl,_,rfl, ?_⟩
  exact hbad _ _ (qw hs) hz hv
 ·have hs:=hs.call hn rfl
  clear hn
  obtain ⟨hck,hsd⟩:=snd_in hS
  obtain ⟨_,hpr,hpl⟩:=chkM_ok hC
  obtain ⟨n,hN,hn256,hrl⟩:=rnd_nat hsd hS
  have h:=fun H' hn=>h H' s hn hS hC mk
  unfold msrF at h
  rw[hN] at hs h ⊢
  rw[Int.toNat_natCast] at hs h ⊢
  rw[<- hpl] at hsd
  have hrow : ∀ x∈(List.range n).map (totR s m l),RowOk m x:=fun x hx=>by
   obtain ⟨r,_,rfl⟩:=List.mem_map.1 hx
   exact totR_ok mk hsd hll r
  have hOl:((List.range n).map (totR s m l)).length=n:=by simp
  revert hs h hrow hOl
  generalize (List.range n).map (totR s m l)=O
  intro hs0 h hrow hOl
  repeat' (first|refine nX ?_|refine nY (fun K0 hK0=>?_)|refine bH ?_|refine bM ?_|refine iS hs ?_|refine rS hs ?_|refine eI _ (aI rfl ?_)|refine qh ?_|refine qg ?_|refine qc ?_|refine oJ ?_|refine nN hs (fun _ _ hs=>?_)|refine nS hs (fun _ _ hs=>?_)|refine sX hs (fun _ hs=>?_)|(refine dI (fun hc=>?_) (fun hc=>?_) <;> try (exfalso;omega))|(refine hK0 _ _ ?_;clear hK0)|fail)
  refine vz hs0 (fun H5 b8 e5 l5 hs=>?_)
  clear e5 l5 hs0
  repeat' (first|refine nX ?_|refine nY (fun K0 hK0=>?_)|refine bH ?_|refine bM ?_|refine iS hs ?_|refine rS hs ?_|refine eI _ (aI rfl ?_)|refine qh ?_|refine qg ?_|refine qc ?_|refine oJ ?_|refine nN hs (fun _ _ hs=>?_)|refine nS hs (fun _ _ hs=>?_)|refine sX hs (fun _ hs=>?_)|(refine dI (fun hc=>?_) (fun hc=>?_) <;> try (exfalso;omega))|(refine hK0 _ _ ?_;clear hK0)|fail)
  refine qM (α := Q3) tok (fun z=>HS H none' [(true,b8, .cells true 1 (ints (sum4 (O.take z.k)))),(true,k, .cells true 5 (totC O)),(true,b4, .cells true 1 (ints [0,0,0,0,0])),(true,b3, .cells true 1 (schC t alg e f d l.length)),(true,b2, .cells true 1 (mcC m b c))] z.H/\z.k<=n)
   (fun z=>[(2, .pointer (some ⟨b2,0,none⟩)),(3, .pointer (some ⟨b3,0,none⟩)),(4, .pointer (some ⟨b4,0,none⟩)),(8, .pointer (some ⟨b8,0,none⟩)),(23,sv k n),(24, .int .i64 n),(25, .int .i64 (z.k:Int))]) (fun z=>z.H) (fun z=>n-z.k)
   ⟨_,0⟩ ⟨hs,Nat.zero_le _⟩ (Or.inl ⟨⟨rfl,rfl,rfl,rfl,rfl,rfl,rfl,trivial⟩,rfl⟩) ?_
  clear hs
  rintro ⟨H6,i⟩ ⟨hs,hi⟩
  dsimp only at hs hi ⊢
  repeat' (first|refine nX ?_|refine nY (fun K0 hK0=>?_)|refine bH ?_|refine bM ?_|refine iS hs ?_|refine rS hs ?_|refine eI _ (aI rfl ?_)|refine qh ?_|refine qg ?_|refine qc ?_|refine oJ ?_|refine nN hs (fun _ _ hs=>?_)|refine nS hs (fun _ _ hs=>?_)|refine sX hs (fun _ hs=>?_)|(refine hK0 _ _ ?_;clear hK0)|fail)
  refine aI (fun hc=>?_) (fun hc=>?_)
  ·have hlt:i<n:=by simp at hc;omega
   clear hc
   have hx:=hrow O[i]! (by rw[getElem!_pos O i (by omega)];exact List.getElem_mem _)
   obtain ⟨x0,x1,x2,x3,hx,y0,y1,y2,y3,_,_⟩:=hx
   have u0:=yw hrow 0 (by decide) i (by omega)
   have u1:=yw hrow 1 (by decide) i (by omega)
   have u2:=yw hrow 2 (by decide) i (by omega)
   have u3:=yw hrow 3 (by decide) i (by omega)
   repeat' (first|refine nX ?_|refine nY (fun K0 hK0=>?_)|refine bH ?_|refine bM ?_|refine iS hs ?_|refine rS hs ?_|refine eI _ (aI rfl ?_)|refine qh ?_|refine qg ?_|refine qc ?_|refine oJ ?_|refine nN hs (fun _ _ hs=>?_)|refine nS hs (fun _ _ hs=>?_)|refine sX hs (fun _ hs=>?_)|(refine hK0 _ _ ?_;clear hK0)|fail)
   replace hx:O[i]! = [x0,x1,x2,x3,tmF [x0,x1,x2,x3] (prL m)]:=hx
   refine seg_tot (fun x hx=>(hrow x hx).len) (by omega) hx ?_
   repeat' (first|refine nX ?_|refine nY (fun K0 hK0=>?_)|refine bH ?_|refine bM ?_|refine iS hs ?_|refine rS hs ?_|refine eI _ (aI rfl ?_)|refine qh ?_|refine qg ?_|refine qc ?_|refine oJ ?_|refine nN hs (fun _ _ hs=>?_)|refine nS hs (fun _ _ hs=>?_)|refine sX hs (fun _ hs=>?_)|(refine hK0 _ _ ?_;clear hK0)|fail)
   refine c50 (fun H7 hn=>?_)
   have hs:=vH hs hn
   clear hn
   repeat' (first|refine nX ?_|refine nY (fun K0 hK0=>?_)|refine bH ?_|refine bM ?_|refine iS hs ?_|refine rS hs ?_|refine eI _ (aI rfl ?_)|refine qh ?_|refine qg ?_|refine qc ?_|refine oJ ?_|refine nN hs (fun _ _ hs=>?_)|refine nS hs (fun _ _ hs=>?_)|refine sX hs (fun _ hs=>?_)|(refine hK0 _ _ ?_;clear hK0)|fail)
   refine vcg_unroll tok 5 ?_
   iterate 5 (
    all_goals try (
     change vcg _ _ _ _ _ _ _ _ _
     repeat' (first|refine nX ?_|refine nY (fun K0 hK0=>?_)|refine bH ?_|refine bM ?_|refine iS hs ?_|refine rS hs ?_|refine eI _ (aI rfl ?_)|refine qh ?_|refine qg ?_|refine qc ?_|refine oJ ?_|refine nN hs (fun _ _ hs=>?_)|refine nS hs (fun _ _ hs=>?_)|refine sX hs (fun _ hs=>?_)|(refine dI (fun hc=>?_) (fun hc=>?_) <;> try (exfalso;omega))|(refine hK0 _ _ ?_;clear hK0)|fail)
     )
    iterate 3 (
     all_goals try (first | refine eI 0 (aI ⟨rfl,by decide⟩ ?_) | refine eI 1 (aI ⟨rfl,by decide⟩ ?_) | refine eI 2 (aI ⟨rfl,by decide⟩ ?_) | refine eI 3 (aI ⟨rfl,by decide⟩ ?_) | refine eI 0 (aI rfl (aI (by decide) ?_)) | refine eI 1 (aI rfl (aI (by decide) ?_)) | refine eI 2 (aI rfl (aI (by decide) ?_)) | refine eI 3 (aI rfl (aI (by decide) ?_)))
     all_goals try (
      repeat' (first|refine nX ?_|refine nY (fun K0 hK0=>?_)|refine bH ?_|refine bM ?_|refine iS hs ?_|refine rS hs ?_|refine eI _ (aI rfl ?_)|refine qh ?_|refine qg ?_|refine qc ?_|refine oJ ?_|refine nN hs (fun _ _ hs=>?_)|refine nS hs (fun _ _ hs=>?_)|refine sX hs (fun _ hs=>?_)|(refine dI (fun hc=>?_) (fun hc=>?_) <;> try (exfalso;omega))|(refine hK0 _ _ ?_;clear hK0)|fail)
      )
     )
    )
   have e1:sum4 (O.take (i+1)) = [suF 0 (O.take i)+x0,suF 1 (O.take i)+x1,suF 2 (O.take i)+x2,suF 3 (O.take i)+x3]:=by
    unfold sum4
    rw[wG 0 O i (by omega),wG 1 O i (by omega),wG 2 O i (by omega),wG 3 O i (by omega),hx]
    rfl
   refine⟨⟨_,i+1⟩,⟨?_,hlt⟩,by dsimp only;omega,Or.inl ⟨⟨rfl,rfl,rfl,rfl,rfl,rfl,rfl,trivial⟩,rfl⟩⟩
   dsimp only
   rw[e1]
   exact hs.pick [1,2,3,4,5] (by decide) rfl
  ·have hin:i=n:=by simp at hc;omega
   have eO:O.take i=O:=by rw[hin,<- hOl,List.take_length]
   have u0:=yw hrow 0 (by decide) i (by omega)
   have u1:=yw hrow 1 (by decide) i (by omega)
   have u2:=yw hrow 2 (by decide) i (by omega)
   have u3:=yw hrow 3 (by decide) i (by omega)
   rw[eO] at hs u0 u1 u2 u3
   repeat' (first|refine nX ?_|refine nY (fun K0 hK0=>?_)|refine bH ?_|refine bM ?_|refine iS hs ?_|refine rS hs ?_|refine eI _ (aI rfl ?_)|refine qh ?_|refine qg ?_|refine qc ?_|refine oJ ?_|refine nN hs (fun _ _ hs=>?_)|refine nS hs (fun _ _ hs=>?_)|refine sX hs (fun _ hs=>?_)|(refine hK0 _ _ ?_;clear hK0)|fail)
   refine c51 (g.up (qw hs)) (zu (by omega) hpr.1) (zu (by omega) hpr.2.1) (zu (by omega) hpr.2.2.1) (zu (by omega) hpr.2.2.2) (fun H7 hn=>?_)
   have hs:=vH hs hn
   clear hn
   repeat' (first|refine nX ?_|refine nY (fun K0 hK0=>?_)|refine bH ?_|refine bM ?_|refine iS hs ?_|refine rS hs ?_|refine eI _ (aI rfl ?_)|refine qh ?_|refine qg ?_|refine qc ?_|refine oJ ?_|refine nN hs (fun _ _ hs=>?_)|refine nS hs (fun _ _ hs=>?_)|refine sX hs (fun _ hs=>?_)|(refine hK0 _ _ ?_;clear hK0)|fail)
   change resK T _ _ _ _
   refine resK_agg (by rfl) (by rfl) (hs.get 2 rfl) (by rfl) ?_
   refine⟨_,rfl,_,rfl,_,rfl,_,rfl,_,rfl, ?_⟩
   exact h _ (qw hs)
end Go.Af.Tryz
namespace Go.Af.Tryz
open Go Go.Proofs Go.Af.Pl Co Ne
open Go.Af.Coll (St)
set_option maxRecDepth 100000
set_option maxHeartbeats 4000000
attribute [local irreducible] awp ql qy qK qH qF isCells qx qp qZ qX qI roundEnd xm zA keyK wE zM xx

theorem c23 {H:List Blk} {m:Mc} {b c:Nat} {a0 a1 a2 a3:Int} {R:Value->List Blk->Prop} (h0:vO (a0*m.st)) (h1:vO (a1*m.hp)) (h2:vO (a2*m.wd)) (h3:vO (a3*m.jn)) (h : ∀ H',HS H none' [] H' -> R (.int .i64 (tmF [a0,a1,a2,a3] (prL m))) H') :
 ql Tryz.prog 23 [mcV m b c, .int .i64 a0, .int .i64 a1, .int .i64 a2, .int .i64 a3] H R:=by
 have e:tmF [a0,a1,a2,a3] (prL m)=m.st*a0+m.hp*a1+m.wd*a2+m.jn*a3:=by
  show a0*m.st+a1*m.hp+a2*m.wd+a3*m.jn=_
  rw[Int.mul_comm a0,Int.mul_comm a1,Int.mul_comm a2,Int.mul_comm a3]
 rw[e] at h
 rw[Int.mul_comm] at h0 h1 h2 h3
 refine qj tok Tryz.call23 Tryz.func23 rfl Tryz.ntmps23 rfl (by simp) ?_
 have hs:=HS.start H none'
 repeat' (first|refine nX ?_|refine nY (fun K0 hK0=>?_)|refine bH ?_|refine bM ?_|refine iS hs ?_|refine rS hs ?_|refine eI _ (aI rfl ?_)|refine qh ?_|refine qg ?_|refine qc ?_|refine oJ ?_|refine nN hs (fun _ _ hs=>?_)|refine nS hs (fun _ _ hs=>?_)|refine sX hs (fun _ hs=>?_)|(refine hK0 _ _ ?_;clear hK0)|fail)
 exact h _ (qw hs)
theorem l23 (m:Mc) {a0 a1 a2 a3:Int} (h0:vO (a0*m.st)) (h1:vO (a1*m.hp)) (h2:vO (a2*m.wd)) (h3:vO (a3*m.jn)) :
 ql Tryz.prog 23 [mcV m 0 1, .int .i64 a0, .int .i64 a1, .int .i64 a2, .int .i64 a3] [ro m.sd,ro m.hs] (fun v H=>v = .int .i64 (tmF [a0,a1,a2,a3] (prL m))/\H = [ro m.sd,ro m.hs]):=by
 refine qQ (c23 (b:=0) (c:=1) h0 h1 h2 h3 (fun H' hs=>?_))
 have e0:=vY hs (b:=0) (B:=ro m.sd) rfl
 have e1:=vY hs (b:=1) (B:=ro m.hs) rfl
 refine⟨[(0,0),(1,0)],_,[ro m.sd,ro m.hs],by simp, ?_,⟨⟨_,e0,BRen.ints _ _ _⟩,⟨_,e1,BRen.ints _ _ _⟩,trivial⟩,rfl,VRen.plain rfl,rfl,rfl⟩
 intro i hi
 match i,hi with
 | 0,_=>rfl
 | 1,_=>rfl
theorem c23x {H:List Blk} {m:Mc} {b c:Nat} {a0 a1 a2 a3:Int} {R:Value->List Blk->Prop} (g:Mr H m b c) (h0:vO (a0*m.st)) (h1:vO (a1*m.hp)) (h2:vO (a2*m.wd)) (h3:vO (a3*m.jn)) (h:R (.int .i64 (tmF [a0,a1,a2,a3] (prL m))) H) :
 qy Tryz.prog 23 [mcV m b c, .int .i64 a0, .int .i64 a1, .int .i64 a2, .int .i64 a3] H R:=by
 obtain ⟨w,hb⟩:=g.s
 obtain ⟨w2,hc⟩:=g.h
 refine vK (l23 m h0 h1 h2 h3) [(b,0),(c,0)] rfl ?_ ⟨⟨_,hb,BRen.seg fun i x hx=>by rw[Nat.zero_add,qY,hx];rfl⟩,⟨_,hc,BRen.seg fun i x hx=>by rw[Nat.zero_add,qY,hx];rfl⟩,trivial⟩ rfl h
 exact .cons (.agg (.cons (.int _ _) (.cons (VRen.slice rfl rfl (Nat.le_refl _)) (.cons (.int _ _) (.cons (VRen.slice rfl rfl (Nat.le_refl _)) (.cons (.int _ _) (.cons (.int _ _) (.cons (.int _ _) (.cons (.int _ _) .nil))))))))) (.cons (.int _ _) (.cons (.int _ _) (.cons (.int _ _) (.cons (.int _ _) .nil))))
theorem c20 {H:List Blk} {m:Mc} {t:Tk} {b c e f:Nat} {sw pr:Int} {R:Value->List Blk->Prop} (g:Mr H m b c) (gr:Gr H t.sz e) (hh:m.hs.length<=9223372036854775807) (hl:t.sz.length<=9223372036854775807) (hw:t.ws.length<=9223372036854775807)
 (h : ∀ H' u,HS H none' [] H' -> (u=true->chkM m t.pr=0)->R (.bool u) H') :
 ql Tryz.prog 20 [mcV m b c,tkV t e f, .int .i64 sw, .int .i64 pr] H R:=by
 obtain ⟨w0,hb0⟩:=g.s
 refine qj tok Tryz.call20 Tryz.func20 rfl Tryz.ntmps20 rfl (by simp) ?_
 refine vz (HS.start H none') (fun H1 b2 e1 l1 hs=>?_)
 refine vz hs (fun H2 b3 e2 l2 hs=>?_)
 refine qU (fun _ hKs=>hKs _ _ ?_);clear hKs
 clear e1 l1 e2 l2
 repeat' (first|refine nX ?_|refine nY (fun K0 hK0=>?_)|refine bH ?_|refine bM ?_|refine iS hs ?_|refine rS hs ?_|refine eI _ (aI rfl ?_)|refine qh ?_|refine qg ?_|refine qc ?_|refine oJ ?_|refine nN hs (fun _ _ hs=>?_)|refine nS hs (fun _ _ hs=>?_)|refine sX hs (fun _ hs=>?_)|(refine hK0 _ _ ?_;clear hK0)|fail)
 have hb:=vY (qw hs) hb0
 (first | refine c22 hb (Nat.le_refl _) ?_ | refine (c22 hb (Nat.le_refl _) ?_).call)
 cases hsh:qO m.kd m.sd m.ho with
 | none =>
   unfold sizeV
   repeat' (first|refine nX ?_|refine nY (fun K0 hK0=>?_)|refine bH ?_|refine bM ?_|refine iS hs ?_|refine rS hs ?_|refine eI _ (aI rfl ?_)|refine qh ?_|refine qg ?_|refine qc ?_|refine oJ ?_|refine nN hs (fun _ _ hs=>?_)|refine nS hs (fun _ _ hs=>?_)|refine sX hs (fun _ hs=>?_)|(refine dI (fun hc=>?_) (fun hc=>?_) <;> try (exfalso;omega))|(refine hK0 _ _ ?_;clear hK0)|fail)
   refine c31 (gr.up (qw hs)) hl hw (fun H3 hn=>?_)
   have hs:=vH hs hn
   clear hn
   by_cases h1:chkF t=0
   ·rw[h1]
    repeat' (first|refine nX ?_|refine nY (fun K0 hK0=>?_)|refine bH ?_|refine bM ?_|refine iS hs ?_|refine rS hs ?_|refine eI _ (aI rfl ?_)|refine qh ?_|refine qg ?_|refine qc ?_|refine oJ ?_|refine nN hs (fun _ _ hs=>?_)|refine nS hs (fun _ _ hs=>?_)|refine sX hs (fun _ hs=>?_)|(refine dI (fun hc=>?_) (fun hc=>?_) <;> try (exfalso;omega))|(refine hK0 _ _ ?_;clear hK0)|fail)
    ·refine c39 (g.up (qw hs)) hh (fun H4 hn=>?_)
     have hs:=vH hs hn
     clear hn
     by_cases h2:chkM m t.pr=0
     ·rw[h2]
      repeat' (first|refine nX ?_|refine nY (fun K0 hK0=>?_)|refine bH ?_|refine bM ?_|refine iS hs ?_|refine rS hs ?_|refine eI _ (aI rfl ?_)|refine qh ?_|refine qg ?_|refine qc ?_|refine oJ ?_|refine nN hs (fun _ _ hs=>?_)|refine nS hs (fun _ _ hs=>?_)|refine sX hs (fun _ hs=>?_)|(refine dI (fun hc=>?_) (fun hc=>?_) <;> try (exfalso;omega))|(refine hK0 _ _ ?_;clear hK0)|fail)
      all_goals exact h _ _ (qw hs) (fun _=>h2)
     ·skip
      repeat' (first|refine nX ?_|refine nY (fun K0 hK0=>?_)|refine bH ?_|refine bM ?_|refine iS hs ?_|refine rS hs ?_|refine eI _ (aI rfl ?_)|refine qh ?_|refine qg ?_|refine qc ?_|refine oJ ?_|refine nN hs (fun _ _ hs=>?_)|refine nS hs (fun _ _ hs=>?_)|refine sX hs (fun _ hs=>?_)|(refine dI (fun hc=>?_) (fun hc=>?_) <;> try (exfalso;omega))|(refine hK0 _ _ ?_;clear hK0)|fail)
      all_goals exact h _ _ (qw hs) (fun h=>absurd h (by decide))
    ·exact h _ _ (qw hs) (fun h=>absurd h (by decide))
   ·skip
    repeat' (first|refine nX ?_|refine nY (fun K0 hK0=>?_)|refine bH ?_|refine bM ?_|refine iS hs ?_|refine rS hs ?_|refine eI _ (aI rfl ?_)|refine qh ?_|refine qg ?_|refine qc ?_|refine oJ ?_|refine nN hs (fun _ _ hs=>?_)|refine nS hs (fun _ _ hs=>?_)|refine sX hs (fun _ hs=>?_)|(refine dI (fun hc=>?_) (fun hc=>?_) <;> try (exfalso;omega))|(refine hK0 _ _ ?_;clear hK0)|fail)
    all_goals exact h _ _ (qw hs) (fun h=>absurd h (by decide))
 | some s =>
   unfold sizeV
   repeat' (first|refine nX ?_|refine nY (fun K0 hK0=>?_)|refine bH ?_|refine bM ?_|refine iS hs ?_|refine rS hs ?_|refine eI _ (aI rfl ?_)|refine qh ?_|refine qg ?_|refine qc ?_|refine oJ ?_|refine nN hs (fun _ _ hs=>?_)|refine nS hs (fun _ _ hs=>?_)|refine sX hs (fun _ hs=>?_)|(refine dI (fun hc=>?_) (fun hc=>?_) <;> try (exfalso;omega))|(refine hK0 _ _ ?_;clear hK0)|fail)
   refine c31 (gr.up (qw hs)) hl hw (fun H3 hn=>?_)
   have hs:=vH hs hn
   clear hn
   by_cases h1:chkF t=0
   ·rw[h1]
    repeat' (first|refine nX ?_|refine nY (fun K0 hK0=>?_)|refine bH ?_|refine bM ?_|refine iS hs ?_|refine rS hs ?_|refine eI _ (aI rfl ?_)|refine qh ?_|refine qg ?_|refine qc ?_|refine oJ ?_|refine nN hs (fun _ _ hs=>?_)|refine nS hs (fun _ _ hs=>?_)|refine sX hs (fun _ hs=>?_)|(refine dI (fun hc=>?_) (fun hc=>?_) <;> try (exfalso;omega))|(refine hK0 _ _ ?_;clear hK0)|fail)
    ·refine c39 (g.up (qw hs)) hh (fun H4 hn=>?_)
     have hs:=vH hs hn
     clear hn
     by_cases h2:chkM m t.pr=0
     ·rw[h2]
      repeat' (first|refine nX ?_|refine nY (fun K0 hK0=>?_)|refine bH ?_|refine bM ?_|refine iS hs ?_|refine rS hs ?_|refine eI _ (aI rfl ?_)|refine qh ?_|refine qg ?_|refine qc ?_|refine oJ ?_|refine nN hs (fun _ _ hs=>?_)|refine nS hs (fun _ _ hs=>?_)|refine sX hs (fun _ hs=>?_)|(refine dI (fun hc=>?_) (fun hc=>?_) <;> try (exfalso;omega))|(refine hK0 _ _ ?_;clear hK0)|fail)
      all_goals exact h _ _ (qw hs) (fun _=>h2)
     ·skip
      repeat' (first|refine nX ?_|refine nY (fun K0 hK0=>?_)|refine bH ?_|refine bM ?_|refine iS hs ?_|refine rS hs ?_|refine eI _ (aI rfl ?_)|refine qh ?_|refine qg ?_|refine qc ?_|refine oJ ?_|refine nN hs (fun _ _ hs=>?_)|refine nS hs (fun _ _ hs=>?_)|refine sX hs (fun _ hs=>?_)|(refine dI (fun hc=>?_) (fun hc=>?_) <;> try (exfalso;omega))|(refine hK0 _ _ ?_;clear hK0)|fail)
      all_goals exact h _ _ (qw hs) (fun h=>absurd h (by decide))
    ·exact h _ _ (qw hs) (fun h=>absurd h (by decide))
   ·skip
    repeat' (first|refine nX ?_|refine nY (fun K0 hK0=>?_)|refine bH ?_|refine bM ?_|refine iS hs ?_|refine rS hs ?_|refine eI _ (aI rfl ?_)|refine qh ?_|refine qg ?_|refine qc ?_|refine oJ ?_|refine nN hs (fun _ _ hs=>?_)|refine nS hs (fun _ _ hs=>?_)|refine sX hs (fun _ hs=>?_)|(refine dI (fun hc=>?_) (fun hc=>?_) <;> try (exfalso;omega))|(refine hK0 _ _ ?_;clear hK0)|fail)
    all_goals exact h _ _ (qw hs) (fun h=>absurd h (by decide))
end Go.Af.Tryz
