/-
  A right schedule has as many rounds as doublings are needed: plainly.
  The law CollRounds as a call.
-/
import Derived.Test.YtmnjcogpchodhaaGreatMGN
import Derived.Test.YtmnjcogpchodhaaGreatMWA
set_option linter.all false
namespace Go.Af.Tryz
open Go Go.Proofs
open Go.Af.Coll (sndP sndR wV ve zg addF Ck faultF twiceF busyF badP bef_rd)
set_option maxRecDepth 100000

def Inf (tr:Tr) (i:Nat) (q:Int):Prop := ∃ s:Int, ∃ o∈tget tr (i:Int) s,o.1=q
theorem tset_mem {tr:Tr} {r s i s' : Int} {l:List Og} {o:Og} (h:o∈tget (tset tr r s l) i s'):(i.toNat=r.toNat∧o∈l)∨o∈tget tr i s' := by
 unfold tget tset at h
 unfold tget
 by_cases h1:r.toNat<tr.length
 ·by_cases h2:i.toNat=r.toNat
  ·rw[h2] at h ⊢
   rw[getElem!_pos _ r.toNat (by rw[List.length_set];exact h1),List.getElem_set_self,getElem!_pos tr r.toNat h1] at h
   rw[getElem!_pos tr r.toNat h1]
   by_cases h3:s.toNat<tr[r.toNat].length
   ·by_cases h4:s'.toNat=s.toNat
    ·rw[h4,getElem!_pos _ s.toNat (by rw[List.length_set];exact h3),List.getElem_set_self] at h
     exact .inl ⟨rfl,h⟩
    ·right
     by_cases h5:s'.toNat<tr[r.toNat].length
     ·rw[getElem!_pos _ s'.toNat (by rw[List.length_set];exact h5),List.getElem_set_ne (fun e=>h4 e.symm)] at h
      rw[getElem!_pos _ s'.toNat h5]
      exact h
     ·rw[getElem!_neg _ s'.toNat (by rw[List.length_set];exact h5)] at h
      cases h
   ·rw[List.set_eq_of_length_le (by omega)] at h
    exact .inr h
  ·right
   by_cases h5:i.toNat<tr.length
   ·rw[getElem!_pos _ i.toNat (by rw[List.length_set];exact h5),List.getElem_set_ne (fun e=>h2 e.symm)] at h
    rw[getElem!_pos _ i.toNat h5]
    exact h
   ·rw[getElem!_neg _ i.toNat (by rw[List.length_set];exact h5)] at h
    rw[getElem!_neg _ i.toNat h5]
    exact h
 ·rw[List.set_eq_of_length_le (by omega)] at h
  exact .inr h
theorem inf_set {tr:Tr} {r s:Int} {l:List Og} {i:Nat} {q:Int} (h:Inf (tset tr r s l) i q):(i=r.toNat∧∃ o∈l,o.1=q)∨Inf tr i q:=by
 obtain ⟨s',o,ho,hq⟩:=h
 rcases tset_mem ho with ⟨h1,h2⟩ | h1
 ·exact .inl ⟨by omega,o,h2,hq⟩
 ·exact .inr ⟨s',o,h1,hq⟩
theorem join_mem {j:Int} {a b:List Og} {o:Og} (h:o∈joinL j a b):o∈a∨o∈b:=by
 unfold joinL at h
 split at h
 ·exact .inr h
 ·split at h
  ·exact (List.mem_append.1 h).symm
  ·exact List.mem_append.1 h
theorem inf_stp {now:Tr} {x:Coll.St} {q:Int} (hf:0≤x.fr) (ht:0≤x.to) (h : ∃ o∈stpL now x,o.1=q):Inf now x.to.toNat q∨Inf now x.fr.toNat q:=by
 obtain ⟨o,ho,hq⟩:=h
 rcases join_mem ho with h1 | h1
 ·exact .inl ⟨x.ds,o,by rw[Int.toNat_of_nonneg ht];exact h1,hq⟩
 ·exact .inr ⟨x.sr,o,by rw[Int.toNat_of_nonneg hf];exact h1,hq⟩
structure Bnd (k:Nat) (tr:Tr):Prop where
 f : ∀ i, ∃ L:List Int,L.length≤2 ^ k∧∀ q,Inf tr i q→q∈L
 b : ∀ q, ∃ L:List Nat,L.length≤2 ^ k∧∀ i,Inf tr i q→i∈L
def Snd (past:List Coll.St) (r:Int) (f t:Nat):Prop := ∃ y∈past,y.rd=r∧y.fr≠y.to∧y.fr.toNat=f∧y.to.toNat=t
theorem bnd_round {k:Nat} {now nx:Tr} {past:List Coll.St} {r:Int} (h:Bnd k now)
 (h1 : ∀ f t t',Snd past r f t→Snd past r f t' → t=t') (h2 : ∀ f f' t,Snd past r f t→Snd past r f' t→f=f')
 (hl : ∀ i q,Inf nx i q→Inf now i q∨∃ f,Snd past r f i∧Inf now f q):Bnd (k+1) nx:=by
 constructor
 ·intro i
  obtain ⟨L,hL,hm⟩:=h.f i
  by_cases hs : ∃ f,Snd past r f i
  ·obtain ⟨f,hf⟩:=hs
   obtain ⟨L2,hL2,hm2⟩:=h.f f
   refine⟨L++L2,by rw[List.length_append,Nat.pow_succ];omega,fun q hq=>?_⟩
   rcases hl i q hq with e | ⟨f2,e1,e2⟩
   ·exact List.mem_append_left _ (hm q e)
   ·rw[h2 _ _ _ e1 hf] at e2
    exact List.mem_append_right _ (hm2 q e2)
  ·refine⟨L,Nat.le_trans hL (Nat.pow_le_pow_right (by decide) (Nat.le_succ k)),fun q hq=>?_⟩
   rcases hl i q hq with e | ⟨f2,e1,e2⟩
   ·exact hm q e
   ·exact absurd ⟨f2,e1⟩ hs
 ·intro q
  obtain ⟨L,hL,hm⟩:=h.b q
  have hd : ∀ f, ∃ t, ∀ t',Snd past r f t' → t' = t:=fun f=>by
   by_cases hs : ∃ t,Snd past r f t
   ·obtain ⟨t,ht⟩:=hs
    exact⟨t,fun t' h' => h1 _ _ _ h' ht⟩
   ·exact⟨0,fun t' h' => absurd ⟨t',h'⟩ hs⟩
  refine⟨L++L.map (fun f=>Classical.choose (hd f)),by rw[List.length_append,List.length_map,Nat.pow_succ];omega,fun i hi=>?_⟩
  rcases hl i q hi with e | ⟨f,e1,e2⟩
  ·exact List.mem_append_left _ (hm i e)
  ·refine List.mem_append_right _ (List.mem_map.2 ⟨f,hm f e2, ?_⟩)
   exact (Classical.choose_spec (hd f) i e1).symm
def lastR:Int→List Coll.St→Int
 | r,[]=>r
 | _,x::l=>lastR x.rd l
theorem bnd_go {p n:Int} : ∀ {l past:List Coll.St} {r:Int} {now nx tr:Tr} {k:Nat},sndR p n past l=0→(∀ x∈l,StOk p n x)→(∀ x∈past,StOk p n x)→(∀ x∈past,x.rd≤r)→(∃ x,past.getLast? = some x∧x.rd=r)→0≤r→Bnd k now→(k:Int)≤r →
 (∀ f t t',Snd past r f t→Snd past r f t' → t=t')→(∀ f f' t,Snd past r f t→Snd past r f' t→f=f') →
 (∀ i q,Inf nx i q→Inf now i q∨∃ f,Snd past r f i∧Inf now f q)→goT (some r) now nx l=some tr→∃ e,Bnd e tr∧(e:Int)≤lastR r l+1
 | [],past,r,now,nx,tr,k,_,_,_,_,_,hr,hb,hk,h1,h2,hl,h=>by
   rw[goT] at h
   cases h
   exact⟨k+1,bnd_round hb h1 h2 hl,by show ((k+1:Nat):Int)≤r+1;omega⟩
 | x::l,past,r,now,nx,tr,k,hsd,hok,hokp,hle,hlast,hr,hb,hk,h1,h2,hl,h=>by
   rw[sndR] at hsd
   split at hsd
   ·rename_i e;exact absurd hsd e
   ·rename_i hfa
    have hfa:faultF p n past x=0:=by omega
    unfold faultF at hfa
    split at hfa
    ·rename_i e;exact absurd hfa e
    ·rename_i hse
     split at hfa
     ·omega
     ·split at hfa
      ·omega
      ·rename_i hbu
       have hse:wV p n past.getLast? x=0:=by omega
       have hx:=hok x List.mem_cons_self
       have hrd:r≤x.rd:=by
        obtain ⟨y,hy,e⟩:=hlast
        unfold wV at hse
        rw[hy] at hse
        have hbd:badP (some y) x=false:=by
         split at hse
         ·omega
         ·split at hse
          ·omega
          ·split at hse
           ·omega
           ·split at hse
            ·omega
            ·rename_i h4
             cases hbp:badP (some y) x with
             | false=>rfl
             | true=>exact absurd (Or.inr (Or.inr hbp)) h4
        unfold badP at hbd
        have:=bef_rd (a:=y) (b:=x) (by simpa using hbd)
        omega
       have hok2 : ∀ y∈past ++ [x],StOk p n y:=fun y hy=>by
        rcases List.mem_append.1 hy with e | e
        ·exact hokp y e
        ·rw[List.mem_singleton.1 e];exact hx
       have hle2 : ∀ y∈past ++ [x],y.rd≤x.rd:=fun y hy=>by
        rcases List.mem_append.1 hy with e | e
        ·have:=hle y e;omega
        ·rw[List.mem_singleton.1 e];exact Int.le_refl _
       have hlast2 : ∃ y,(past ++ [x]).getLast? = some y∧y.rd=x.rd:=⟨x,by simp,rfl⟩
       have hbusy : ∀ y∈past,y.rd=x.rd→x.fr≠x.to→y.fr≠y.to→(y.fr=x.fr↔y.to=x.to):=fun y hy hyr hxn hyn=>by
        have hb:busyF past x=false:=by simpa using hbu
        unfold busyF at hb
        rw[List.any_eq_false] at hb
        have:=hb y hy
        simp only[hyr,decide_true,Bool.true_and,decide_eq_true hxn,decide_eq_true hyn,Bool.or_eq_true,Bool.and_eq_true,decide_eq_true_eq,not_or,not_and,Decidable.not_not] at this
        exact⟨this.1,this.2⟩
       have hS : ∀ f t,Snd (past ++ [x]) x.rd f t→Snd past x.rd f t∨(x.fr≠x.to∧x.fr.toNat=f∧x.to.toNat=t):=fun f t ⟨y,hy,a,b,c,d⟩=>by
        rcases List.mem_append.1 hy with e | e
        ·exact .inl ⟨y,e,a,b,c,d⟩
        ·rw[List.mem_singleton.1 e] at b c d
         exact .inr ⟨b,c,d⟩
       have hB : ∀ f t,Snd past x.rd f t→x.fr≠x.to→(f=x.fr.toNat↔t=x.to.toNat):=fun f t ⟨y,hy,a,b,c,d⟩ hne=>by
        have:=hbusy y hy a hne b
        have hy:=hokp y hy
        have:=hy.fr;have:=hy.to;have:=hx.fr;have:=hx.to
        omega
       have hmo : ∀ f t,Snd past x.rd f t→Snd (past ++ [x]) x.rd f t:=fun f t ⟨y,hy,a⟩=>⟨y,List.mem_append_left _ hy,a⟩
       have hne : ∀ f t,r≠x.rd→¬ Snd past x.rd f t:=fun f t hrx ⟨y,hy,a,_⟩=>by
        have:=hle y hy;omega
       have g1:(∀ f t t',Snd past x.rd f t→Snd past x.rd f t' → t=t')→∀ f t t',Snd (past ++ [x]) x.rd f t→Snd (past ++ [x]) x.rd f t' → t=t' := fun g f t t' ha hb=>by
        rcases hS _ _ ha with a | ⟨a0,a1,a2⟩ <;> rcases hS _ _ hb with b | ⟨b0,b1,b2⟩
        ·exact g _ _ _ a b
        ·have:=(hB _ _ a b0).1 b1.symm;omega
        ·have:=(hB _ _ b a0).1 a1.symm;omega
        ·omega
       have g2:(∀ f f' t,Snd past x.rd f t→Snd past x.rd f' t→f=f')→∀ f f' t,Snd (past ++ [x]) x.rd f t→Snd (past ++ [x]) x.rd f' t→f=f' := fun g f f' t ha hb=>by
        rcases hS _ _ ha with a | ⟨a0,a1,a2⟩ <;> rcases hS _ _ hb with b | ⟨b0,b1,b2⟩
        ·exact g _ _ _ a b
        ·have:=(hB _ _ a b0).2 b2.symm;omega
        ·have:=(hB _ _ b a0).2 a2.symm;omega
        ·omega
       have hstep : ∀ {w z:Tr} (i:Nat) (q:Int),(∀ i q,Inf z i q→Inf w i q∨∃ f,Snd past x.rd f i∧Inf w f q)→Inf (tset z x.to x.ds (stpL w x)) i q→Inf w i q∨∃ f,Snd (past ++ [x]) x.rd f i∧Inf w f q:=fun {w z} i q hz hi=>by
        rcases inf_set hi with ⟨e,h4⟩ | h4
        ·rcases inf_stp hx.fr.1 hx.to.1 h4 with h5 | h5
         ·rw[e];exact .inl h5
         ·by_cases hft:x.fr=x.to
          ·rw[e,← hft];exact .inl h5
          ·exact .inr ⟨x.fr.toNat,⟨x,List.mem_append_right _ List.mem_cons_self,rfl,hft,rfl,e.symm⟩,h5⟩
        ·rcases hz i q h4 with h5 | ⟨f,h5,h6⟩
         ·exact .inl h5
         ·exact .inr ⟨f,hmo _ _ h5,h6⟩
       by_cases hrx:r=x.rd
       ·rw[hrx] at h h1 h2 hl hk hr
        rw[goT,if_pos rfl] at h
        split at h
        ·cases h
        ·exact bnd_go (l:=l) (past:=past ++ [x]) hsd (fun y hy=>hok y (List.mem_cons_of_mem _ hy)) hok2 hle2 hlast2 hr hb hk (g1 h1) (g2 h2) (fun i q hi=>hstep i q hl hi) h
       ·have hbn:=bnd_round hb h1 h2 hl
        rw[goT_new (by simpa using hrx),goT,if_pos rfl] at h
        split at h
        ·cases h
        ·exact bnd_go (l:=l) (past:=past ++ [x]) (k:=k+1) hsd (fun y hy=>hok y (List.mem_cons_of_mem _ hy)) hok2 hle2 hlast2 (by omega) hbn (by omega) (g1 fun f t t' ha=>absurd ha (hne f t hrx)) (g2 fun f f' t ha=>absurd ha (hne f t hrx)) (fun i q hi=>hstep i q (fun i q h=>.inl h) hi) h
def lastX:List Coll.St→Int
 | []=>0
 | x::l=>lastR x.rd l+1
theorem bnd_all {p n:Int} {l:List Coll.St} {tr0 tr:Tr} (h:sndR p n [] l=0) (hok : ∀ x∈l,StOk p n x) (h0:Bnd 0 tr0) (hg:goT none tr0 tr0 l=some tr) : ∃ e,Bnd e tr∧(e:Int)≤lastX l:=by
 cases l with
 | nil =>
   rw[goT] at hg
   cases hg
   exact⟨0,h0,Int.le_refl 0⟩
 | cons x l =>
   have hx:=hok x List.mem_cons_self
   rw[goT_new (by simp),goT,if_pos rfl] at hg
   rw[sndR] at h
   split at h
   ·rename_i e;exact absurd h e
   ·rename_i hfa
    have hfa:faultF p n [] x=0:=by omega
    have hrd:0≤x.rd:=by
     unfold faultF at hfa
     split at hfa
     ·rename_i e;exact absurd hfa e
     ·rename_i hse
      have hse:wV p n ([]:List Coll.St).getLast? x=0:=by omega
      unfold wV at hse
      split at hse
      ·omega
      ·omega
    split at hg
    ·cases hg
    ·have hS : ∀ f t,Snd [x] x.rd f t→(x.fr≠x.to∧x.fr.toNat=f∧x.to.toNat=t):=fun f t ⟨y,hy,a,b,c,d⟩=>by
      rw[List.mem_singleton.1 hy] at b c d
      exact⟨b,c,d⟩
     refine bnd_go (l:=l) (past := [x]) (k:=0) h (fun y hy=>hok y (List.mem_cons_of_mem _ hy)) (fun y hy=>by rw[List.mem_singleton.1 hy];exact hx) (fun y hy=>by rw[List.mem_singleton.1 hy];exact Int.le_refl _) ⟨x,rfl,rfl⟩ hrd h0 (by omega) (fun f t t' ha hb=>?_) (fun f f' t ha hb=>?_) (fun i q hi=>?_) hg
     ·have:=hS _ _ ha;have:=hS _ _ hb;omega
     ·have:=hS _ _ ha;have:=hS _ _ hb;omega
     ·rcases inf_set hi with ⟨e,h4⟩ | h4
      ·rcases inf_stp hx.fr.1 hx.to.1 h4 with h5 | h5
       ·rw[e];exact .inl h5
       ·by_cases hft:x.fr=x.to
        ·rw[e,← hft];exact .inl h5
        ·exact .inr ⟨x.fr.toNat,⟨x,List.mem_cons_self,rfl,hft,rfl,e.symm⟩,h5⟩
      ·exact .inl h4
theorem nodup_leL {α : Type} [DecidableEq α] : ∀ {l m:List α},l.Nodup→(∀ x∈l,x∈m)→l.length≤m.length
 | [],_,_,_=>Nat.zero_le _
 | x::l,m,hn,h=>by
   have hn:=List.nodup_cons.1 hn
   have hx:=h x List.mem_cons_self
   have:=nodup_leL (l:=l) (m:=m.erase x) hn.2 (fun y hy=>(List.mem_erase_of_ne (fun e=>hn.1 (by rw[e] at hy;exact hy))).2 (h y (List.mem_cons_of_mem _ hy)))
   rw[List.length_erase_of_mem hx] at this
   have:=List.length_pos_of_mem hx
   rw[List.length_cons]
   omega
theorem range_le {p:Nat} {L:List Nat} (h : ∀ i,i<p→i∈L):p≤L.length:=by
 have:=nodup_leL (l:=List.range p) (m:=L) List.nodup_range (fun x hx=>h x (List.mem_range.1 hx))
 rwa [List.length_range] at this
theorem range_leI {p:Nat} {L:List Int} (h : ∀ i:Nat,i<p→(i:Int)∈L):p≤L.length:=by
 have:=range_le (p:=p) (L:=L.map Int.toNat) (fun i hi=>List.mem_map.2 ⟨_,h i hi,by omega⟩)
 rwa [List.length_map] at this
theorem inf_start {t:Tk} {i:Nat} {q:Int} (h:Inf (stT t) i q):q=(i:Int):=by
 obtain ⟨s,o,ho,rfl⟩:=h
 have key : ∀ (r:Nat) (fs:List Int) (row:List (List Og)),(∀ l∈row, ∀ o∈l,o.1=(r:Int))→∀ l∈fs.foldl (fun row i=>row.set i.toNat [((r:Int),i)]) row, ∀ o∈l,o.1=(r:Int):=by
  intro r fs
  induction fs with
  | nil=>exact fun row h=>h
  | cons f fs ih =>
    intro row h
    rw[List.foldl_cons]
    refine ih _ (fun l hl=>?_)
    rcases List.mem_or_eq_of_mem_set hl with h1 | rfl
    ·exact h l h1
    ·intro o ho
     simp only[List.mem_singleton] at ho
     subst ho
     rfl
 unfold tget stT at ho
 by_cases h1:i<t.pr.toNat
 ·rw[getElem!_pos _ (i:Int).toNat (by rw[List.length_map,List.length_range,Int.toNat_natCast];exact h1),List.getElem_map,List.getElem_range,Int.toNat_natCast] at ho
  by_cases h2:s.toNat<(stR t (sltF t).toNat (i:Int)).length
  ·rw[getElem!_pos _ s.toNat h2] at ho
   refine key i (fstF t (i:Int)) (List.replicate (sltF t).toNat []) (fun l hl o ho=>?_) _ (List.getElem_mem h2) o ho
   rw[List.eq_of_mem_replicate hl] at ho
   cases ho
  ·rw[getElem!_neg _ s.toNat h2] at ho
   cases ho
 ·rw[getElem!_neg _ (i:Int).toNat (by rw[List.length_map,List.length_range,Int.toNat_natCast];exact h1)] at ho
  have e:(default:List (List Og))[s.toNat]! = []:=rfl
  rw[e] at ho
  cases ho
theorem bnd_start (t:Tk):Bnd 0 (stT t) :=
 ⟨fun i=>⟨[(i:Int)],Nat.le_refl 1,fun q h=>by rw[inf_start h];exact List.mem_cons_self⟩,
  fun q=>⟨[q.toNat],Nat.le_refl 1,fun i h=>by rw[inf_start h];exact List.mem_cons_self⟩⟩
theorem last_at : ∀ (l:List Coll.St) (x:Coll.St),lastR x.rd l=(x::l)[l.length]!.rd
 | [],x=>rfl
 | y::l,x=>by
   rw[lastR,last_at l y,List.length_cons]
   simp
theorem spn_in {t:Tk} {f g x:Int} (h1:f*t.pa≤x) (h2:x<g*t.pa):x∈spnF t f g:=by
 unfold spnF
 exact List.mem_map.2 ⟨(x-f*t.pa).toNat,List.mem_range.2 (by omega),by omega⟩
theorem cnt_mem {l:List Og} {q:Int} (h:1≤cntL l q) : ∃ o∈l,o.1=q:=by
 unfold cntL at h
 have:=List.countP_pos_iff.1 (show 0<l.countP (fun o=>decide (o.1=q)) by omega)
 obtain ⟨o,ho,e⟩:=this
 exact⟨o,ho,of_decide_eq_true e⟩
theorem rgt_rounds {t:Tk} {l:List Coll.St} (hop:t.op≠11) (h0:sndF t l=0) (hr:rgtF t l=true) : ∃ e:Nat,t.pr.toNat≤2 ^ e∧(e:Int)≤rndF t l:=by
 have kt:=tk_ok (snd_ok h0).1
 have hsd:sndR t.pr (sltF t) [] l=0:=by
  rw[← snd_ref]
  have:=h0
  unfold sndF at this
  rwa [if_neg (by rw[(snd_ok h0).1];simp)] at this
 rw[rgt_same kt] at hr
 unfold rgtR at hr
 cases htr:trcF t l with
 | none=>rw[htr] at hr;cases hr
 | some tr =>
   rw[htr] at hr
   dsimp only at hr
   obtain ⟨e,hb,he⟩:=bnd_all hsd (snd_ok h0).2 (bnd_start t) htr
   have he:(e:Int)≤rndF t l:=by
    unfold rndF
    cases l with
    | nil=>rw[if_pos (Or.inr (by rfl))];exact he
    | cons x l =>
      rw[if_neg (by rintro (h | h);exact h h0;cases h)]
      rw[lastX,last_at] at he
      exact he
   refine⟨e, ?_,he⟩
   unfold finH at hr
   rw[List.all_eq_true] at hr
   have hh : ∀ r:Nat,r<t.pr.toNat→∀ s∈finR t (r:Int),holF t (r:Int) s (tget tr (r:Int) s)=true:=fun r hrr s hs=>List.all_eq_true.1 (hr r (List.mem_range.2 hrr)) s hs
   clear hr
   have hpr:=kt.pr
   have hpa:=kt.pa
   have hro:=kt.ro
   have hbl:=wF kt
   have fwd : ∀ r:Nat,(∀ q:Nat,q<t.pr.toNat→Inf tr r (q:Int))→t.pr.toNat≤2 ^ e:=fun r h=>by
    obtain ⟨L,hL,hm⟩:=hb.f r
    exact Nat.le_trans (range_leI fun q hq=>hm _ (h q hq)) hL
   have bwd : ∀ q:Int,(∀ r:Nat,r<t.pr.toNat→Inf tr r q)→t.pr.toNat≤2 ^ e:=fun q h=>by
    obtain ⟨L,hL,hm⟩:=hb.b q
    exact Nat.le_trans (range_le fun r hr=>hm _ (h r hr)) hL
   have jn : ∀ (r:Nat) (s:Int),r<t.pr.toNat→s∈finR t (r:Int)→joiF t.op=true→lstF t (r:Int)=t.pr-1→t.pr.toNat≤2 ^ e:=fun r s hrr hs hj hl=>by
    refine fwd r (fun q hq=>?_)
    have:=hh r hrr s hs
    unfold holF at this
    rw[hj,if_neg (by decide),Bool.and_eq_true,List.all_eq_true (l:=List.range _)] at this
    have hx:=this.2 q (List.mem_range.2 hq)
    have hx:badH t (lstF t (r:Int)) (q:Int) (cntL (tget tr (r:Int) s) (q:Int))=false:=by simpa using hx
    unfold badH at hx
    have hx:=of_decide_eq_false hx
    rw[hl] at hx
    obtain ⟨o,ho,e⟩:=cnt_mem (l:=tget tr (r:Int) s) (q:=(q:Int)) (by omega)
    exact⟨s,o,ho,e⟩
   have cp : ∀ (r:Nat) (s:Int),r<t.pr.toNat→s∈finR t (r:Int)→joiF t.op=false→Inf tr r (srcF t (r:Int) s).1:=fun r s hrr hs hj=>by
    have:=hh r hrr s hs
    unfold holF at this
    rw[hj,if_pos rfl] at this
    have:=of_decide_eq_true this
    exact⟨s,_,by rw[this];exact List.mem_cons_self,rfl⟩
   have h0s:(0:Int)∈spnF t 0 (blkF t):=spn_in (by omega) (Int.mul_pos (by omega) (by omega))
   have hc:t.op=1∨t.op=2∨t.op=3∨t.op=4∨t.op=5∨t.op=6∨t.op=7∨t.op=8∨t.op=9∨t.op=10:=by have:=kt.op;omega
   have hspn : ∀ r:Int,r*t.pa∈spnF t r (r+1):=fun r=>spn_in (Int.le_refl _) (by rw[Int.add_mul];omega)
   rcases hc with c | c | c | c | c | c | c | c | c | c
   ·refine bwd t.ro (fun r hrr=>?_)
    have:=cp r 0 hrr (by unfold finR;rw[if_neg (by omega),if_neg (by omega),if_neg (by omega),if_neg (by omega)];exact h0s) (by unfold joiF;exact decide_eq_false (by omega))
    unfold srcF at this
    rwa [if_pos (by omega)] at this
   ·refine jn t.ro.toNat 0 (by omega) ?_ (by unfold joiF;exact decide_eq_true (by omega)) (by unfold lstF;rw[if_neg (by omega)])
    unfold finR
    rw[if_pos (by omega),if_pos (by omega)]
    exact h0s
   ·refine jn (t.pr-1).toNat 0 (by omega) ?_ (by unfold joiF;exact decide_eq_true (by omega)) (by unfold lstF;rw[if_neg (by omega)])
    unfold finR
    rw[if_neg (by omega),if_neg (by omega),if_neg (by omega),if_neg (by omega)]
    exact h0s
   ·refine jn (t.pr-1).toNat 0 (by omega) ?_ (by unfold joiF;exact decide_eq_true (by omega)) (by unfold lstF;rw[if_pos (by omega)];omega)
    unfold finR
    rw[if_neg (by omega),if_neg (by omega),if_neg (by omega),if_neg (by omega)]
    exact h0s
   ·refine fwd t.ro.toNat (fun q hq=>?_)
    have hbe:blkF t=t.pr:=by unfold blkF;rw[if_pos (by omega)]
    have:=cp t.ro.toNat ((q:Int)*t.pa) (by omega) (by
     unfold finR
     rw[if_pos (by omega),if_pos (by omega),hbe]
     exact spn_in (by have:=Int.mul_nonneg (show 0≤(q:Int) by omega) (show 0≤t.pa by omega);omega) (Int.mul_lt_mul_of_pos_right (by omega) (by omega))) (by unfold joiF;exact decide_eq_false (by omega))
    unfold srcF at this
    rw[if_neg (by omega),if_pos (by omega)] at this
    have hd:=tdm (a:=t.pa) (i:=0) (x:=(q:Int)) (by omega) (by omega) (by omega) (by omega)
    rw[Int.add_zero] at hd
    rw[hd.1] at this
    exact this
   ·refine bwd t.ro (fun r hrr=>?_)
    have:=cp r ((r:Int)*t.pa) hrr (by unfold finR;rw[if_neg (by omega),if_pos (by omega)];exact hspn _) (by unfold joiF;exact decide_eq_false (by omega))
    unfold srcF at this
    rwa [if_pos (by omega)] at this
   ·refine fwd 0 (fun q hq=>?_)
    have hbe:blkF t=t.pr:=by unfold blkF;rw[if_pos (by omega)]
    have:=cp 0 ((q:Int)*t.pa) (by omega) (by
     unfold finR
     rw[if_neg (by omega),if_neg (by omega),if_neg (by omega),if_neg (by omega),hbe]
     exact spn_in (by have:=Int.mul_nonneg (show 0≤(q:Int) by omega) (show 0≤t.pa by omega);omega) (Int.mul_lt_mul_of_pos_right (by omega) (by omega))) (by unfold joiF;exact decide_eq_false (by omega))
    unfold srcF at this
    rw[if_neg (by omega),if_pos (by omega)] at this
    have hd:=tdm (a:=t.pa) (i:=0) (x:=(q:Int)) (by omega) (by omega) (by omega) (by omega)
    rw[Int.add_zero] at hd
    rw[hd.1] at this
    exact this
   ·refine fwd 0 (fun q hq=>?_)
    have:=cp 0 ((t.pr+(q:Int))*t.pa) (by omega) (by
     unfold finR
     rw[if_neg (by omega),if_neg (by omega),if_pos (by omega)]
     exact spn_in (Int.mul_le_mul_of_nonneg_right (by omega) (by omega)) (Int.mul_lt_mul_of_pos_right (by omega) (by omega))) (by unfold joiF;exact decide_eq_false (by omega))
    unfold srcF at this
    rw[if_neg (by omega),if_neg (by omega),if_pos (by omega)] at this
    have hd:=tdm (a:=t.pa) (i:=0) (x:=t.pr+(q:Int)) (by omega) (by omega) (by omega) (by omega)
    rw[Int.add_zero] at hd
    rw[hd.1,show t.pr+(q:Int)-t.pr=(q:Int) by omega] at this
    exact this
   ·refine jn (t.pr-1).toNat (((t.pr-1).toNat:Int)*t.pa) (by omega) ?_ (by unfold joiF;exact decide_eq_true (by omega)) (by unfold lstF;rw[if_neg (by omega)])
    unfold finR
    rw[if_neg (by omega),if_pos (by omega)]
    exact hspn _
   ·refine jn (t.pr-1).toNat 0 (by omega) ?_ (by unfold joiF;exact decide_eq_true (by omega)) (by unfold lstF;rw[if_neg (by omega)])
    unfold finR
    rw[if_neg (by omega),if_neg (by omega),if_neg (by omega),if_neg (by omega)]
    exact h0s
end Go.Af.Tryz
namespace Go.Af.Tryz
open Go Go.Proofs
set_option maxRecDepth 100000
set_option maxHeartbeats 4000000
attribute [local irreducible] awp qy qJ qP qH qo isCells qg qc qA qx qf roundEnd rdMap xx keyK wJ

theorem shlQ {q:Nat} (h:q≤6):(1:Int)*2 ^ (min ((q:Int)).toNat IntKind.i64.bits)=((2 ^ q:Nat):Int)∧2 ^ q≤64:=by
 have:q=0∨q=1∨q=2∨q=3∨q=4∨q=5∨q=6:=by omega
 rcases this with rfl | rfl | rfl | rfl | rfl | rfl | rfl <;> decide
theorem c33 {H:List Blk} {p:Nat} {R:Value→List Blk→Prop} (hp:p≤64) (h : ∀ q:Nat,(∀ e:Nat,p≤2 ^ e→q≤e)→R (.int .i64 (q:Int)) H):qy Tryz.prog 33 [.int .i64 (p:Int)] H R:=by
 refine qm tok Tryz.call33 Tryz.func33 rfl Tryz.ntmps33 rfl (by simp) ?_
 have hs:=HS.start H none'
 repeat' (first|refine nX ?_|refine nY (fun K0 hK0=>?_)|refine bH ?_|refine bM ?_|refine aI (by decide) ?_|refine iS hs ?_|refine rS hs ?_|refine eI _ (aI rfl ?_)|refine cF (fun _=>?_)|refine cT (fun _=>?_)|refine aI (by omega) ?_|refine oJ ?_|refine nN hs (fun _ _ hs=>?_)|refine nS hs (fun _ _ hs=>?_)|refine sX hs (fun _ hs=>?_)|refine rd ?_|(refine hK0 _ _ ?_;clear hK0)|fail)
 refine vz (α := Nat) tok (fun q => ∀ e:Nat,p≤2 ^ e→q≤e) (fun q=>[(0, .int .i64 (p:Int)),(3, .int .i64 (q:Int))]) (fun _=>H) (fun q=>64-q)
  0 (fun e _=>Nat.zero_le e) (Or.inl ⟨⟨rfl,rfl,trivial⟩,rfl⟩) ?_
 intro q hq
 have h6:=hq 6 hp
 repeat' (first|refine nX ?_|refine nY (fun K0 hK0=>?_)|refine bH ?_|refine bM ?_|refine aI (by decide) ?_|refine iS hs ?_|refine rS hs ?_|refine eI _ (aI rfl ?_)|refine cF (fun _=>?_)|refine cT (fun _=>?_)|refine aI (by omega) ?_|refine oJ ?_|refine nN hs (fun _ _ hs=>?_)|refine nS hs (fun _ _ hs=>?_)|refine sX hs (fun _ hs=>?_)|refine rd ?_|(refine hK0 _ _ ?_;clear hK0)|fail)
 obtain ⟨e1,e2⟩:=shlQ h6
 have hpow : ∀ e:Nat,e≤q→2 ^ e≤2 ^ q:=fun e he=>Nat.pow_le_pow_right (by decide) he
 generalize hz:(2 ^ q:Nat)=z at e1 e2 hpow
 refine Or.inl ⟨(z:Int),e1,by unfold I64;omega, ?_⟩
 repeat' (first|refine nX ?_|refine nY (fun K0 hK0=>?_)|refine bH ?_|refine bM ?_|refine aI (by decide) ?_|refine iS hs ?_|refine rS hs ?_|refine eI _ (aI rfl ?_)|refine cF (fun _=>?_)|refine cT (fun _=>?_)|refine aI (by omega) ?_|refine oJ ?_|refine nN hs (fun _ _ hs=>?_)|refine nS hs (fun _ _ hs=>?_)|refine sX hs (fun _ hs=>?_)|refine rd ?_|(refine hK0 _ _ ?_;clear hK0)|fail)
 refine And.intro (fun hc=>?_) (fun hc=>?_)
 ·have hzp:z<p:=by have:=of_decide_eq_true hc;omega
  repeat' (first|refine nX ?_|refine nY (fun K0 hK0=>?_)|refine bH ?_|refine bM ?_|refine aI (by decide) ?_|refine iS hs ?_|refine rS hs ?_|refine eI _ (aI rfl ?_)|refine cF (fun _=>?_)|refine cT (fun _=>?_)|refine aI (by omega) ?_|refine oJ ?_|refine nN hs (fun _ _ hs=>?_)|refine nS hs (fun _ _ hs=>?_)|refine sX hs (fun _ hs=>?_)|refine rd ?_|(refine hK0 _ _ ?_;clear hK0)|fail)
  refine⟨q+1,fun e he=>?_,by omega,Or.inl ⟨⟨rfl,rfl,trivial⟩,rfl⟩⟩
  rcases Nat.lt_or_ge q e with h1 | h1
  ·omega
  ·have:=hpow e h1;omega
 ·have hzp:p≤z:=by have:=of_decide_eq_false hc;omega
  repeat' (first|refine nX ?_|refine nY (fun K0 hK0=>?_)|refine bH ?_|refine bM ?_|refine aI (by decide) ?_|refine iS hs ?_|refine rS hs ?_|refine eI _ (aI rfl ?_)|refine cF (fun _=>?_)|refine cT (fun _=>?_)|refine aI (by omega) ?_|refine oJ ?_|refine nN hs (fun _ _ hs=>?_)|refine nS hs (fun _ _ hs=>?_)|refine sX hs (fun _ hs=>?_)|refine rd ?_|(refine hK0 _ _ ?_;clear hK0)|fail)
  exact h q hq
theorem wk8 (t:Tk) (alg:Int) (l:List Coll.St) (z1:t.sz.length≤9223372036854775807) (z2:t.ws.length≤9223372036854775807) (z3:l.length≤9223372036854775807) {m:LM} {argsR:Array Value} {w:World}
 (ha:LRel m [schV t alg 0 1 2 l.length] argsR.toList) (hr:HRel m [ro t.sz, .cells false 1 (bls t.ws), .cells false 6 (stsC l)] w) :
 Calls Tryz.prog 8 argsR w fun e w' => ∃ vR,e = .returned vR∧zK m [ro t.sz, .cells false 1 (bls t.ws), .cells false 6 (stsC l)] w (fun v _=>v = .bool true) vR w' := by
 refine calls_vcg tok Tryz.func8 rfl Tryz.ntmps8 rfl (by simp) ?_ ha hr
 generalize hH0 : [ro t.sz,Blk.cells false 1 (bls t.ws),Blk.cells false 6 (stsC l)]=H0
 have g0:Gr H0 t.sz 0:=⟨_,by rw[← hH0];rfl⟩
 have w0:Gw H0 t.ws 0 1:=⟨by decide,_,by rw[← hH0];rfl⟩
 have s0:Sts H0 l 2:=⟨_,by rw[← hH0];rfl⟩
 clear hH0 ha hr
 refine qI (HS.start H0 none') (fun H1 b1 e1 l1 hs=>?_)
 refine qE (fun _ hKs=>hKs _ _ ?_);clear hKs
 clear e1 l1
 repeat' (first|refine nX ?_|refine nY (fun K0 hK0=>?_)|refine bH ?_|refine bM ?_|refine aI (by decide) ?_|refine iS hs ?_|refine rS hs ?_|refine eI _ (aI rfl ?_)|refine cF (fun _=>?_)|refine cT (fun _=>?_)|refine aI (by omega) ?_|refine oJ ?_|refine nN hs (fun _ _ hs=>?_)|refine nS hs (fun _ _ hs=>?_)|refine sX hs (fun _ hs=>?_)|refine rd ?_|(refine hK0 _ _ ?_;clear hK0)|fail)
 refine c29 (g0.up (qj hs)) (s0.up (qj hs)) z1 z2 z3 (fun H2 hn=>?_)
 have hs:=qR hs hn
 clear hn
 have works : ∀ (H:List Blk) {R:Value→List Blk→Prop} (_:R (.bool true) H),qy Tryz.prog 15 [] H R:=fun H _ h=>(W.worksX H h).call
 by_cases h0:sndF t l=0
 ·rw[h0]
  have hpr:=(tk_ok (snd_ok h0).1).pr
  by_cases q:t.pr≤16∧l.length≤400∧t.op≠11
  ·obtain ⟨q1,q2,q3⟩:=q
   repeat' (first|refine nX ?_|refine nY (fun K0 hK0=>?_)|refine bH ?_|refine bM ?_|refine aI (by decide) ?_|refine iS hs ?_|refine rS hs ?_|refine eI _ (aI rfl ?_)|refine cF (fun _=>?_)|refine cT (fun _=>?_)|refine aI (by omega) ?_|refine oJ ?_|refine nN hs (fun _ _ hs=>?_)|refine nS hs (fun _ _ hs=>?_)|refine sX hs (fun _ hs=>?_)|((refine dI (fun hc=>?_) (fun hc=>?_)) <;> (try (exfalso;omega)))|refine rd ?_|(refine hK0 _ _ ?_;clear hK0)|fail)
   refine c26 (g0.up (qj hs)) (w0.up (qj hs)) (s0.up (qj hs)) z1 z2 z3 (fun H3 hn=>?_)
   have hs:=qR hs hn
   clear hn
   rw[h0,decide_eq_true rfl,Bool.true_and]
   repeat' (first|refine nX ?_|refine nY (fun K0 hK0=>?_)|refine bH ?_|refine bM ?_|refine aI (by decide) ?_|refine iS hs ?_|refine rS hs ?_|refine eI _ (aI rfl ?_)|refine cF (fun _=>?_)|refine cT (fun _=>?_)|refine aI (by omega) ?_|refine oJ ?_|refine nN hs (fun _ _ hs=>?_)|refine nS hs (fun _ _ hs=>?_)|refine sX hs (fun _ hs=>?_)|((refine dI (fun hc=>?_) (fun hc=>?_)) <;> (try (exfalso;omega)))|refine rd ?_|(refine hK0 _ _ ?_;clear hK0)|fail)
   refine c27 (g0.up (qj hs)) (s0.up (qj hs)) z1 z2 z3 (fun H4 hn=>?_)
   have hs:=qR hs hn
   clear hn
   rw[h0]
   obtain ⟨p,hp⟩ : ∃ p:Nat,t.pr=p:=⟨t.pr.toNat,by omega⟩
   have hrn:rgtF t l=true→∀ q:Nat,(∀ e:Nat,p≤2 ^ e→q≤e)→(q:Int)≤rndF t l:=fun hg q hq=>by
    obtain ⟨e,h1,h2⟩:=rgt_rounds q3 h0 hg
    rw[hp,Int.toNat_natCast] at h1
    have:=hq e h1
    omega
   generalize rgtF t l=rg at hrn
   generalize rndF t l=rn at hrn
   cases rg
   ·skip
    repeat' (first|refine nX ?_|refine nY (fun K0 hK0=>?_)|refine bH ?_|refine bM ?_|refine aI (by decide) ?_|refine iS hs ?_|refine rS hs ?_|refine eI _ (aI rfl ?_)|refine cF (fun _=>?_)|refine cT (fun _=>?_)|refine aI (by omega) ?_|refine oJ ?_|refine nN hs (fun _ _ hs=>?_)|refine nS hs (fun _ _ hs=>?_)|refine sX hs (fun _ hs=>?_)|((refine dI (fun hc=>?_) (fun hc=>?_)) <;> (try (exfalso;omega)))|refine rd ?_|(refine hK0 _ _ ?_;clear hK0)|fail)
    refine works _ ?_
    repeat' (first|refine nX ?_|refine nY (fun K0 hK0=>?_)|refine bH ?_|refine bM ?_|refine aI (by decide) ?_|refine iS hs ?_|refine rS hs ?_|refine eI _ (aI rfl ?_)|refine cF (fun _=>?_)|refine cT (fun _=>?_)|refine aI (by omega) ?_|refine oJ ?_|refine nN hs (fun _ _ hs=>?_)|refine nS hs (fun _ _ hs=>?_)|refine sX hs (fun _ hs=>?_)|((refine dI (fun hc=>?_) (fun hc=>?_)) <;> (try (exfalso;omega)))|refine rd ?_|(refine hK0 _ _ ?_;clear hK0)|fail)
    rfl
   ·skip
    repeat' (first|refine nX ?_|refine nY (fun K0 hK0=>?_)|refine bH ?_|refine bM ?_|refine aI (by decide) ?_|refine iS hs ?_|refine rS hs ?_|refine eI _ (aI rfl ?_)|refine cF (fun _=>?_)|refine cT (fun _=>?_)|refine aI (by omega) ?_|refine oJ ?_|refine nN hs (fun _ _ hs=>?_)|refine nS hs (fun _ _ hs=>?_)|refine sX hs (fun _ hs=>?_)|((refine dI (fun hc=>?_) (fun hc=>?_)) <;> (try (exfalso;omega)))|refine rd ?_|(refine hK0 _ _ ?_;clear hK0)|fail)
    rw[hp]
    refine c33 (by omega) (fun q hq=>?_)
    have hge:=hrn rfl q hq
    repeat' (first|refine nX ?_|refine nY (fun K0 hK0=>?_)|refine bH ?_|refine bM ?_|refine aI (by decide) ?_|refine iS hs ?_|refine rS hs ?_|refine eI _ (aI rfl ?_)|refine cF (fun _=>?_)|refine cT (fun _=>?_)|refine aI (by omega) ?_|refine oJ ?_|refine nN hs (fun _ _ hs=>?_)|refine nS hs (fun _ _ hs=>?_)|refine sX hs (fun _ hs=>?_)|((refine dI (fun hc=>?_) (fun hc=>?_)) <;> (try (exfalso;omega)))|refine rd ?_|(refine hK0 _ _ ?_;clear hK0)|fail)
    all_goals (
     refine works _ ?_
     repeat' (first|refine nX ?_|refine nY (fun K0 hK0=>?_)|refine bH ?_|refine bM ?_|refine aI (by decide) ?_|refine iS hs ?_|refine rS hs ?_|refine eI _ (aI rfl ?_)|refine cF (fun _=>?_)|refine cT (fun _=>?_)|refine aI (by omega) ?_|refine oJ ?_|refine nN hs (fun _ _ hs=>?_)|refine nS hs (fun _ _ hs=>?_)|refine sX hs (fun _ hs=>?_)|((refine dI (fun hc=>?_) (fun hc=>?_)) <;> (try (exfalso;omega)))|refine rd ?_|(refine hK0 _ _ ?_;clear hK0)|fail)
     rfl)
  ·skip
   repeat' (first|refine nX ?_|refine nY (fun K0 hK0=>?_)|refine bH ?_|refine bM ?_|refine aI (by decide) ?_|refine iS hs ?_|refine rS hs ?_|refine eI _ (aI rfl ?_)|refine cF (fun _=>?_)|refine cT (fun _=>?_)|refine aI (by omega) ?_|refine oJ ?_|refine nN hs (fun _ _ hs=>?_)|refine nS hs (fun _ _ hs=>?_)|refine sX hs (fun _ hs=>?_)|((refine dI (fun hc=>?_) (fun hc=>?_)) <;> (try (exfalso;omega)))|refine rd ?_|(refine hK0 _ _ ?_;clear hK0)|fail)
   all_goals (
    refine works _ ?_
    repeat' (first|refine nX ?_|refine nY (fun K0 hK0=>?_)|refine bH ?_|refine bM ?_|refine aI (by decide) ?_|refine iS hs ?_|refine rS hs ?_|refine eI _ (aI rfl ?_)|refine cF (fun _=>?_)|refine cT (fun _=>?_)|refine aI (by omega) ?_|refine oJ ?_|refine nN hs (fun _ _ hs=>?_)|refine nS hs (fun _ _ hs=>?_)|refine sX hs (fun _ hs=>?_)|((refine dI (fun hc=>?_) (fun hc=>?_)) <;> (try (exfalso;omega)))|refine rd ?_|(refine hK0 _ _ ?_;clear hK0)|fail)
    rfl)
 ·generalize sndF t l=z at h0
  repeat' (first|refine nX ?_|refine nY (fun K0 hK0=>?_)|refine bH ?_|refine bM ?_|refine aI (by decide) ?_|refine iS hs ?_|refine rS hs ?_|refine eI _ (aI rfl ?_)|refine cF (fun _=>?_)|refine cT (fun _=>?_)|refine aI (by omega) ?_|refine oJ ?_|refine nN hs (fun _ _ hs=>?_)|refine nS hs (fun _ _ hs=>?_)|refine sX hs (fun _ hs=>?_)|((refine dI (fun hc=>?_) (fun hc=>?_)) <;> (try (exfalso;omega)))|refine rd ?_|(refine hK0 _ _ ?_;clear hK0)|fail)
  refine works _ ?_
  repeat' (first|refine nX ?_|refine nY (fun K0 hK0=>?_)|refine bH ?_|refine bM ?_|refine aI (by decide) ?_|refine iS hs ?_|refine rS hs ?_|refine eI _ (aI rfl ?_)|refine cF (fun _=>?_)|refine cT (fun _=>?_)|refine aI (by omega) ?_|refine oJ ?_|refine nN hs (fun _ _ hs=>?_)|refine nS hs (fun _ _ hs=>?_)|refine sX hs (fun _ hs=>?_)|((refine dI (fun hc=>?_) (fun hc=>?_)) <;> (try (exfalso;omega)))|refine rd ?_|(refine hK0 _ _ ?_;clear hK0)|fail)
  rfl
end Go.Af.Tryz
