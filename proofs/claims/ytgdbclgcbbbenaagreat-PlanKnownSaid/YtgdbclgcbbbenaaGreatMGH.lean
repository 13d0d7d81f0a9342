/-
  (Split from G25.)
  Origins in slots: rows of origins, and what a step joins.
  What is in the slots at first: the reference.
-/
import Derived.Test.YtgdbclgcbbbenaaGreatMGG
set_option linter.all false
namespace Go.Af.Tryz.Co
open Go Go.Proofs
set_option maxRecDepth 100000
set_option maxHeartbeats 4000000
theorem zK : ∀ {l m:List Nat},l.Nodup->(∀ x∈l,x∈m)->l.length<=m.length
 | [],_,_,_=>Nat.zero_le _
 | a::l,m,hn,hs=>by
   have ha:=hs a List.mem_cons_self
   have hc:=List.nodup_cons.1 hn
   have:=zK (l:=l) (m:=m.erase a) hc.2 (fun x hx=>(List.mem_erase_of_ne (fun (e:x=a)=>hc.1 (by rw[<- e];exact hx))).2 (hs x (List.mem_cons_of_mem _ hx)))
   have h1:=List.length_erase_of_mem ha
   have h2:=List.length_pos_of_mem ha
   simp only[List.length_cons]
   omega
theorem nodup_perm : ∀ {l m:List Nat},l.Nodup->m.Nodup->(∀ x,x∈l↔x∈m)->l.Perm m
 | [],m,_,_,h=>by
   cases m with
   | nil=>exact .nil
   | cons b m=>exact absurd ((h b).2 List.mem_cons_self) (by simp)
 | a::l,m,hn,hm,h=>by
   have ha:=(h a).1 List.mem_cons_self
   have hc:=List.nodup_cons.1 hn
   refine (List.Perm.cons a (nodup_perm (l:=l) (m:=m.erase a) hc.2 (hm.erase a) (fun x=>?_))).trans (List.perm_cons_erase ha).symm
   rw[hm.mem_erase_iff]
   constructor
   ·exact fun hx=>⟨fun (e:x=a)=>hc.1 (by rw[<- e];exact hx),(h x).1 (List.mem_cons_of_mem _ hx)⟩
   ·rintro ⟨h1,h2⟩
    rcases List.mem_cons.1 ((h x).2 h2) with h3 | h3
    ·exact absurd h3 h1
    ·exact h3
end Go.Af.Tryz.Co
namespace Go.Af.Tryz.Co
open Go Go.Proofs
open Go.Af.Coll (St)
set_option maxRecDepth 100000
set_option maxHeartbeats 4000000
attribute [local irreducible] awp qi qw qH qy qx isCells qo qj qI qG ql roundEnd

abbrev Og:=Int × Int
def orgC:List Og->List Value
 | []=>[]
 | o::r=>.int .i64 o.1 :: .int .i64 o.2::orgC r
@[simp] theorem qU : ∀ l:List Og,(orgC l).length=l.length*2
  | []=>rfl
  | o::r=>by rw[orgC,List.length_cons,List.length_cons,qU r,List.length_cons];omega
theorem orgC_append : ∀ a b:List Og,orgC (a++b)=orgC a++orgC b
 | [],b=>rfl
 | o::r,b=>by rw[List.cons_append,orgC,orgC,orgC_append r b];rfl
theorem orgC_one : ∀ l:List Og,(orgC l).all vz=true
 | []=>rfl
 | o::r=>by
   rw[orgC,List.all_cons,List.all_cons,orgC_one r]
   rfl
def lfV (k:Nat):List Og->Value
 | []=>.slice none 0 0
 | o::r=>sv k (o::r).length
theorem xA {k:Nat} {l:List Og} (h:l≠[]):lfV k l=sv k l.length:=by
 cases l with
 | nil=>exact absurd rfl h
 | cons o r=>rfl
abbrev ogB (l:List Og):Blk := .cells true 2 (orgC l)
def Lf (H:List Blk) (k:Nat) (l:List Og):Prop:=l = []\/∃ w,bget H k=some (.cells w 2 (orgC l))
theorem Lf.up {H H' : List Blk} {k:Nat} {l:List Og} (g:Lf H k l) (h:HS H none' [] H'):Lf H' k l:=g.imp (fun h=>h) (fun ⟨w,hb⟩=>⟨w,zg h hb⟩)
section
variable {H0 H H' : List Blk} {o:Nat->Prop} {L:List (Bool × Nat × Blk)}
theorem app_none {size bytes b n:Nat} {K:Value->List Blk->Prop} (hsz:0<size) (h:K (.slice (some ⟨b,0,none⟩) n n) H):qI H size bytes (.slice (some ⟨b,0,none⟩) n n) (.slice none 0 0) K:=by
 unfold qI
 exact⟨hsz,rfl, .inl ⟨rfl,Nat.le_refl _,h⟩⟩
theorem appO_hs (h:HS H0 o L H) (i:Nat) {bytes b k n:Nat} {xs l:List Og} {K:Value->List Blk->Prop} (hi:L[i]? = some (true,b,ogB xs)) (hn:n=xs.length) (hk:Lf H k l) (hby:(n+l.length)*(bytes+1)<=70368744177664)
 (kk : ∀ (H' : List Blk) (b' : Nat),HS H0 o (L.set i (true,b',ogB (xs++l))) H' -> K (sv b' (xs++l).length) H') :
 qI H 2 bytes (sv b n) (lfV k l) K:=by
 subst hn
 cases l with
 | nil =>
   refine app_none (by decide) ?_
   have:=kk H b
   rw[List.append_nil] at this
   refine this ?_
   have e:L.set i (true,b,ogB xs)=L:=by
    obtain ⟨hlt,he⟩:=List.getElem?_eq_some_iff.1 hi
    rw[<- he,List.set_getElem_self]
   rw[e];exact h
 | cons y r =>
   rcases hk with hk | ⟨w,hk⟩
   ·cases hk
   ·refine appm_hs h i hi (by decide) hk (by simp) (by rw[qU]) (orgC_one _) (by rw[qU]) hby (fun H9 b9 e9 l9 hs=>?_)
    rw[<- orgC_append] at hs
    have:=kk H9 b9 hs
    rw[List.length_append] at this
    exact this
end
def joinL (j:Int) (old came:List Og):List Og:=if j=0 then came else if j=1 then came++old else old++came
end Go.Af.Tryz.Co
namespace Go.Af
open Go
section
variable {H0 H H' : List Blk} {o:Nat->Prop}
theorem HS.pickR {A R A' : List (Bool × Nat × Blk)} (h:HS H0 o (A++R) H) (is:List Nat) (hn:is.Nodup) (hA:is.map (fun i=>A[i]?)=A'.map some):HS H0 o (A' ++ R) H:=by
 have hget : ∀ (i:Nat) (p:Bool × Nat × Blk),A'[i]? = some p->∃ j,is[i]? = some j/\A[j]? = some p:=fun i p hp=>by
  have h1:=congrArg (fun l=>l[i]?) hA
  simp only[List.getElem?_map,hp,Option.map_some] at h1
  cases h2:is[i]? with
  | none=>rw[h2] at h1;cases h1
  | some j=>rw[h2] at h1;exact⟨j,rfl,by simpa using h1⟩
 have inA : ∀ {j:Nat} {p:Bool × Nat × Blk},A[j]? = some p->(A++R)[j]? = some p/\j<A.length:=fun {j p} hj=>by
  have hl:=(List.getElem?_eq_some_iff.1 hj).1
  exact⟨by rw[List.getElem?_append_left hl];exact hj,hl⟩
 have inR : ∀ {j:Nat} {p:Bool × Nat × Blk},R[j]? = some p->(A++R)[A.length+j]? = some p:=fun {j p} hj=>by
  rw[List.getElem?_append_right (by omega),Nat.add_sub_cancel_left];exact hj
 have sp : ∀ {i:Nat} {p:Bool × Nat × Blk},(A' ++ R)[i]? = some p->(A'[i]? = some p/\i<A'.length)\/(R[i-A'.length]? = some p/\A'.length<=i):=fun {i p} hi=>by
  by_cases hl:i<A'.length
  ·exact .inl ⟨by rw[List.getElem?_append_left hl] at hi;exact hi,hl⟩
  ·exact .inr ⟨by rw[List.getElem?_append_right (by omega)] at hi;exact hi,by omega⟩
 refine⟨fun {i c b B} hi=>?_,fun {i j p q} hi hj he=>?_,h.u⟩
 ·rcases sp hi with ⟨h1,_⟩ | ⟨h1,_⟩
  ·obtain ⟨j,_,h3⟩:=hget _ _ h1
   exact h.g (inA h3).1
  ·exact h.g (inR h1)
 ·rcases sp hi with ⟨h1,_⟩ | ⟨h1,l1⟩ <;> rcases sp hj with ⟨h2,_⟩ | ⟨h2,l2⟩
  ·obtain ⟨a,a1,a2⟩:=hget _ _ h1
   obtain ⟨b,b1,b2⟩:=hget _ _ h2
   have e:=h.nd (inA a2).1 (inA b2).1 he
   subst e
   have la:=(List.getElem?_eq_some_iff.1 a1).1
   have lb:=(List.getElem?_eq_some_iff.1 b1).1
   exact (List.getElem_inj hn).1 ((List.getElem?_eq_some_iff.1 a1).2.trans (List.getElem?_eq_some_iff.1 b1).2.symm)
  ·obtain ⟨a,a1,a2⟩:=hget _ _ h1
   have e:=h.nd (inA a2).1 (inR h2) he
   have:=(inA a2).2
   omega
  ·obtain ⟨b,b1,b2⟩:=hget _ _ h2
   have e:=h.nd (inR h1) (inA b2).1 he
   have:=(inA b2).2
   omega
  ·have e:=h.nd (inR h1) (inR h2) he
   omega
theorem HS.toEnd {A R LL:List (Bool × Nat × Blk)} {x:Bool × Nat × Blk} (h:HS H0 o (A++x::(R++LL)) H):HS H0 o (A++(R++x::LL)) H :=
 h.perm (List.Perm.append_left A List.perm_middle.symm)
end
end Go.Af
namespace Go.Af.Tryz.Co
open Go Go.Proofs
open Go.Af.Coll (St)
set_option maxRecDepth 100000
set_option maxHeartbeats 4000000
attribute [local irreducible] awp qi qw qH qy qx isCells qo qj qI qG ql roundEnd

theorem Ld_of {vs:List Value} {i:Nat} {v:Value} {K:Value->Prop} (hv:vs[i]? = some v) (h:K v):Ld vs (0+i*1) K:=⟨v,by rw[Nat.zero_add,Nat.mul_one];exact hv,h⟩
abbrev Rw:=List (Nat × List Og)
def rowC (es:Rw):List Value:=es.map (fun p=>lfV p.1 p.2)
abbrev rowB (es:Rw):Blk := .cells true 1 (rowC es)
def rwL (rows:List (Nat × Rw)):List (Bool × Nat × Blk):=rows.map (fun q=>(true,q.1,rowB q.2))
def outC (rows:List (Nat × Rw)) (m:Nat):List Value:=rows.map (fun q=>sv q.1 q.2.length)++List.replicate m (.slice none 0 0)
def lfL (M:Rw):List (Bool × Nat × Blk):=M.map (fun q=>(true,q.1,ogB q.2))
theorem rwL_all (rows:List (Nat × Rw)):(rwL rows).all (fun p=>p.1)=true:=by simp[rwL]
theorem lfL_all (M:Rw):(lfL M).all (fun p=>p.1)=true:=by simp[lfL]
theorem hs_toLf {H0 H:List Blk} {o:Nat->Prop} {A R:List (Bool × Nat × Blk)} {M:Rw} {k:Nat} {l:List Og} (h:HS H0 o (A++(true,k,ogB l)::(R++lfL M)) H):HS H0 o (A++(R++lfL ((k,l)::M))) H:=h.toEnd
def LfR (es M:Rw):Prop := ∀ e∈es,e.2≠[]->e∈M
def LfIn (rows:List (Nat × Rw)) (M:Rw):Prop := ∀ q∈rows,LfR q.2 M
theorem LfR.mono {es M M' : Rw} (h:LfR es M) (hs : ∀ x∈M,x∈M'):LfR es M' := fun e he hn=>hs _ (h e he hn)
theorem LfIn.mono {rows:List (Nat × Rw)} {M M' : Rw} (h:LfIn rows M) (hs : ∀ x∈M,x∈M'):LfIn rows M' := fun q hq=>(h q hq).mono hs
def cont (rows:List (Nat × Rw)):List (List (List Og)):=rows.map (fun q=>q.2.map Prod.snd)
theorem nils_eq (n:Nat):qW n [.slice none 0 0]=List.replicate n (.slice none 0 0):=by simp[qW]
theorem nils_row (n:Nat):List.replicate n (Value.slice none 0 0)=rowC (List.replicate n (0,[])):=by simp[rowC,lfV]
theorem outC_len (rows:List (Nat × Rw)) (m:Nat):(outC rows m).length=rows.length+m:=by simp[outC]
theorem rowC_len (es:Rw):(rowC es).length=es.length:=by simp[rowC]
theorem rowC_set (es:Rw) (i k:Nat) (l:List Og):(rowC es).set i (lfV k l)=rowC (es.set i (k,l)):=by simp[rowC,List.map_set]
theorem outC_snoc (rows:List (Nat × Rw)) (m rb:Nat) (es:Rw):(outC rows (m+1)).set rows.length (sv rb es.length)=outC (rows ++ [(rb,es)]) m:=by
 unfold outC
 rw[List.set_append,if_neg (by simp)]
 simp[List.replicate_succ]
theorem outC_get (rows:List (Nat × Rw)) (m i:Nat) (q:Nat × Rw) (h:rows[i]? = some q):(outC rows m)[i]? = some (sv q.1 q.2.length):=by
 unfold outC
 rw[List.getElem?_append_left (by have:=(List.getElem?_eq_some_iff.1 h).1;simpa using this)]
 simp[h]
def stR (t:Tk) (n:Nat) (r:Int):List (List Og):=(fstF t r).foldl (fun row i=>row.set i.toNat [(r,i)]) (List.replicate n [])
def stT (t:Tk):List (List (List Og)):=(List.range t.pr.toNat).map (fun r:Nat=>stR t (sltF t).toNat (r:Int))
theorem spn_mem {t:Tk} {f g x:Int} (h:x∈spnF t f g):f*t.pa<=x/\x<g*t.pa:=by
 unfold spnF at h
 obtain ⟨i,hi,rfl⟩:=List.mem_map.1 h
 have:=List.mem_range.1 hi
 omega
theorem fst_len {t:Tk} (kt:TkOk t) (r:Int):(fstF t r).length<=10000:=by
 have hb:=xQ kt
 have hpa:=kt.pa
 have hpr:=kt.pr
 have h1:(spnF t r (r+1)).length<=10000:=by rw[spn_len,Int.add_mul];omega
 have h2:(spnF t 0 t.pr).length<=10000:=by
  have:=mul_pa kt (g:=t.pr) (by omega) (by omega)
  have q:t.pr*t.pa<=128*16:=Int.mul_le_mul (by omega) hpa.2 (by omega) (by omega)
  rw[spn_len];omega
 have h3:(spnF t 0 1).length<=10000:=by rw[spn_len];omega
 have h4:(spnF t 0 (blkF t)).length<=10000:=by rw[spn_len];omega
 unfold fstF
 repeat' split
 all_goals first | omega | simp
theorem fst_range {t:Tk} (kt:TkOk t) {r x:Int} (hr:0<=r/\r<t.pr) (h:x∈fstF t r):0<=x/\x<blkF t*t.pa:=by
 have hpa:=kt.pa
 have hpr:=kt.pr
 have hb:=xQ kt
 have key : ∀ f g:Int,0<=f->g<=blkF t->x∈spnF t f g->0<=x/\x<blkF t*t.pa:=fun f g h1 h2 h3=>by
  have a:=spn_mem h3
  have b:0<=f*t.pa:=Int.mul_nonneg h1 (by omega)
  have c:g*t.pa<=blkF t*t.pa:=Int.mul_le_mul_of_nonneg_right h2 (by omega)
  omega
 unfold fstF at h
 split at h
 ·cases h
 ·split at h
  ·rename_i h1 h2
   refine key r (r+1) hr.1 ?_ h
   unfold blkF
   rw[if_pos (by omega)]
   omega
  ·split at h
   ·refine key 0 t.pr (Int.le_refl 0) ?_ h
    unfold blkF
    rw[if_neg (by omega),if_pos (by omega)]
    omega
   ·split at h
    ·exact key 0 1 (Int.le_refl 0) hb.1 h
    ·exact key 0 (blkF t) (Int.le_refl 0) (Int.le_refl _) h
end Go.Af.Tryz.Co
