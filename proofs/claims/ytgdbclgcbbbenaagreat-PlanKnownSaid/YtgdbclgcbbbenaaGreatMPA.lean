/-
  Counters: keys with numbers, in the order in which they came; what they come to does not depend on that order.
  Counters in memory: maps whose keys are rows of numbers; what is read, added, met one after the other.
  Machines; the home of a process; the greatest number in a counter.
  The greatest number in a counter whose keys a condition picks (the program's greatest).
  What the steps of a round cost, plainly; the calls of home and Route.
-/
import Derived.Test.YtgdbclgcbbbenaaGreatMA
import Derived.Test.YtgdbclgcbbbenaaGreatMCA
import Derived.Test.YtgdbclgcbbbenaaGreatMGA
import Derived.Test.YtgdbclgcbbbenaaGreatMX
import Derived.Test.YtgdbclgcbbbenaaGreatMGC
set_option linter.all false
namespace Go.Af.Pl
open Go Go.Af

abbrev Ctr:=List (List Int × Int)
def bump:Ctr->List Int->Int->Ctr
 | [],k,n=>[(k,n)]
 | x::l,k,n=>if x.1=k then (x.1,x.2+n)::l else x::bump l k n
def cnt:Ctr->List Int->Int
 | [],_=>0
 | x::l,k=>if x.1=k then x.2 else cnt l k
def ins:Ctr->List Int->Ctr
 | [],k=>[(k,0)]
 | x::l,k=>if x.1=k then x::l else x::ins l k
def pos:Ctr->List Int->Nat
 | [],_=>0
 | x::l,k=>if x.1=k then 0 else pos l k+1
abbrev add (l:Ctr) (xs:Ctr):Ctr:=xs.foldl (fun l x=>bump l x.1 x.2) l
abbrev ctr (xs:Ctr):Ctr:=add [] xs
abbrev keys (l:Ctr):List (List Int):=l.map Prod.fst

theorem add_snoc (l xs:Ctr) (k:List Int) (n:Int):add l (xs ++ [(k,n)])=bump (add l xs) k n:=by simp[add]
theorem ctr_snoc (xs:Ctr) (k:List Int) (n:Int):ctr (xs ++ [(k,n)])=bump (ctr xs) k n:=add_snoc [] xs k n
theorem bump_keys (k:List Int) (n:Int) : ∀ l:Ctr,keys (bump l k n)=if k∈keys l then keys l else keys l ++ [k]
 | []=>by simp[bump]
 | x::l=>by
   have ih:=bump_keys k n l
   unfold bump
   by_cases h:x.1=k
   ·rw[if_pos h];subst h;simp
   ·rw[if_neg h]
    simp only[List.map_cons,List.mem_cons,ih]
    have h' : ¬ k=x.1:=fun e=>h e.symm
    by_cases hk:k∈keys l
    ·rw[if_pos hk,if_pos (.inr hk)]
    ·rw[if_neg hk,if_neg (fun e=>e.elim h' hk)];rfl
theorem bump_nodup {l:Ctr} (h:(keys l).Nodup) (k:List Int) (n:Int):(keys (bump l k n)).Nodup:=by
 rw[bump_keys]
 split
 ·exact h
 ·rename_i hk
  rw[List.nodup_append]
  exact⟨h,by simp,fun a ha b hb e=>hk (by simp at hb;rw[<- hb,<- e];exact ha)⟩
theorem add_nodup : ∀ {xs:Ctr} {l:Ctr},(keys l).Nodup->(keys (add l xs)).Nodup
 | [],_,h=>h
 | x::xs,l,h=>add_nodup (xs:=xs) (bump_nodup h x.1 x.2)
theorem ctr_nodup (xs:Ctr):(keys (ctr xs)).Nodup:=add_nodup (by simp)
theorem bump_mem (k k' : List Int) (n:Int) (l:Ctr):k' ∈ keys (bump l k n)↔k' ∈ keys l\/k' = k:=by
 rw[bump_keys]
 split
 ·rename_i h
  constructor
  ·exact .inl
  ·rintro (h1 | h1)
   ·exact h1
   ·rw[h1];exact h
 ·simp
theorem add_mem (k:List Int) : ∀ (xs l:Ctr),k∈keys (add l xs)↔k∈keys l\/k∈keys xs
 | [],l=>by simp
 | x::xs,l=>by
   show k∈keys (add (bump l x.1 x.2) xs)↔_
   rw[add_mem k xs,bump_mem,show keys (x::xs)=x.1::keys xs from rfl,List.mem_cons]
   constructor
   ·rintro ((h | h) | h)
    ·exact .inl h
    ·exact .inr (.inl h)
    ·exact .inr (.inr h)
   ·rintro (h | h | h)
    ·exact .inl (.inl h)
    ·exact .inl (.inr h)
    ·exact .inr h
theorem cnt_bump (k k' : List Int) (n:Int) : ∀ l:Ctr,cnt (bump l k n) k' = cnt l k' + if k' = k then n else 0
 | []=>by
   unfold bump cnt
   by_cases h:k=k'
   ·simp[h]
   ·have h' : ¬ k' = k:=fun e=>h e.symm
    simp[h,h',cnt]
 | x::l=>by
   have ih:=cnt_bump k k' n l
   unfold bump
   by_cases h:x.1=k
   ·rw[if_pos h]
    unfold cnt
    by_cases h2:x.1=k'
    ·have e:k' = k:=h2.symm.trans h
     rw[if_pos h2,if_pos h2,if_pos e]
    ·have e : ¬ k' = k:=fun e=>h2 (h.trans e.symm)
     rw[if_neg h2,if_neg h2,if_neg e,Int.add_zero]
   ·rw[if_neg h]
    unfold cnt
    by_cases h2:x.1=k'
    ·have e : ¬ k' = k:=fun e=>h (h2.trans e)
     rw[if_pos h2,if_pos h2,if_neg e,Int.add_zero]
    ·rw[if_neg h2,if_neg h2,ih]
def sumK (k:List Int):Ctr->Int
 | []=>0
 | x::l=>(if k=x.1 then x.2 else 0)+sumK k l
theorem sumK_perm (k:List Int) {a b:Ctr} (h:a.Perm b):sumK k a=sumK k b:=by
 induction h with
 | nil=>rfl
 | cons x _ ih=>simp only[sumK,ih]
 | swap x y l=>simp only[sumK];omega
 | trans _ _ h1 h2=>rw[h1,h2]
theorem cnt_add (k:List Int) : ∀ (xs l:Ctr),cnt (add l xs) k=cnt l k+sumK k xs
 | [],l=>by simp[sumK]
 | x::xs,l=>by
   show cnt (add (bump l x.1 x.2) xs) k=_
   rw[cnt_add k xs,cnt_bump,Int.add_assoc]
   rfl
theorem cnt_ctr (k:List Int) (xs:Ctr):cnt (ctr xs) k=sumK k xs:=by rw[cnt_add];simp[cnt]
theorem sumK_bound {B:Int} (k:List Int) : ∀ {xs:Ctr},(∀ x∈xs,0<=x.2/\x.2<=B)->0<=sumK k xs/\sumK k xs<=xs.length*B
 | [],_=>by simp[sumK]
 | x::xs,h=>by
   have ih:=sumK_bound (B:=B) k (xs:=xs) (fun y hy=>h y (List.mem_cons_of_mem _ hy))
   have hx:=h x List.mem_cons_self
   have e:((x::xs).length:Int)*B=xs.length*B+B:=by rw[List.length_cons,Int.natCast_add,Int.add_mul];simp
   rw[e]
   unfold sumK
   split <;> omega
theorem mem_cnt {l:Ctr} (hn:(keys l).Nodup) (k:List Int) (v:Int):(k,v)∈l↔k∈keys l/\cnt l k=v:=by
 induction l with
 | nil=>simp
 | cons x l ih =>
   obtain ⟨a,b⟩:=x
   have hn:=List.nodup_cons.1 (show ((a::keys l):List (List Int)).Nodup from hn)
   simp only[List.mem_cons,List.map_cons,Prod.mk.injEq,cnt]
   by_cases h:a=k
   ·subst h
    rw[if_pos rfl]
    have hn1 : ∀ v,(a,v) ∉ l:=fun v hv=>hn.1 (List.mem_map.2 ⟨_,hv,rfl⟩)
    constructor
    ·rintro (⟨_,e⟩ | e)
     ·exact⟨.inl rfl,e.symm⟩
     ·exact absurd e (hn1 v)
    ·rintro ⟨_,e⟩
     exact .inl ⟨rfl,e.symm⟩
   ·rw[if_neg h,ih hn.2]
    have h' : ¬ k=a:=fun e=>h e.symm
    constructor
    ·rintro (⟨e,_⟩ | e)
     ·exact absurd e h'
     ·exact⟨.inr e.1,e.2⟩
    ·rintro ⟨e | e,e2⟩
     ·exact absurd e h'
     ·exact .inr ⟨e,e2⟩
theorem nodup_permL {α : Type} [DecidableEq α] : ∀ {l m:List α},l.Nodup->m.Nodup->(∀ x,x∈l↔x∈m)->l.Perm m
 | [],m,_,_,h=>by
   cases m with
   | nil=>exact .nil
   | cons b m=>exact absurd ((h b).2 List.mem_cons_self) (by simp)
 | a::l,m,hn,hm,h=>by
   have ha:=(h a).1 List.mem_cons_self
   have hc:=List.nodup_cons.1 hn
   refine (List.Perm.cons a (nodup_permL (l:=l) (m:=m.erase a) hc.2 (hm.erase a) (fun x=>?_))).trans (List.perm_cons_erase ha).symm
   rw[hm.mem_erase_iff]
   constructor
   ·exact fun hx=>⟨fun (e:x=a)=>hc.1 (by rw[<- e];exact hx),(h x).1 (List.mem_cons_of_mem _ hx)⟩
   ·rintro ⟨h1,h2⟩
    rcases List.mem_cons.1 ((h x).2 h2) with h3 | h3
    ·exact absurd h3 h1
    ·exact h3
theorem nodup_fst {l:Ctr} (h:(keys l).Nodup):l.Nodup:=by
 rw[List.Nodup,List.pairwise_map] at h
 exact h.imp (fun h e=>h (by rw[e]))
theorem ctr_perm {xs ys:Ctr} (h:xs.Perm ys):(ctr xs).Perm (ctr ys):=by
 refine nodup_permL (nodup_fst (ctr_nodup xs)) (nodup_fst (ctr_nodup ys)) (fun x=>?_)
 obtain ⟨k,v⟩:=x
 rw[mem_cnt (ctr_nodup xs),mem_cnt (ctr_nodup ys),cnt_ctr,cnt_ctr,sumK_perm k h,add_mem,add_mem]
 have e:k∈keys xs↔k∈keys ys:=(h.map Prod.fst).mem_iff
 rw[e]
def grt (p:List Int->Bool) (l:Ctr):Int:=l.foldl (fun n x=>if p x.1 then max n x.2 else n) 0
theorem grt_perm {p:List Int->Bool} {a b:Ctr} (h:a.Perm b):grt p a=grt p b:=by
 unfold grt
 refine h.foldl_eq' (fun x _ y _ z=>?_) 0
 split <;> split <;> omega
theorem pos_mem {k:List Int} : ∀ {l:Ctr},k∈keys l->∃ x,l[pos l k]? = some x/\x.1=k/\x.2=cnt l k
 | [],h=>by simp at h
 | x::l,h=>by
   unfold pos cnt
   by_cases hx:x.1=k
   ·rw[if_pos hx,if_pos hx];exact⟨x,rfl,hx,rfl⟩
   ·rw[if_neg hx,if_neg hx]
    have h' : k∈keys l:=by
     rcases List.mem_cons.1 (show k∈x.1::keys l from h) with e | e
     ·exact absurd e.symm hx
     ·exact e
    obtain ⟨y,h1,h2,h3⟩:=pos_mem h'
    exact⟨y,by simpa using h1,h2,h3⟩
theorem pos_not {k:List Int} : ∀ {l:Ctr},k ∉ keys l->pos l k=l.length/\cnt l k=0/\ins l k=l ++ [(k,0)]
 | [],_=>⟨rfl,rfl,rfl⟩
 | x::l,h=>by
   have h1 : ¬ x.1=k:=fun e=>h (by simp[e])
   obtain ⟨a,b,c⟩:=pos_not (l:=l) (k:=k) (fun e=>h (List.mem_cons_of_mem _ e))
   unfold pos cnt ins
   rw[if_neg h1,if_neg h1,if_neg h1,a,b,c]
   exact⟨rfl,rfl,rfl⟩
theorem ins_mem {k:List Int} : ∀ {l:Ctr},k∈keys l->ins l k=l
 | [],h=>by simp at h
 | x::l,h=>by
   unfold ins
   by_cases hx:x.1=k
   ·rw[if_pos hx]
   ·rw[if_neg hx]
    have h' : k∈keys l:=by
     rcases List.mem_cons.1 (show k∈x.1::keys l from h) with e | e
     ·exact absurd e.symm hx
     ·exact e
    rw[ins_mem h']
theorem cnt_ins (k:List Int) : ∀ l:Ctr,cnt (ins l k) k=cnt l k
 | []=>by simp[ins,cnt]
 | x::l=>by
   unfold ins
   by_cases hx:x.1=k
   ·rw[if_pos hx]
   ·rw[if_neg hx];unfold cnt;rw[if_neg hx,if_neg hx,cnt_ins k l]
theorem ins_keys (k:List Int) (l:Ctr):k∈keys (ins l k):=by
 by_cases h:k∈keys l
 ·rw[ins_mem h];exact h
 ·rw[(pos_not h).2.2];simp
theorem pos_ins (k:List Int) : ∀ l:Ctr,pos (ins l k) k=pos l k
 | []=>by simp[ins,pos]
 | x::l=>by
   unfold ins
   by_cases hx:x.1=k
   ·rw[if_pos hx]
   ·rw[if_neg hx];unfold pos;rw[if_neg hx,if_neg hx,pos_ins k l]
theorem ins_set (k:List Int) (n:Int) : ∀ l:Ctr,(ins l k).modify (pos l k) (fun x=>(x.1,cnt l k+n))=bump l k n
 | []=>by simp[ins,pos,bump,cnt]
 | x::l=>by
   have ih:=ins_set k n l
   unfold ins pos bump cnt
   by_cases hx:x.1=k
   ·rw[if_pos hx,if_pos hx,if_pos hx,if_pos hx];rfl
   ·rw[if_neg hx,if_neg hx,if_neg hx,if_neg hx,List.modify_succ_cons,ih]
theorem add_all {P:List Int->Prop} {xs:Ctr} (h : ∀ x∈xs,P x.1) : ∀ x∈ctr xs,P x.1:=fun x hx=>by
 have:=(add_mem x.1 xs []).1 (List.mem_map.2 ⟨x,hx,rfl⟩)
 rcases this with h1 | h1
 ·simp at h1
 ·obtain ⟨y,hy,e⟩:=List.mem_map.1 h1
  rw[<- e];exact h y hy
theorem ins_all {P:List Int->Prop} {l:Ctr} (h : ∀ x∈l,P x.1) {k:List Int} (hk:P k) : ∀ x∈ins l k,P x.1:=fun x hx=>by
 by_cases hm:k∈keys l
 ·rw[ins_mem hm] at hx;exact h x hx
 ·rw[(pos_not hm).2.2] at hx
  rcases List.mem_append.1 hx with h1 | h1
  ·exact h x h1
  ·simp at h1;rw[h1];exact hk
end Go.Af.Pl
namespace Go.Af.Pl
open Go Go.Af
set_option maxRecDepth 100000
attribute [local irreducible] zD wS keyK vX

structure KeyT (P:Program) (T:TT) (kt n:Nat):Prop where
 eq : ∀ (H:List Blk) (a b:List Int) (K:Bool->Prop),a.length=n->b.length=n->K (decide (a=b))->keq P T H kt (.agg ⟨ints a⟩) (.agg ⟨ints b⟩) K
 ok : ∀ (a:List Int) (K:Prop),a.length=n->K->keyK P T kt (.agg ⟨ints a⟩) K
def entC (l:Ctr):List MapEntry:=l.mapIdx fun i x=>⟨.agg ⟨ints x.1⟩, .int .i64 x.2,i⟩
abbrev mpC (l:Ctr):Blk := .map true (entC l) l.length
def keyInts (v:Value):List Int:=match v with
 | .agg vs=>vs.toList.map (fun v=>match v with | .int _ z=>z | _=>0)
 | _=>[]
theorem wL (a:List Int):keyInts (.agg ⟨ints a⟩)=a:=by
 show (ints a).map _=a
 induction a with
 | nil=>rfl
 | cons x a ih=>exact congrArg (x :: ·) ih
theorem entC_get {l:Ctr} {j:Nat} {e:MapEntry} (h:(entC l)[j]? = some e) : ∃ x,l[j]? = some x/\e=⟨.agg ⟨ints x.1⟩, .int .i64 x.2,j⟩:=by
 unfold entC at h
 rw[List.getElem?_mapIdx] at h
 cases hw:l[j]? with
 | none=>rw[hw] at h;cases h
 | some p=>rw[hw] at h;cases h;exact⟨p,rfl,rfl⟩
theorem entC_at {l:Ctr} {j:Nat} {x:List Int × Int} (h:l[j]? = some x):(entC l)[j]? = some ⟨.agg ⟨ints x.1⟩, .int .i64 x.2,j⟩:=by
 unfold entC
 rw[List.getElem?_mapIdx,h];rfl
theorem entC_len (l:Ctr):(entC l).length=l.length:=by unfold entC;simp
theorem entC_snoc (l:Ctr) (k:List Int) (n:Int):entC l ++ [⟨.agg ⟨ints k⟩, .int .i64 n,l.length⟩]=entC (l ++ [(k,n)]):=by unfold entC;rw[List.mapIdx_append];simp
theorem pos_first {k:List Int} : ∀ {l:Ctr} {j:Nat} {x:List Int × Int},l[j]? = some x->x.1=k->(∀ j' y,j' < j->l[j']? = some y->y.1≠k)->pos l k=j
 | [],j,x,h,_,_=>by simp at h
 | y::l,0,x,h,hk,_=>by
   simp at h;subst h
   unfold pos;rw[if_pos hk]
 | y::l,j+1,x,h,hk,hb=>by
   have h0:=hb 0 y (by omega) rfl
   unfold pos;rw[if_neg h0,pos_first (l:=l) (j:=j) (by simpa using h) hk (fun j' z hj hz=>hb (j' + 1) z (by omega) (by simpa using hz))]
theorem mfind_l {P:Program} {T' : TT} {H:List Blk} {kt:Nat} {k:Value} {K:Option Nat->Prop} (t:MapEntry->Bool) : ∀ (l:List MapEntry) (i:Nat) (_ : ∀ e∈l, ∀ K' : Bool->Prop,K' (t e)->keq P T' H kt k e.key K')
 (_ : ∀ j e,l[j]? = some e->t e=true->(∀ j' e',j' < j->l[j']? = some e' -> t e' = false)->K (some (i+j))) (_:(∀ e∈l,t e=false)->K none),vX P T' H kt k l i K
 | [],i,_,_,h3=>by unfold vX;exact h3 (fun e h=>by cases h)
 | e::l,i,h1,h2,h3=>by
   unfold vX
   refine h1 e List.mem_cons_self _ ?_
   cases hte:t e with
   | true=>exact h2 0 e rfl hte (fun j' e' hj=>absurd hj (by omega))
   | false =>
     refine mfind_l t l (i+1) (fun e he=>h1 e (List.mem_cons_of_mem _ he)) (fun j e' hj ht hb=>?_) (fun hn=>h3 (fun e' he=>?_))
     ·have:=h2 (j+1) e' (by simpa using hj) ht (fun j' e2 hj' he2=>by
       cases j' with
       | zero=>simp at he2;subst he2;exact hte
       | succ j' => exact hb j' e2 (by omega) (by simpa using he2))
      rw[show i+1+j=i+(j+1) by omega];exact this
     ·rcases List.mem_cons.1 he with h | h
      ·subst h;exact hte
      ·exact hn e' h
section
variable {P:Program} {T:TT} {kt n:Nat}
theorem mfind_C (hk:KeyT P T kt n) {H:List Blk} {l:Ctr} {k:List Int} {K:Option Nat->Prop} (hl : ∀ x∈l,x.1.length=n) (hkl:k.length=n) (h1:k∈keys l->K (some (pos l k))) (h0:k ∉ keys l->K none) :
 vX P T H kt (.agg ⟨ints k⟩) (entC l) 0 K:=by
 refine mfind_l (fun e=>decide (k=keyInts e.key)) _ _ (fun e he K' hK=>?_) (fun j e hj ht hb=>?_) (fun hn=>h0 (fun hm=>?_))
 ·obtain ⟨j,hj⟩:=List.getElem?_of_mem he
  obtain ⟨x,hx,rfl⟩:=entC_get hj
  rw[wL] at hK
  exact hk.eq H k x.1 K' hkl (hl x (List.mem_of_getElem? hx)) hK
 ·obtain ⟨x,hx,rfl⟩:=entC_get hj
  rw[wL] at ht
  have hxk:x.1=k:=(of_decide_eq_true ht).symm
  rw[Nat.zero_add,<- pos_first hx hxk (fun j' y hj' hy e=>?_)]
  ·exact h1 (List.mem_map.2 ⟨x,List.mem_of_getElem? hx,hxk⟩)
  ·have:=hb j' _ hj' (entC_at hy)
   rw[wL] at this
   exact of_decide_eq_false this e.symm
 ·obtain ⟨x,hx,e⟩:=List.mem_map.1 hm
  obtain ⟨j,hj⟩:=List.getElem?_of_mem hx
  have:=hn _ (List.mem_of_getElem? (entC_at hj))
  rw[wL] at this
  exact of_decide_eq_false this e.symm
theorem look_C (hk:KeyT P T kt n) {H:List Blk} {m c:Nat} {wr:Bool} {l:Ctr} {k:List Int} {K:Value->Prop} (hm:bget H m=some (.map wr (entC l) c)) (hl : ∀ x∈l,x.1.length=n) (hkl:k.length=n) (h:K (.int .i64 (cnt l k))) :
 zD H m (fun es=>keyK P T kt (.agg ⟨ints k⟩) (vX P T H kt (.agg ⟨ints k⟩) es 0 (fun r=>lkK false (.int .i64 0) es r K))):=by
 refine rdMap_of hm (hk.ok _ _ hkl (mfind_C hk hl hkl (fun hm=>?_) (fun hm=>?_)))
 ·obtain ⟨x,h1,h2,h3⟩:=pos_mem hm
  refine⟨_,entC_at h1, ?_⟩
  rw[<- h3] at h;exact h
 ·rw[(pos_not hm).2.1] at h;exact h
theorem entC_modify (l:Ctr) (p:Nat) (f:List Int × Int->List Int × Int) (g:MapEntry->MapEntry) (h : ∀ x i,g ⟨.agg ⟨ints x.1⟩, .int .i64 x.2,i⟩=⟨.agg ⟨ints (f x).1⟩, .int .i64 (f x).2,i⟩):(entC l).modify p g=entC (l.modify p f):=by
 apply List.ext_getElem?
 intro i
 unfold entC
 rw[List.getElem?_modify,List.getElem?_mapIdx,List.getElem?_mapIdx,List.getElem?_modify]
 cases hl:l[i]? with
 | none=>simp
 | some x =>
   by_cases hp:p=i
   ·simp[hp,h]
   ·simp[hp]
theorem find_C {l:Ctr} {p:Nat} (hp:p<l.length):(entC l).findIdx? (fun e=>decide ((e.born:Int)=(p:Int)))=some p:=by
 rw[List.findIdx?_eq_some_iff_getElem]
 refine⟨by rw[entC_len];exact hp, ?_,fun j hj=>?_⟩
 ·simp[entC]
 ·simp[entC];omega
variable {H0 H:List Blk} {o:Nat->Prop} {L:List (Bool × Nat × Blk)}
theorem ment_hs (hk:KeyT P T kt n) (hs:HS H0 o L H) (i:Nat) {m:Nat} {l:Ctr} {k:List Int} {K:Value->List Blk->Prop} (hi:L[i]? = some (true,m,mpC l)) (hl : ∀ x∈l,x.1.length=n) (hkl:k.length=n)
 (kk : ∀ H',HS H0 o (L.set i (true,m,mpC (ins l k))) H' -> K (.tuple ⟨[.int .i64 (cnt l k), .int .i64 ((pos l k:Nat):Int)]⟩) H') :
 wS H m (fun es clock=>keyK P T kt (.agg ⟨ints k⟩) (vX P T H kt (.agg ⟨ints k⟩) es 0 (fun r=>match r with
  | some p=>entAt es p (fun e=>ww H m (.map true (es.modify p (fun e=>{ e with key := .agg ⟨ints k⟩ })) clock) (fun H' => K (.tuple ⟨[e.val, .int .i64 e.born]⟩) H'))
  | none=>ww H m (.map true (es ++ [⟨.agg ⟨ints k⟩, .int .i64 0,clock⟩]) (clock+1)) (fun H' => K (.tuple ⟨[.int .i64 0, .int .i64 clock]⟩) H')))):=by
 refine zH (hs.get i hi) (hk.ok _ _ hkl (mfind_C hk hl hkl (fun hm=>?_) (fun hm=>?_)))
 ·obtain ⟨x,h1,h2,h3⟩:=pos_mem hm
  refine⟨_,entC_at h1,wJ (hs.lt i hi) (fun H' g1 g2 g3=>?_)⟩
  have e:(entC l).modify (pos l k) (fun e=>{ e with key := .agg ⟨ints k⟩ })=entC l:=by
   apply List.ext_getElem?
   intro q
   rw[List.getElem?_modify]
   by_cases hq:pos l k=q
   ·rw[<- hq,entC_at h1,h2];simp
   ·simp[hq]
  rw[e] at g2
  have:=kk H' (hs.set i hi g1 (by rw[g2,ins_mem hm]) g3)
  rw[<- h3] at this
  exact this
 ·obtain ⟨h1,h2,h3⟩:=pos_not hm
  refine wJ (hs.lt i hi) (fun H' g1 g2 g3=>?_)
  rw[entC_snoc] at g2
  have:=kk H' (hs.set i hi g1 (by rw[g2,h3];simp) g3)
  rw[h1,h2] at this
  exact this
theorem ests_hs (hs:HS H0 o L H) (i:Nat) {m:Nat} {l:Ctr} {k:List Int} {z:Int} {K:Value->List Blk->Prop} (hi:L[i]? = some (true,m,mpC (ins l k))) (kk : ∀ H',HS H0 o (L.set i (true,m,mpC (bump l k z))) H' -> K undef H') :
 wS H m (fun es clock => ∃ p,es.findIdx? (fun e=>decide ((e.born:Int)=((pos l k:Nat):Int)))=some p/\ww H m (.map true (es.modify p (fun e=>{ e with val := .int .i64 (cnt l k+z) })) clock) (fun H' => K undef H')):=by
 have hp:pos l k<(ins l k).length:=by
  obtain ⟨x,h1,_⟩:=pos_mem (ins_keys k l)
  rw[pos_ins] at h1
  exact (List.getElem?_eq_some_iff.1 h1).1
 refine zH (hs.get i hi) ⟨_,find_C hp,wJ (hs.lt i hi) (fun H' g1 g2 g3=>kk H' (hs.set i hi g1 ?_ g3))⟩
 rw[g2,entC_modify (ins l k) (pos l k) (fun x=>(x.1,cnt l k+z)) _ (fun x i=>rfl),ins_set]
 have e:=congrArg List.length (ins_set k z l)
 rw[List.length_modify] at e
 rw[e]
theorem ment_as (hk:KeyT P T kt n) (hs:HS H0 o L H) (i:Nat) {m t et:Nat} {mo ko:Operand} {bi bj:TI} {sl:List (Nat × Value)} {l:Ctr} {k:List Int} {K:Value->List Blk->Prop} (hl : ∀ x∈l,x.1.length=n)
 (kk : ∀ H',HS H0 o (L.set i (true,m,mpC (ins l k))) H' -> K (.tuple ⟨[.int .i64 (cnt l k), .int .i64 ((pos l k:Nat):Int)]⟩) H')
 (hi:L[i]? = some (true,m,mpC l):=by exact rfl) (hkl:k.length=n:=by exact rfl)
 (h1:tget T t=some bi:=by exact rfl) (h2:bi.kind = .map kt et:=by exact rfl) (h3:tget T et=some bj:=by exact rfl) (h4:bj.zero = .int .i64 0:=by exact rfl) (h5:ev sl mo=some (.map (some m)):=by exact rfl) (h6:ev sl ko=some (.agg ⟨ints k⟩):=by exact rfl) :
 zM P T (.mapEntry t mo ko) sl H K:=by
 simp only[zM,h1,h2,h3,h4,h5,h6]
 exact ment_hs hk hs i hi hl hkl kk
theorem ests_as (hs:HS H0 o L H) (i:Nat) {m t:Nat} {mo so xo:Operand} {sl:List (Nat × Value)} {l:Ctr} {k:List Int} {z:Int} {K:Value->List Blk->Prop}
 (kk : ∀ H',HS H0 o (L.set i (true,m,mpC (bump l k z))) H' -> K undef H')
 (hi:L[i]? = some (true,m,mpC (ins l k)):=by exact rfl) (h5:ev sl mo=some (.map (some m)):=by exact rfl) (h6:ev sl so=some (.int .i64 ((pos l k:Nat):Int)):=by exact rfl) (h7:ev sl xo=some (.int .i64 (cnt l k+z)):=by exact rfl) :
 zM P T (.entryStore t mo so xo) sl H K:=by
 simp only[zM,h5,h6,h7]
 exact ests_hs hs i hi kk
/-! ### Going through -/
theorem mem_entC {l:Ctr} {e:MapEntry} (h:e∈entC l) : ∃ i, ∃ hi:i<l.length,e=⟨.agg ⟨ints l[i].1⟩, .int .i64 l[i].2,i⟩:=by
 obtain ⟨j,hj⟩:=List.getElem?_of_mem h
 obtain ⟨p,hp,rfl⟩:=entC_get hj
 obtain ⟨hlt,rfl⟩:=List.getElem?_eq_some_iff.1 hp
 exact⟨j,hlt,rfl⟩
theorem entC_mem {l:Ctr} {i:Nat} (hi:i<l.length):(⟨.agg ⟨ints l[i].1⟩, .int .i64 l[i].2,i⟩:MapEntry)∈entC l:=List.mem_of_getElem? (entC_at (List.getElem?_eq_getElem hi))
theorem find_entC {l:Ctr} {i:Nat} (hi:i<l.length):(entC l).find? (fun e=>Nat.beq e.born i)=some ⟨.agg ⟨ints l[i].1⟩, .int .i64 l[i].2,i⟩:=by
 rw[List.find?_eq_some_iff_getElem]
 refine⟨by simp,i,by rw[entC_len];exact hi,by simp[entC],fun j hj=>?_⟩
 have e:((entC l)[j]'(by rw[entC_len];omega)).born=j:=by simp[entC]
 show (!(Nat.beq _ i))=true
 rw[e]
 cases hb:Nat.beq j i with
 | false=>rfl
 | true=>exact absurd (Nat.eq_of_beq_eq_true hb) (by omega)
theorem nextC_some (l:Ctr) (seen:List Nat):(seen.toArray.isEmpty||(entC l).isEmpty || !((entC l).all (fun e=>decide (l.length<=e.born))))=true:=by
 cases l with
 | nil=>simp[entC]
 | cons p S=>simp[entC,List.mapIdx_cons]
theorem zK : ∀ {l m:List Nat},l.Nodup->(∀ x∈l,x∈m)->l.length<=m.length
 | [],_,_,_=>Nat.zero_le _
 | a::l,m,hn,hs=>by
   have ha:=hs a List.mem_cons_self
   have hc:=List.nodup_cons.1 hn
   have:=zK (l:=l) (m:=m.erase a) hc.2 (fun x hx=>(List.mem_erase_of_ne (fun (e:x=a)=>hc.1 (by rw[<- e];exact hx))).2 (hs x (List.mem_cons_of_mem _ hx)))
   have h1:=List.length_erase_of_mem ha
   have h2:=List.length_pos_of_mem ha
   simp only[List.length_cons]
   omega
theorem seen_all {α : Type} [Inhabited α] {l:List α} {seen:List Nat} (hn:seen.Nodup) (hb : ∀ y∈seen,y<l.length) (hf : ∀ y,y<l.length->y∈seen):(seen.map (fun i=>l[i]!)).Perm l:=by
 have hp:seen.Perm (List.range l.length):=nodup_permL hn List.nodup_range (fun y=>by rw[List.mem_range];exact⟨hb y,hf y⟩)
 have he:(List.range l.length).map (fun i=>l[i]!)=l:=by
  apply List.ext_getElem
  ·simp
  ·intro i h1 h2
   simp
   rw[getElem?_pos l i h2]
   rfl
 have:=hp.map (fun i=>l[i]!)
 rw[he] at this
 exact this
end
end Go.Af.Pl
namespace Go.Af.Tryz
open Go Go.Proofs Go.Af.Pl Co
set_option maxRecDepth 100000
set_option maxHeartbeats 4000000

structure Mc where
 kd:Int
 sd:List Int
 ho:Int
 hs:List Int
 st:Int
 hp:Int
 wd:Int
 jn:Int
abbrev mcC (m:Mc) (b c:Nat):List Value := [.int .i64 m.kd,sv b m.sd.length, .int .i64 m.ho,sv c m.hs.length, .int .i64 m.st, .int .i64 m.hp, .int .i64 m.wd, .int .i64 m.jn]
abbrev mcV (m:Mc) (b c:Nat):Value := .agg ⟨mcC m b c⟩
structure Mr (H:List Blk) (m:Mc) (b c:Nat):Prop where
 s : ∃ w,bget H b=some (.cells w 1 (ints m.sd))
 h : ∃ w,bget H c=some (.cells w 1 (ints m.hs))
theorem Mr.up {H H' : List Blk} {m:Mc} {b c:Nat} (g:Mr H m b c) (h:HS H none' [] H'):Mr H' m b c:=⟨g.s.imp fun _ hb=>zg h hb,g.h.imp fun _ hb=>zg h hb⟩

theorem ht191:Tryz.prog.underlying 191=some (.struct (Tryz.prog.fieldsOf 191)):=by kernel_rfl
theorem mk191:MKey Tryz.prog 191 [.i64, .i64, .i64]:=xu ht191 (by kernel_rfl) (by kernel_rfl) (xB (by kernel_rfl))
theorem mk77:MKey Tryz.prog 77 [.i64, .i64]:=mkey_arr (n:=2) (e:=3) (k := .i64) (by kernel_rfl) (i:=(Tryz.prog.info? 3).getD default) (by kernel_rfl) (by kernel_rfl) (by kernel_rfl) (PK.of_ofB (by kernel_rfl))
theorem kt191:KeyT Tryz.prog T 191 3:=⟨fun H a b K ha hb h=>by
 match a,b,ha,hb with
 | [x,y,z],[x',y',z'],_,_=>exact⟨[.i64, .i64, .i64],mk191,h⟩,fun a K ha h=>by
 match a,ha with
 | [x,y,z],_=>exact⟨[.i64, .i64, .i64],mk191,h⟩⟩
theorem kt77:KeyT Tryz.prog T 77 2:=⟨fun H a b K ha hb h=>by
 match a,b,ha,hb with
 | [x,y],[x',y'],_,_=>exact⟨[.i64, .i64],mk77,h⟩,fun a K ha h=>by
 match a,ha with
 | [x,y],_=>exact⟨[.i64, .i64],mk77,h⟩⟩

attribute [local irreducible] awp qi qw qH qy qx isCells qo qj qI qG ql roundEnd zD wS keyK vX zL xh

theorem tdiv_le {x y:Int} (hx:0<=x) (hy:1<=y):0<=x.tdiv y/\x.tdiv y<=x:=by
 rw[Int.tdiv_eq_ediv_of_nonneg hx]
 exact⟨Int.ediv_nonneg hx (by omega),Int.ediv_le_self y hx⟩
def homF (m:Mc) (r:Int):Int:=(m.hs[r.toNat]!).tdiv m.ho
theorem c100 {H:List Blk} {m:Mc} {b c:Nat} {r:Int} {R:Value->List Blk->Prop} (g:Mr H m b c) (hr:0<=r/\r<m.hs.length) (h1:1<=m.ho) (hx:0<=m.hs[r.toNat]! /\ m.hs[r.toNat]! <= 9223372036854775807)
 (h : ∀ H',HS H none' [] H' -> R (.int .i64 (homF m r)) H'):qi Tryz.prog 100 [mcV m b c, .int .i64 r] H R:=by
 obtain ⟨w,hc⟩:=g.h
 obtain ⟨i,rfl⟩ : ∃ i:Nat,r=i:=⟨r.toNat,by omega⟩
 have hi:i<m.hs.length:=by omega
 rw[Int.toNat_natCast] at hx
 have hq:=tdiv_le hx.1 h1
 have hm0:m.ho≠0:=by omega
 have hq3:I64 ((m.hs[i]!).tdiv m.ho):=by unfold I64;omega
 refine qh tok Tryz.call100 Tryz.func100 rfl Tryz.ntmps100 rfl (by simp) ?_
 refine vJ ((HS.start H none').add (c:=false) hc (fun i p hi=>by simp at hi) (fun h=>by cases h)) (fun H1 b1 e1 l1 hs=>?_)
 refine vw (fun _ hKs=>hKs _ _ ?_);clear hKs
 clear e1 l1
 repeat' (first|refine nX ?_|refine nY (fun K0 hK0=>?_)|refine zSt hs ?_|refine nN hs (fun _ _ hs=>?_)|refine nS hs (fun _ _ hs=>?_)|refine sX hs (fun _ hs=>?_)|(refine hK0 _ _ ?_;clear hK0)|fail)
 refine qZ tok mx [0,1,0,7,15,0,32,96,255,511] [false,false,true,false,false,true,true,true,false,false] [0,1,2,3,4,5,6,7,8,9] (by kernel_rfl) ?_
 refine zl (fun K0 hK0=>?_)
 repeat' (first|refine nX ?_|refine nY (fun K0 hK0=>?_)|refine zSt hs ?_|refine nN hs (fun _ _ hs=>?_)|refine nS hs (fun _ _ hs=>?_)|refine sX hs (fun _ hs=>?_)|(refine hK0 _ _ ?_;clear hK0)|fail)
 refine Ld_at hi ?_
 repeat' (first|refine nX ?_|refine nY (fun K0 hK0=>?_)|refine zSt hs ?_|refine nN hs (fun _ _ hs=>?_)|refine nS hs (fun _ _ hs=>?_)|refine sX hs (fun _ hs=>?_)|(refine hK0 _ _ ?_;clear hK0)|fail)
 exact h _ (qJ hs)
end Go.Af.Tryz
namespace Go.Af.Tryz
open Go Go.Proofs Go.Af.Pl Co
set_option maxRecDepth 100000
set_option maxHeartbeats 4000000
attribute [local irreducible] awp qi qw qH qy qx isCells qo qj qI qG ql roundEnd zD wS keyK vX zL xh

theorem c102 {H:List Blk} {k a b:Int} {R:Value->List Blk->Prop} (h : ∀ H',HS H none' [] H' -> R (.bool (!decide (k=3))) H'):qi Tryz.prog 102 [.agg ⟨[.int .i64 k, .int .i64 a, .int .i64 b]⟩] H R:=by
 refine qh tok Tryz.call102 Tryz.func102 rfl Tryz.ntmps102 rfl (by simp) ?_
 have hs:=HS.start H none'
 repeat' (first|refine nX ?_|refine nY (fun K0 hK0=>?_)|refine zSt hs ?_|refine nN hs (fun _ _ hs=>?_)|refine nS hs (fun _ _ hs=>?_)|refine sX hs (fun _ hs=>?_)|(refine hK0 _ _ ?_;clear hK0)|fail)
 exact h _ (qJ hs)
theorem c103 {H:List Blk} {k a b:Int} {R:Value->List Blk->Prop} (h : ∀ H',HS H none' [] H' -> R (.bool (decide (k=3))) H'):qi Tryz.prog 103 [.agg ⟨[.int .i64 k, .int .i64 a, .int .i64 b]⟩] H R:=by
 refine qh tok Tryz.call103 Tryz.func103 rfl Tryz.ntmps103 rfl (by simp) ?_
 have hs:=HS.start H none'
 repeat' (first|refine nX ?_|refine nY (fun K0 hK0=>?_)|refine zSt hs ?_|refine nN hs (fun _ _ hs=>?_)|refine nS hs (fun _ _ hs=>?_)|refine sX hs (fun _ hs=>?_)|(refine hK0 _ _ ?_;clear hK0)|fail)
 exact h _ (qJ hs)

theorem grt_snoc (p:List Int->Bool) (l:Ctr) (x:List Int × Int):grt p (l ++ [x])=if p x.1 then max (grt p l) x.2 else grt p l:=by simp[grt]
structure G101 where
 H:List Blk
 seen:List Nat
theorem c101 {H:List Blk} {m f:Nat} {l:Ctr} {p:List Int->Bool} {R:Value->List Blk->Prop} (hm:bget H m=some (mpC l)) (hl : ∀ x∈l,x.1.length=3)
 (hf : ∀ (H:List Blk) (k a b:Int) (R' : Value->List Blk->Prop),(∀ H',HS H none' [] H' -> R' (.bool (p [k,a,b])) H')->qi Tryz.prog f [.agg ⟨[.int .i64 k, .int .i64 a, .int .i64 b]⟩] H R')
 (h : ∀ H',HS H none' [] H' -> R (.int .i64 (grt p l)) H'):qi Tryz.prog 101 [.map (some m), .func (.func f) #[] #[]] H R:=by
 refine qh tok Tryz.call101 Tryz.func101 rfl Tryz.ntmps101 rfl (by simp) ?_
 have hs:=(HS.start H none').add (c:=false) hm (fun i p hi=>by simp at hi) (fun h=>by cases h)
 repeat' (first|refine nX ?_|refine nY (fun K0 hK0=>?_)|refine zSt hs ?_|refine nN hs (fun _ _ hs=>?_)|refine nS hs (fun _ _ hs=>?_)|refine sX hs (fun _ hs=>?_)|(refine hK0 _ _ ?_;clear hK0)|fail)
 refine vV (hs.get 0 rfl) ?_
 refine vJ hs (fun H1 it e1 l1 hs=>?_)
 clear e1 l1
 repeat' (first|refine nX ?_|refine nY (fun K0 hK0=>?_)|refine zSt hs ?_|refine nN hs (fun _ _ hs=>?_)|refine nS hs (fun _ _ hs=>?_)|refine sX hs (fun _ hs=>?_)|(refine hK0 _ _ ?_;clear hK0)|fail)
 refine qN (α := G101) tok (fun z=>HS H none' [(true,it, .iter (.mapIter (some m) l.length z.seen.toArray l.length)),(false,m,mpC l)] z.H/\z.seen.Nodup/\(∀ y∈z.seen,y<l.length))
  (fun z=>[(1, .func (.func f) #[] #[]),(5, .int .i64 (grt p (z.seen.map (fun i=>l[i]!)))),(9, .pointer (some ⟨it,0,some 0⟩))]) (fun z=>z.H) (fun z=>l.length-z.seen.length)
  ⟨H1,[]⟩ ⟨hs,List.nodup_nil,fun y hy=>by simp at hy⟩ (Or.inl ⟨⟨rfl,rfl,rfl,trivial⟩,rfl⟩) ?_
 clear hs
 rintro ⟨H2,seen⟩ ⟨hs,hsn,hsb⟩
 dsimp only at hs hsn hsb ⊢
 generalize hn:grt p (seen.map (fun i=>l[i]!))=n
 repeat' (first|refine nX ?_|refine nY (fun K0 hK0=>?_)|refine zSt hs ?_|refine nN hs (fun _ _ hs=>?_)|refine nS hs (fun _ _ hs=>?_)|refine sX hs (fun _ hs=>?_)|(refine hK0 _ _ ?_;clear hK0)|fail)
 refine wU (hs.get 0 rfl) ?_
 refine vV (hs.get 1 rfl) ⟨nextC_some l seen,fun e he2 hse=>?_,fun hall=>?_⟩
 ·obtain ⟨q,hq,rfl⟩:=mem_entC he2
  have hns:q ∉ seen:=by simpa using hse
  refine wJ (hs.lt 0 rfl) (fun H6 h1 h2 h3=>?_)
  have hs:=hs.set (B' := .iter (.mapIter (some m) l.length (seen ++ [q]).toArray l.length)) 0 rfl h1 (by rw[h2];simp) h3
  clear h1 h2 h3
  have hsn' : (seen ++ [q]).Nodup:=by
   rw[List.nodup_append]
   exact⟨hsn,by simp,fun a h1 b h2 e=>hns (by simp at h2;rw[<- h2,<- e];exact h1)⟩
  have hsb' : ∀ y∈seen ++ [q],y<l.length:=fun y hy=>by
   rcases List.mem_append.1 hy with h1 | h1
   ·exact hsb y h1
   ·simp at h1;omega
  have hsl' := zK hsn' (m:=List.range l.length) (fun y hy=>List.mem_range.2 (hsb' y hy))
  rw[List.length_range,List.length_append,List.length_singleton] at hsl'
  have hlq:=hl _ (List.getElem_mem hq)
  have hwq:l[q]! = l[q]:=getElem!_pos l q hq
  have hsc:=grt_snoc p (seen.map (fun i=>l[i]!)) l[q]!
  rw[hn,hwq] at hsc
  have hsc:grt p ((seen ++ [q]).map (fun i=>l[i]!))=if p l[q].1 then max n l[q].2 else n:=by rw[List.map_append,List.map_singleton,hwq];exact hsc
  obtain ⟨⟨key,v⟩,hkv⟩ : ∃ x,l[q]=x:=⟨_,rfl⟩
  have hfe:=find_entC hq
  rw[hkv] at hlq hsc hfe ⊢
  obtain ⟨k,a,b,rfl⟩ : ∃ k a b,key = [k,a,b]:=by
   match key,hlq with
   | [k,a,b],_=>exact⟨k,a,b,rfl⟩
  dsimp only at hsc hfe ⊢
  change _=some (MapEntry.mk (.agg ⟨[.int .i64 k, .int .i64 a, .int .i64 b]⟩) (.int .i64 v) q) at hfe
  repeat' (first|refine nX ?_|refine nY (fun K0 hK0=>?_)|refine zSt hs ?_|refine nN hs (fun _ _ hs=>?_)|refine nS hs (fun _ _ hs=>?_)|refine sX hs (fun _ hs=>?_)|(refine hK0 _ _ ?_;clear hK0)|fail)
  refine wU (hs.get 0 rfl) ?_
  refine vV (hs.get 1 rfl) ⟨rfl,q,by simp,_,hfe, ?_⟩
  repeat' (first|refine nX ?_|refine nY (fun K0 hK0=>?_)|refine zSt hs ?_|refine nN hs (fun _ _ hs=>?_)|refine nS hs (fun _ _ hs=>?_)|refine sX hs (fun _ hs=>?_)|(refine hK0 _ _ ?_;clear hK0)|fail)
  refine hf _ _ _ _ _ (fun H7 hn2=>?_)
  have hs:=vT hs hn2
  clear hn2
  have hs:=hs.pick [1,2] (by decide) (L' := [_,_]) rfl
  cases hp:p [k,a,b] with
  | true =>
    rw[hp] at hsc
    repeat' (first|refine nX ?_|refine nY (fun K0 hK0=>?_)|refine zSt hs ?_|refine nN hs (fun _ _ hs=>?_)|refine nS hs (fun _ _ hs=>?_)|refine sX hs (fun _ hs=>?_)|(refine hK0 _ _ ?_;clear hK0)|fail)
    refine⟨⟨_,seen ++ [q]⟩,⟨hs,hsn',hsb'⟩,by dsimp only;rw[List.length_append,List.length_singleton];omega,Or.inl ⟨⟨rfl, ?_,rfl,trivial⟩,rfl⟩⟩
    rw[hsc];rfl
  | false =>
    rw[hp] at hsc
    repeat' (first|refine nX ?_|refine nY (fun K0 hK0=>?_)|refine zSt hs ?_|refine nN hs (fun _ _ hs=>?_)|refine nS hs (fun _ _ hs=>?_)|refine sX hs (fun _ hs=>?_)|(refine hK0 _ _ ?_;clear hK0)|fail)
    refine⟨⟨_,seen ++ [q]⟩,⟨hs,hsn',hsb'⟩,by dsimp only;rw[List.length_append,List.length_singleton];omega,Or.inl ⟨⟨rfl, ?_,rfl,trivial⟩,rfl⟩⟩
    rw[hsc];rfl
 ·have hfull : ∀ y,y<l.length->y∈seen:=fun y hy=>by
   have:=hall _ (entC_mem hy) (by dsimp only;exact hy)
   simpa using this
  rw[grt_perm (seen_all hsn hsb hfull)] at hn
  rw[hn] at h
  repeat' (first|refine nX ?_|refine nY (fun K0 hK0=>?_)|refine zSt hs ?_|refine nN hs (fun _ _ hs=>?_)|refine nS hs (fun _ _ hs=>?_)|refine sX hs (fun _ hs=>?_)|(refine hK0 _ _ ?_;clear hK0)|fail)
  exact h _ (qJ hs)
end Go.Af.Tryz
namespace Go.Af.Tryz
open Go Go.Proofs Go.Af.Pl Co Ne
open Go.Af.Coll (St)
set_option maxRecDepth 100000
set_option maxHeartbeats 4000000
attribute [local irreducible] awp qi qw qH qy qx isCells qo qj qI qG ql roundEnd zD wS keyK vX zL xh

theorem route_pos {s:Sh} (hok:s.ok) {x y:Int} (hx:0<=x/\x<s.sw) (hy:0<=y/\y<s.hm):1<=(wQ s x y).1.length/\(wQ s x y).1.length<=100:=by
 refine⟨?_,(routeF_len hok hx hy).1⟩
 cases s with
 | grid g =>
   have:=(torF_len hok hx.1 hy.1).2
   show 1<=(torF g x y).1.length
   omega
 | fat k n =>
   obtain ⟨hk,hn,_⟩:=hok
   have hp:(0:Int)<k ^ (n-1).toNat:=Int.pow_pos (by omega)
   refine (treF_len (k:=k) (N:=(n-1).toNat) (x:=x) (y:=y) ?_ (by omega)).1
   have h1:x<n*k ^ (n-1).toNat:=hx.2
   have h2:x.tdiv (k ^ (n-1).toNat)<n:=by
    rw[Int.tdiv_eq_ediv_of_nonneg hx.1]
    exact Int.ediv_lt_of_lt_mul hp h1
   omega
 | fly a h =>
   refine ddF_pos (l:=flyL a h x y) ?_
   have:=(flyL_len a h x y).1
   intro e
   rw[e] at this
   simp at this
structure McOk (m:Mc) (s:Sh):Prop where
 sh:qP m.kd m.sd m.ho=some s
 ok:s.ok
 ho:1<=m.ho/\m.ho<=8
 hs : ∀ h∈m.hs,0<=h/\h<s.hm*m.ho
 hm:1<=s.hm/\s.hm<=65536/\s.hm<=s.sw
theorem hm_sw {s:Sh} (h:s.ok):s.hm<=s.sw:=by
 cases s with
 | grid g=>exact Int.le_refl _
 | fat k n =>
   obtain ⟨hk,hn,_⟩:=h
   have hp:(0:Int)<k ^ (n-1).toNat:=Int.pow_pos (by omega)
   have:=Int.mul_le_mul_of_nonneg_right (show (1:Int)<=n by omega) (show 0<=k ^ (n-1).toNat by omega)
   simp only[Sh.hm,Sh.sw];omega
 | fly a b=>exact Int.le_refl _
theorem McOk.of {m:Mc} {s:Sh} (h:qP m.kd m.sd m.ho=some s) (hh : ∀ h∈m.hs,0<=h/\h<s.hm*m.ho):McOk m s:=by
 have hok:=shapeF_ok h
 have hb:=sw_bd hok
 have ho:=shapeF_hosts h
 exact⟨h,hok,ho,hh,hb.2.1,hb.2.2,hm_sw hok⟩
theorem McOk.home {m:Mc} {s:Sh} (k:McOk m s) {r:Int} (hr:0<=r/\r<m.hs.length):0<=homF m r/\homF m r<s.hm/\(0<=m.hs[r.toNat]! /\ m.hs[r.toNat]! <= 9223372036854775807):=by
 have hi:r.toNat<m.hs.length:=by omega
 have h:=k.hs _ (List.getElem_mem hi)
 rw[<- getElem!_pos m.hs r.toNat hi] at h
 have hm:=k.hm
 have ho:=k.ho
 have h2:s.hm*m.ho<=65536*8:=Int.mul_le_mul hm.2.1 ho.2 (by omega) (by omega)
 refine⟨(tdiv_le h.1 ho.1).1, ?_,by omega⟩
 unfold homF
 rw[Int.tdiv_eq_ediv_of_nonneg h.1]
 exact Int.ediv_lt_of_lt_mul (by omega) h.2
theorem McOk.rt {m:Mc} {s:Sh} (k:McOk m s) {a b:Int} (ha:0<=a/\a<m.hs.length) (hb:0<=b/\b<m.hs.length):RtOk m.kd m.ho m.sd s (homF m a) (homF m b):=by
 have h1:=k.home ha
 have h2:=k.home hb
 have:=k.hm
 exact⟨k.sh,by omega,by omega,by omega⟩
theorem c99 {H:List Blk} {m:Mc} {s:Sh} {b c:Nat} {x y:Int} {R:Value->List Blk->Prop} (g:Mr H m b c) (k:McOk m s) (hok:RtOk m.kd m.ho m.sd s x y)
 (h : ∀ H' k ys cp,HS H none' [(true,k,rw' ys)] H' -> ys.take (wQ s x y).1.length=(wQ s x y).1->R (.tuple ⟨[.slice (some ⟨k,0,none⟩) (wQ s x y).1.length cp, .int .i64 0]⟩) H') :
 qi Tryz.prog 99 [spV m.kd (sv b m.sd.length) m.ho, .int .i64 x, .int .i64 y] H R:=by
 obtain ⟨w,hb⟩:=g.s
 have hp:=route_pos k.ok hok.hx hok.hy
 refine ((l13 m.kd m.ho m.sd x y).ok hok hb (Nat.le_refl _) (fun N v1 r=>?_)).call
 rcases r with ⟨_,e⟩ | ⟨q,ys,cp,rfl,hq,hy,hc⟩
 ·rw[e] at hp;simp at hp
 ·have hlt:=(List.getElem?_eq_some_iff.1 hq).1
  refine h _ (H.length+q) ys cp ?_ hy
  have h0:HS H none' [] (H++N.map rw'):=(HS.start H none').ext (by simp) (fun i hi=>bget_app_lt hi)
  refine h0.add (c:=true) ?_ (fun i p hi=>by simp at hi) (fun _=>.inr (by omega))
  rw[qO,List.getElem?_append_right (by omega),Nat.add_sub_cancel_left,List.getElem?_map,hq]
  rfl
theorem l100 (m:Mc) {r:Int} (hr:0<=r/\r<m.hs.length) (h1:1<=m.ho) (hx:0<=m.hs[r.toNat]! /\ m.hs[r.toNat]! <= 9223372036854775807) :
 qi Tryz.prog 100 [mcV m 0 1, .int .i64 r] [ro m.sd,ro m.hs] (fun v H=>v = .int .i64 (homF m r)/\H = [ro m.sd,ro m.hs]):=by
 refine qR (c100 (b:=0) (c:=1) ⟨⟨_,rfl⟩,⟨_,rfl⟩⟩ hr h1 hx (fun H' hs=>?_))
 have e0:=zg hs (b:=0) (B:=ro m.sd) rfl
 have e1:=zg hs (b:=1) (B:=ro m.hs) rfl
 refine⟨[(0,0),(1,0)], .int .i64 (homF m r),[ro m.sd,ro m.hs],by simp, ?_,⟨⟨_,e0,BRen.ints _ _ _⟩,⟨_,e1,BRen.ints _ _ _⟩,trivial⟩,rfl,VRen.plain rfl,rfl,rfl⟩
 intro i hi
 match i,hi with
 | 0,_=>rfl
 | 1,_=>rfl
theorem c100x {H:List Blk} {m:Mc} {s:Sh} {b c:Nat} {r:Int} {R:Value->List Blk->Prop} (g:Mr H m b c) (k:McOk m s) (hr:0<=r/\r<m.hs.length) (h:R (.int .i64 (homF m r)) H):qw Tryz.prog 100 [mcV m b c, .int .i64 r] H R:=by
 obtain ⟨w,hb⟩:=g.s
 obtain ⟨w2,hc⟩:=g.h
 refine vP (l100 m hr k.ho.1 (k.home hr).2.2) [(b,0),(c,0)] rfl ?_ ⟨⟨_,hb,BRen.seg fun i x hx=>by rw[Nat.zero_add,ve,hx];rfl⟩,⟨_,hc,BRen.seg fun i x hx=>by rw[Nat.zero_add,ve,hx];rfl⟩,trivial⟩ rfl h
 exact .cons (.agg (.cons (.int _ _) (.cons (VRen.slice rfl rfl (Nat.le_refl _)) (.cons (.int _ _) (.cons (VRen.slice rfl rfl (Nat.le_refl _)) (.cons (.int _ _) (.cons (.int _ _) (.cons (.int _ _) (.cons (.int _ _) .nil))))))))) (.cons (.int _ _) .nil)

/-! ### Plainly -/
def incJ (l:List St):Ctr:=(l.filter (fun x=>decide (x.jn≠0))).map (fun x=>([3,x.to,0],1))
def incM (l:List St):Ctr:=(l.filter (fun x=>decide (x.fr≠x.to))).map (fun x=>([x.fr,x.to],1))
def chn (p:List Int) (n:Int) (k:Nat):Ctr:=(List.range k).map (fun i=>([0,p[i]!,p[i+1]!],n))
def pthF (s:Sh) (m:Mc) (k:List Int):List Int:=(wQ s (homF m k[0]!) (homF m k[1]!)).1
def incR (s:Sh) (m:Mc) (x:List Int × Int):Ctr:=([1,x.1[0]!,0],x.2)::([2,x.1[1]!,0],x.2)::chn (pthF s m x.1) x.2 ((pthF s m x.1).length-1)
def msgF (l:List St):Ctr:=ctr (incM l)
def lodF (s:Sh) (m:Mc) (l:List St):Ctr:=ctr (incJ l++(msgF l).flatMap (incR s m))
def hopF (s:Sh) (m:Mc) (M:Ctr):Int:=M.foldl (fun z x=>max z (((pthF s m x.1).length:Int)-1)) 0
def oneF:Ctr->Int
 | []=>0
 | _::_=>1
def isJ (k:List Int):Bool:=decide (k[0]! = 3)
def noJ (k:List Int):Bool := !decide (k[0]! = 3)
def rdcF (s:Sh) (m:Mc) (l:List St):List Int := [oneF (msgF l),hopF s m (msgF l),grt noJ (lodF s m l),grt isJ (lodF s m l)]

theorem incJ_snoc (l:List St) (x:St):incJ (l ++ [x])=incJ l++if x.jn≠0 then [([3,x.to,0],1)] else []:=by
 unfold incJ
 rw[List.filter_append,List.map_append]
 by_cases h:x.jn=0 <;> simp[h]
theorem incM_snoc (l:List St) (x:St):incM (l ++ [x])=incM l++if x.fr≠x.to then [([x.fr,x.to],1)] else []:=by
 unfold incM
 rw[List.filter_append,List.map_append]
 by_cases h:x.fr=x.to <;> simp[h]
theorem incJ_len (l:List St):(incJ l).length<=l.length:=by unfold incJ;rw[List.length_map];exact List.length_filter_le _ _
theorem incM_len (l:List St):(incM l).length<=l.length:=by unfold incM;rw[List.length_map];exact List.length_filter_le _ _
theorem incJ_one {l:List St} : ∀ x∈incJ l,x.1.length=3/\x.2=1:=fun x hx=>by
 obtain ⟨y,_,rfl⟩:=List.mem_map.1 hx;exact⟨rfl,rfl⟩
theorem incM_one {l:List St} : ∀ x∈incM l, ∃ y∈l,x=([y.fr,y.to],1)/\y.fr≠y.to:=fun x hx=>by
 obtain ⟨y,hy,rfl⟩:=List.mem_map.1 hx
 have:=List.mem_filter.1 hy
 exact⟨y,this.1,rfl,of_decide_eq_true this.2⟩
theorem ctr_bound {xs:Ctr} {B:Int} (h : ∀ x∈xs,0<=x.2/\x.2<=B) (k:List Int):0<=cnt (ctr xs) k/\cnt (ctr xs) k<=xs.length*B:=by rw[cnt_ctr];exact sumK_bound k h
theorem hop_snoc (s:Sh) (m:Mc) (M:Ctr) (x:List Int × Int):hopF s m (M ++ [x])=max (hopF s m M) (((pthF s m x.1).length:Int)-1):=by simp[hopF]
theorem hop_perm {s:Sh} {m:Mc} {a b:Ctr} (h:a.Perm b):hopF s m a=hopF s m b:=by
 unfold hopF
 refine h.foldl_eq' (fun x _ y _ z=>?_) 0
 omega
theorem one_snoc (M:Ctr) (x:List Int × Int):oneF (M ++ [x])=1:=by cases M <;> rfl
theorem one_perm {a b:Ctr} (h:a.Perm b):oneF a=oneF b:=by
 cases a with
 | nil=>rw[h.nil_eq]
 | cons x a =>
   cases b with
   | nil=>exact absurd h.length_eq (by simp)
   | cons y b=>rfl
theorem chn_succ (p:List Int) (n:Int) (k:Nat):chn p n (k+1)=chn p n k ++ [([0,p[k]!,p[k+1]!],n)]:=by simp[chn,List.range_succ]
structure Lk (xs:Ctr) (N:Nat):Prop where
 k : ∀ x∈xs,x.1.length=3/\0<=x.2/\x.2<=1000
 l:xs.length<=N
theorem Lk.snoc {xs:Ctr} {N:Nat} (h:Lk xs N) {k:List Int} {n:Int} (hk:k.length=3) (hn:0<=n/\n<=1000):Lk (xs ++ [(k,n)]) (N+1):=by
 refine⟨fun x hx=>?_,by rw[List.length_append];have:=h.l;simp;omega⟩
 rcases List.mem_append.1 hx with h1 | h1
 ·exact h.k x h1
 ·simp at h1;rw[h1];exact⟨hk,hn⟩
theorem Lk.len {xs:Ctr} {N:Nat} (h:Lk xs N) : ∀ x∈ctr xs,x.1.length=3:=add_all (P:=fun k=>k.length=3) (fun y hy=>(h.k y hy).1)
theorem Lk.bnd {xs:Ctr} {N:Nat} (h:Lk xs N) (k:List Int):0<=cnt (ctr xs) k/\cnt (ctr xs) k<=N*1000:=by
 have:=ctr_bound (xs:=xs) (B:=1000) (fun x hx=>(h.k x hx).2) k
 have h2:=h.l
 have h3:(xs.length:Int)*1000<=N*1000:=by omega
 omega
theorem msg_ok {S:List St} {n:Nat} {p:Int} (hl:S.length=n) (hn:n<=1000) (hr : ∀ x∈S,(0<=x.fr/\x.fr<p)/\(0<=x.to/\x.to<p)) : ∀ x∈msgF S, ∃ a b,x.1 = [a,b]/\(0<=a/\a<p)/\(0<=b/\b<p)/\a≠b/\0<=x.2/\x.2<=1000:=fun x hx=>by
 have h1 : ∃ a b,x.1 = [a,b]/\(0<=a/\a<p)/\(0<=b/\b<p)/\a≠b:=add_all (P:=fun k => ∃ a b,k = [a,b]/\(0<=a/\a<p)/\(0<=b/\b<p)/\a≠b) (fun y hy=>by
  obtain ⟨z,hz,e,hne⟩:=incM_one y hy
  rw[e]
  exact⟨_,_,rfl,(hr z hz).1,(hr z hz).2,hne⟩) x hx
 obtain ⟨a,b,e,ha,hb,hne⟩:=h1
 obtain ⟨k,v⟩:=x
 have h2:=((mem_cnt (ctr_nodup _) k v).1 hx).2
 have h3:=ctr_bound (xs:=incM S) (B:=1) (fun y hy=>by obtain ⟨z,_,e,_⟩:=incM_one y hy;rw[e];exact⟨Int.zero_le_ofNat 1,Int.le_refl _⟩) k
 have h4:=incM_len S
 exact⟨a,b,e,ha,hb,hne,by dsimp only;omega,by dsimp only;omega⟩
theorem msg_len (S:List St):(msgF S).length<=S.length:=by
 have h : ∀ (xs l:Ctr),(add l xs).length<=l.length+xs.length:=by
  intro xs
  induction xs with
  | nil=>intro l;simp[add]
  | cons x xs ih =>
    intro l
    have h1:=ih (bump l x.1 x.2)
    have h2:(bump l x.1 x.2).length<=l.length+1:=by
     have e:=congrArg List.length (bump_keys x.1 x.2 l)
     rw[List.length_map] at e
     rw[e]
     split <;> simp
    show (add (bump l x.1 x.2) xs).length<=_
    rw[List.length_cons]
    omega
 have:=h (incM S) []
 have h2:=incM_len S
 rw[List.length_nil] at this
 unfold msgF
 show (add [] (incM S)).length<=_
 omega
end Go.Af.Tryz
