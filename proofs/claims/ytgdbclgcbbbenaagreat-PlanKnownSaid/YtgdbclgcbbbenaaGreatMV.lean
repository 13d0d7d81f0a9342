/-
  slices.Compact of a row of numbers.
  Routes in a dragonfly, as the program finds them.
-/
import Derived.Test.YtgdbclgcbbbenaaGreatMU
import Derived.Test.YtgdbclgcbbbenaaGreatMC
import Derived.Test.YtgdbclgcbbbenaaGreatMCA
set_option linter.all false
namespace Go.Af.Tryz.Ne
open Go Go.Proofs
attribute [local irreducible] awp qi qw qH qy


end Go.Af.Tryz.Ne
namespace Go.Af.Tryz.Ne
open Go Go.Proofs
attribute [local irreducible] awp qi qw qH qy

def gapF (a h gx gy:Int):Int:=(gy-gx-1+(a*h+1)).tmod (a*h+1)
def porF (a h g e:Int):Int:=g*a+e.tdiv h
theorem gap_in {a h gx gy:Int} (h0:0<=gx) (h1:gx<a*h+1) (h2:0<=gy) (h3:gy<a*h+1) (hne:gx≠gy):0<=gapF a h gx gy/\gapF a h gx gy<=a*h+1-2:=by
 unfold gapF
 rw[Int.tmod_eq_emod_of_nonneg (by omega)]
 by_cases h:gx<gy
 ·rw[Int.add_emod_right,Int.emod_eq_of_lt (by omega) (by omega)];omega
 ·rw[Int.emod_eq_of_lt (by omega) (by omega)];omega

theorem l159 (a h gx gy d:Int) (ha:1<=a/\a<=16) (hh:1<=h/\h<=4) (h0:0<=gx) (h1:gx<a*h+1) (h2:0<=gy) (h3:gy<a*h+1) (hd:gapF a h gx gy=d) (hg:0<=d/\d<=a*h+1-2):qi Tryz.prog 410 [twoV a h, .int .i64 gx, .int .i64 gy] []
 (fun v H=>v = .tuple ⟨[.int .i64 (porF a h gx d), .int .i64 (porF a h gy (a*h+1-2-d))]⟩/\H = []):=by
 have hm:=mulb (a:=a) (b:=h) (A:=16) (B:=4) (by omega) (by omega) (by omega) (by omega)
 have hx:=mulb (a:=gx) (b:=a) (A:=65) (B:=16) (by omega) (by omega) (by omega) (by omega)
 have hy:=mulb (a:=gy) (b:=a) (A:=65) (B:=16) (by omega) (by omega) (by omega) (by omega)
 refine qR (qh tok Tryz.call410 Tryz.func410 rfl Tryz.ntmps410 rfl (by simp) ?_)
 refine qZ tok mx [0,0,3,7,0,16,63,0,176,511,1023] [false,false,false,false,false,true,true,true,false,false,false] [0,1,2,3,4,7,5,6,8,9,10] (by kernel_rfl) ?_
 (repeat refine goZ ?_)
 (first | refine c151 a h ha hh ?_ | refine (c151 a h ha hh ?_).call)
 (repeat refine goZ ?_)
 (first | refine c151 a h ha hh ?_ | refine (c151 a h ha hh ?_).call)
 refine And.intro (by omega) ⟨d,hd, ?_⟩
 clear hd
 have d1:0<=d.tdiv h/\d.tdiv h<=65:=⟨Int.tdiv_nonneg hg.1 (by omega),by
  have:=Int.tdiv_le_self h hg.1;omega⟩
 obtain ⟨e,he⟩ : ∃ e,a*h+1-2-d=e:=⟨_,rfl⟩
 have d2:0<=e.tdiv h/\e.tdiv h<=65:=⟨Int.tdiv_nonneg (by omega) (by omega),by
  have:=Int.tdiv_le_self h (a:=e) (by omega);omega⟩
 rw[he]
 obtain ⟨q1,hq1⟩ : ∃ q,d.tdiv h=q:=⟨_,rfl⟩
 obtain ⟨q2,hq2⟩ : ∃ q,e.tdiv h=q:=⟨_,rfl⟩
 unfold porF
 rw[hq1,hq2]
 rw[hq1] at d1
 rw[hq2] at d2
 refine qZ tok mx [0,0,2,7,0,0,32,112,255,0,0,1024,3584,0,8192,24576,0,122880,0,262144,1040384,2096640,25087,8388607] [false,false,false,false,true,true,true,true,false,true,true,true,true,true,true,true,true,true,true,true,true,true,true,false] [0,1,2,3,4,5,6,7,8,9,10,11,12,13,16,18,19,14,15,17,20,21,22,23] (by kernel_rfl) ?_
 refine zl (fun K0 hK0=>?_)
 refine And.intro (by decide) (Exists.intro _ (And.intro rfl ?_))
 refine Or.inl ⟨gx*a,rfl,by unfold I64;omega, ?_⟩
 refine And.intro (by decide) (Exists.intro _ (And.intro rfl ?_))
 refine And.intro (by omega) ?_
 refine Or.inl ⟨q1,hq1,by unfold I64;omega, ?_⟩
 refine Or.inl ⟨gx*a+q1,rfl,by unfold I64;omega, ?_⟩
 refine And.intro (by decide) (Exists.intro _ (And.intro rfl ?_))
 refine Or.inl ⟨gy*a,rfl,by unfold I64;omega, ?_⟩
 refine⟨_,rfl,_,rfl, ?_⟩
 refine And.intro (by decide) (Exists.intro _ (And.intro rfl ?_))
 (first | refine c151 a h ha hh ?_ | refine (c151 a h ha hh ?_).call)
 refine Or.inl ⟨a*h+1-2,rfl,by unfold I64;omega, ?_⟩
 refine Or.inl ⟨e,he,by unfold I64;omega, ?_⟩
 refine And.intro (by omega) ?_
 refine Or.inl ⟨q2,hq2,by unfold I64;omega, ?_⟩
 refine Or.inl ⟨gy*a+q2,rfl,by unfold I64;omega, ?_⟩
 refine hK0 _ _ ?_
 clear hK0 K0
 exact⟨[],_,[],by simp,qF rfl,trivial,rfl,VRen.plain rfl,rfl,rfl⟩
end Go.Af.Tryz.Ne
namespace Go.Af.Tryz.Ne
open Go Go.Proofs
attribute [local irreducible] awp qi qw qH qy

def ddF (l:List Int):List Int:=l.foldl (fun acc x=>if acc.getLast? = some x then acc else acc ++ [x]) []
theorem ddF_snoc (l:List Int) (x:Int):ddF (l ++ [x])=if (ddF l).getLast? = some x then ddF l else ddF l ++ [x]:=by unfold ddF;rw[List.foldl_append];rfl
theorem ddF_last (l:List Int) (x:Int):(ddF (l ++ [x])).getLast? = some x:=by
 rw[ddF_snoc];split
 ·assumption
 ·simp
theorem ddF_take {l:List Int} {i:Nat} (hi:i<l.length):ddF (l.take (i+1))=if (ddF (l.take i)).getLast? = some l[i]! then ddF (l.take i) else ddF (l.take i) ++ [l[i]!]:=by
 rw[List.take_succ_eq_append_getElem hi,ddF_snoc,getElem!_pos l i hi]
theorem ddF_takelast {l:List Int} {i:Nat} (h0:0<i) (hi:i<=l.length):(ddF (l.take i)).getLast? = some l[i-1]! := by
 obtain ⟨i,rfl⟩ : ∃ j,i=j+1:=⟨i-1,by omega⟩
 rw[List.take_succ_eq_append_getElem (by omega),ddF_last,Nat.add_sub_cancel,getElem!_pos l i (by omega)]
theorem ddF_step {l:List Int} {i:Nat} (h0:0<i) (hi:i<l.length):ddF (l.take (i+1))=if l[i]! = l[i-1]! then ddF (l.take i) else ddF (l.take i) ++ [l[i]!]:=by
 rw[ddF_take hi,ddF_takelast h0 (by omega)]
 by_cases h:l[i]! = l[i-1]!
 ·rw[if_pos h,if_pos (by rw[h])]
 ·rw[if_neg h,if_neg (fun e=>h (Option.some.inj e).symm)]
theorem ddF_le (l:List Int) : ∀ i,i<=l.length->(ddF (l.take i)).length<=i:=by
 intro i
 induction i with
 | zero=>intro _;simp[ddF]
 | succ i ih =>
   intro hi
   rw[ddF_take (by omega)]
   have:=ih (by omega)
   split <;> simp <;> omega

theorem set_take {t:List Int} {k:Nat} {x:Int} (hk:k<t.length):(t.set k x).take (k+1)=t.take k ++ [x]:=by
 rw[List.take_succ_eq_append_getElem (by simpa using hk)]
 have:(t.set k x).take k=t.take k:=by
  apply List.ext_getElem?
  intro i
  simp only[List.getElem?_take,List.getElem?_set]
  split
  ·rw[if_neg (by omega)]
  ·rfl
 rw[this];simp
theorem set_get {t:List Int} {k i:Nat} {x:Int} (h:i≠k):(t.set k x)[i]! = t[i]! := by
 simp[List.getElem?_set,Ne.symm h]
theorem seg_zero (t:List Int) (k:Nat) (hk:k<=t.length):setSeg (ints t) k (qW (t.length-k) [.int .i64 0])=ints (t.take k++List.replicate (t.length-k) 0):=by
 show setSeg (ints t) k (List.replicate (t.length-k) (.int .i64 0))=_
 rw[ints_replicate]
 have il : ∀ x:List Int,(ints x).length=x.length:=fun x=>by simp[ints]
 apply List.ext_getElem?
 intro i
 rw[xK _ _ _ _ (by rw[il,il];simp;omega)]
 simp only[ve,il,List.getElem?_append,List.length_take,List.length_replicate]
 by_cases h1:i<k
 ·rw[if_neg (by omega),if_pos (by omega),List.getElem?_take,if_pos h1]
 ·rw[if_neg (show ¬ i<min k t.length by omega)]
  by_cases h2:i<t.length
  ·rw[if_pos (by omega)]
   rw[List.getElem?_replicate,List.getElem?_replicate,if_pos (by omega),if_pos (by omega)]
  ·rw[if_neg (by omega),List.getElem?_replicate,if_neg (by omega),List.getElem?_eq_none (by omega)]

theorem set_int' (e:List Int) (i:Nat) (a:Int):setSeg (ints e) (0+i*1) (qA (.int .i64 a))=ints (e.set i a):=by
 rw[Nat.zero_add,Nat.mul_one];simp[qA,setSeg_one,ints_set]

theorem l160 (s:List Int) (hl:s.length<=1000):qi Tryz.prog 411 [sv 0 s.length] [rw' s]
 (fun v H=>v = .slice (some ⟨0,0,none⟩) (ddF s).length s.length/\H = [rw' (ddF s++List.replicate (s.length-(ddF s).length) 0)]):=by
 refine qh tok Tryz.call411 Tryz.func411 rfl Tryz.ntmps411 rfl (by simp) ?_
 (repeat refine goZ ?_)
 refine And.intro (fun hc=>?_) (fun hc=>?_)
 ·have hc:s.length<2:=by have:(s.length:Int)<2:=by simpa using hc
                         omega
  have e:ddF s=s:=by
   match s,hc with
   | [],_=>rfl
   | [x],_=>rfl
  rw[e,Nat.sub_self,List.replicate_zero,List.append_nil]
  exact⟨rfl,rfl⟩
 have hc:2<=s.length:=by have : ¬ (s.length:Int)<2:=by simpa using hc
                         omega
 (repeat refine goZ ?_)
 refine qN tok (fun k:Nat=>1<=k/\k<=s.length/\ddF (s.take k)=s.take k) (fun k=>[(0,sv 0 s.length),(3, .int .i64 k)]) (fun _=>[rw' s]) (fun k=>s.length-k) 1 ⟨by omega,by omega, ?_⟩ ?_ ?_
 ·match s,hc with
  | x::_::_,_=>rfl
 ·exact Or.inl ⟨⟨rfl,rfl,trivial⟩,rfl⟩
 rintro k ⟨h1,h2,h3⟩
 (repeat refine goZ ?_)
 refine And.intro (fun hk=>?_) (fun hk=>?_)
 ·have hk:k<s.length:=by simpa using hk
  (repeat refine goZ ?_)
  refine qZ tok mx [0,0,3,7,0,0,32,112,240,511] [false,false,false,false,true,true,true,true,true,false] [0,1,2,3,4,5,6,7,8,9] (by kernel_rfl) ?_
  refine⟨k,rfl,hk, ?_⟩
  refine vO k s[k]! (by simp) (by simp[hk]) ?_
  refine Or.inl ⟨((k-1:Nat):Int),by omega,by unfold I64;omega, ?_⟩
  refine⟨k-1,rfl,by omega, ?_⟩
  refine vO (k-1) s[k-1]! (by simp) (by rw[getElem!_pos s (k-1) (by omega)];exact List.getElem?_eq_getElem _) ?_
  refine And.intro (fun he=>?_) (fun he=>?_)
  ·have he:s[k]! = s[k-1]! := by simpa using he
   (repeat refine gsZ ?_)
   refine qN (α := Nat × Nat × List Int) tok (fun | (j,q,t)=>k+1<=j/\j<=s.length/\t.length=s.length/\q=(ddF (s.take j)).length/\t.take q=ddF (s.take j)/\q<j/\1<=q/\∀ i,j<=i+1->t[i]! = s[i]!)
    (fun | (j,q,_)=>[(0,sv 0 s.length),(3, .int .i64 q),(4, .slice (some ⟨0,k,none⟩) (s.length-k) (s.length-k)),(5, .int .i64 ((j-k:Nat):Int))]) (fun | (_,_,t)=>[rw' t]) (fun p=>s.length-p.1) (k+1,k,s) ?_ ?_ ?_
   ·have e:ddF (s.take (k+1))=s.take k:=by rw[ddF_step (by omega) hk,if_pos he,h3]
    exact⟨by omega,by omega,rfl,by rw[e];simp;omega,by rw[e],by omega,by omega,fun _ _=>rfl⟩
   ·exact Or.inl ⟨⟨rfl,rfl,by show some (Value.slice (some ⟨0,0+k*1,none⟩) _ _)=_;rw[Nat.zero_add,Nat.mul_one],by show some (Value.int .i64 1)=_;rw[Nat.add_sub_cancel_left];rfl,trivial⟩,rfl⟩
   rintro ⟨j,q,t⟩ ⟨i1,i2,i3,i4,i5,i6,i7,i8⟩
   (repeat refine goZ ?_)
   refine And.intro (fun hj=>?_) (fun hj=>?_)
   ·have hj:j<s.length:=by simp at hj;omega
    have ej:=i8 j (by omega)
    have ej1:=i8 (j-1) (by omega)
    (repeat refine goZ ?_)
    refine qZ tok mx [0,0,3,7,0,0,32,112,240,511] [false,false,false,false,true,true,true,true,true,false] [0,1,2,3,4,5,6,7,8,9] (by kernel_rfl) ?_
    refine zl (fun K0 hK0=>?_)
    refine⟨j-k,rfl,by omega, ?_⟩
    refine vO j s[j]! (by show k+(j-k)*1=j;omega) (by rw[<- ej,getElem!_pos t j (by omega)];exact List.getElem?_eq_getElem _) ?_
    refine Or.inl ⟨((j-k-1:Nat):Int),by omega,by unfold I64;omega, ?_⟩
    refine⟨j-k-1,rfl,by omega, ?_⟩
    refine vO (j-1) s[j-1]! (by show k+(j-k-1)*1=j-1;omega) (by rw[<- ej1,getElem!_pos t (j-1) (by omega)];exact List.getElem?_eq_getElem _) ?_
    refine hK0 _ _ ?_
    clear hK0 K0
    refine And.intro (fun hd=>?_) (fun hd=>?_)
    ·have hd : ¬ s[j]! = s[j-1]! := by simpa using hd
     refine⟨j-k,rfl,by omega, ?_⟩
     refine vO j s[j]! (by show k+(j-k)*1=j;omega) (by rw[<- ej,getElem!_pos t j (by omega)];exact List.getElem?_eq_getElem _) ?_
     refine⟨q,rfl,by omega, ?_⟩
     refine⟨⟨rfl,rfl,by simp;omega⟩,ints (t.set q s[j]!),set_int' _ _ _, ?_⟩
     refine Or.inl ⟨((q+1:Nat):Int),by simp,by unfold I64;omega, ?_⟩
     refine Or.inl ⟨((j+1-k:Nat):Int),by omega,by unfold I64;omega, ?_⟩
     have e1:ddF (s.take (j+1))=ddF (s.take j) ++ [s[j]!]:=by rw[ddF_step (by omega) hj,if_neg hd]
     refine⟨(j+1,q+1,t.set q s[j]!),⟨by omega,by omega,by simp[i3],by rw[e1,i4];simp,by rw[e1,set_take (by omega),i5],by omega,by omega,fun i hi=>?_⟩,by simp only;omega,Or.inl ⟨⟨rfl,rfl,rfl,rfl,trivial⟩,rfl⟩⟩
     rw[set_get (by omega)];exact i8 i (by omega)
    ·have hd:s[j]! = s[j-1]! := by simpa using hd
     refine Or.inl ⟨((j+1-k:Nat):Int),by omega,by unfold I64;omega, ?_⟩
     have e1:ddF (s.take (j+1))=ddF (s.take j):=by rw[ddF_step (by omega) hj,if_pos hd]
     exact⟨(j+1,q,t),⟨by omega,by omega,i3,by rw[e1,i4],by rw[e1,i5],by omega,i7,fun i hi=>i8 i (by omega)⟩,by simp only;omega,Or.inl ⟨⟨rfl,rfl,rfl,rfl,trivial⟩,rfl⟩⟩
   ·have hj:j=s.length:=by simp at hj;omega
    subst hj
    rw[List.take_length] at i4 i5
    (repeat refine gsZ ?_)
    refine Or.inr ⟨by omega,⟨⟨by decide,rfl⟩,rfl,by simp;omega⟩,ints (t.take q++List.replicate (s.length-q) 0), ?_, ?_⟩
    ·have:=seg_zero t q (by omega)
     rw[i3] at this
     rw[<- this]
     show setSeg (ints t) (0+q*1) _=_
     rw[Nat.zero_add,Nat.mul_one];rfl
    (repeat refine gsZ ?_)
    rw[i5,<- i4]
    exact⟨by show Value.slice (some ⟨0,0+0*1,none⟩) (q-0) (s.length-0)=_;rw[Nat.sub_zero,Nat.sub_zero,Nat.zero_mul],rfl⟩
  ·have he : ¬ s[k]! = s[k-1]! := by simpa using he
   refine Or.inl ⟨((k+1:Nat):Int),by simp,by unfold I64;omega, ?_⟩
   refine⟨k+1,⟨by omega,by omega, ?_⟩,by omega,Or.inl ⟨⟨rfl,rfl,trivial⟩,rfl⟩⟩
   rw[ddF_step (by omega) hk,if_neg he,h3,List.take_succ_eq_append_getElem hk,getElem!_pos s k hk]
 ·have hk:k=s.length:=by simp at hk;omega
  subst hk
  rw[List.take_length] at h3
  rw[h3,Nat.sub_self,List.replicate_zero,List.append_nil]
  exact⟨rfl,rfl⟩
end Go.Af.Tryz.Ne
namespace Go.Af.Tryz.Ne
open Go Go.Proofs
attribute [local irreducible] awp qi qw qH qy

theorem c159 {H:List Blk} {R:Value->List Blk->Prop} {a h gx gy d:Int} (ha:1<=a/\a<=16) (hh:1<=h/\h<=4) (h0:0<=gx) (h1:gx<a*h+1) (h2:0<=gy) (h3:gy<a*h+1) (hd:gapF a h gx gy=d) (hg:0<=d/\d<=a*h+1-2)
 (hR:R (.tuple ⟨[.int .i64 (porF a h gx d), .int .i64 (porF a h gy (a*h+1-2-d))]⟩) H):qw Tryz.prog 410 [twoV a h, .int .i64 gx, .int .i64 gy] H R :=
 vP (l159 a h gx gy d ha hh h0 h1 h2 h3 hd hg) [] rfl (.cons zt (.cons (.int _ _) (.cons (.int _ _) .nil))) trivial rfl hR

def flyL (a h x g:Int):List Int :=
 if x.tdiv a=g.tdiv a then [x,g] else [x,porF a h (x.tdiv a) (gapF a h (x.tdiv a) (g.tdiv a)),porF a h (g.tdiv a) (a*h+1-2-gapF a h (x.tdiv a) (g.tdiv a)),g]
def clsF (a i:Int) (p:List Int):List Int:=p.map fun y=>if y.tdiv a=i then 0 else 1
def flyF (a h x g:Int):List Int × List Int:=(ddF (flyL a h x g),clsF a (x.tdiv a) (ddF (flyL a h x g)).dropLast)
theorem flyL_len (a h x g:Int):2<=(flyL a h x g).length/\(flyL a h x g).length<=4:=by unfold flyL;split <;> simp

theorem ddF_pos {l:List Int} (h:l≠[]):1<=(ddF l).length:=by
 have h1:=ddF_takelast (l:=l) (i:=l.length) (by have:=List.length_pos_iff.2 h;omega) (Nat.le_refl _)
 rw[List.take_length] at h1
 cases hd:ddF l with
 | nil=>rw[hd] at h1;cases h1
 | cons x r=>simp

theorem c160 {H:List Blk} {R:Value->List Blk->Prop} {s:List Int} {b:Nat} (hl:s.length<=1000) (hb:bget H b=some (.cells true 1 (ints s))) (h:ww H b (rw' (ddF s++List.replicate (s.length-(ddF s).length) 0)) (fun H' => R (.slice (some ⟨b,0,none⟩) (ddF s).length s.length) H')) :
 qi Tryz.prog 411 [sv b s.length] H R:=acall_w (l160 s hl) hb (.cons (VRen.slice rfl rfl (Nat.le_refl _)) .nil) (by have:=qY.slice (ι := [(b,0)]) (j:=0) (o:=0) (i:=b) (s:=0) (l:=(ddF s).length) (c:=s.length) rfl;simpa using this) h

theorem ddF_mem {y:Int} {l:List Int}:y∈ddF l->y∈l:=by
 have : ∀ i,i<=l.length->y∈ddF (l.take i)->y∈l:=by
  intro i
  induction i with
  | zero=>intro _ h;simp[ddF] at h
  | succ i ih =>
    intro hi h
    rw[ddF_take (by omega)] at h
    split at h
    ·exact ih (by omega) h
    ·rw[List.mem_append] at h
     rcases h with h | h
     ·exact ih (by omega) h
     ·simp only[List.mem_singleton] at h;rw[h,getElem!_pos l i (by omega)];exact List.getElem_mem _
 have h2:=this l.length (Nat.le_refl _)
 rwa [List.take_length] at h2
theorem por_bd {a h g d:Int} (ha:1<=a/\a<=16) (hh:1<=h/\h<=4) (hg:0<=g/\g<=64) (hd:0<=d/\d<=64):0<=porF a h g d/\porF a h g d<=65536:=by
 unfold porF
 have hm:=mulb (a:=g) (b:=a) (A:=64) (B:=16) (by omega) (by omega) (by omega) (by omega)
 have h1:=Int.tdiv_nonneg hd.1 (show 0<=h by omega)
 have h2:=Int.tdiv_le_self h hd.1
 omega
theorem xJ {ι : List (Nat × Nat)} {wr:Bool} (xs:List Int):BRen ι 0 (ro xs) (.cells wr 1 (ints xs)):=BRen.cells (wr2:=false) (fun h=>by cases h) fun i x hx=>by
 rw[ve] at hx
 cases hy:xs[i]? with
 | none=>rw[hy] at hx;cases hx
 | some y=>rw[hy] at hx;cases hx;exact⟨_,by rw[Nat.zero_add,ve,hy];rfl,VRen.int _ _⟩
theorem clsF_snoc {a i:Int} {D:List Int} {k:Nat} (hk:k<D.length):clsF a i (D.take (k+1))=clsF a i (D.take k) ++ [if D[k]!.tdiv a=i then 0 else 1]:=by
 unfold clsF;rw[List.take_succ_eq_append_getElem hk,List.map_append,getElem!_pos D k hk];rfl
theorem fly_grp {a h x:Int} (ha:1<=a) (hx:0<=x/\x<a*(a*h+1)):0<=x.tdiv a/\x.tdiv a<a*h+1:=by
 refine⟨Int.tdiv_nonneg hx.1 (by omega), ?_⟩
 rw[Int.tdiv_eq_ediv_of_nonneg hx.1]
 exact Int.ediv_lt_of_lt_mul (by omega) (by rw[Int.mul_comm];exact hx.2)



theorem l155 (a h x g:Int) (ha:1<=a/\a<=16) (hh:1<=h/\h<=4) (hx:0<=x/\x<a*(a*h+1)) (hg:0<=g/\g<a*(a*h+1)):qi Tryz.prog 406 [twoV a h, .int .i64 x, .int .i64 g] []
 (fun v H => ∃ (N:List (List Int)) (v1 v2:Value),v = .tuple ⟨[v1,v2]⟩/\H = []++N.map rw' /\ RN 0 N v1 (flyF a h x g).1/\RN 0 N v2 (flyF a h x g).2):=by
 have hm:=mulb (a:=a) (b:=h) (A:=16) (B:=4) (by omega) (by omega) (by omega) (by omega)
 have hm2:=mulb (a:=a) (b:=a*h+1) (A:=16) (B:=65) (by omega) (by omega) (by omega) (by omega)
 have hi:=fly_grp (h:=h) ha.1 hx
 have hj:=fly_grp (h:=h) ha.1 hg
 have hL:=flyL_len a h x g
 obtain ⟨L,hL'⟩ : ∃ L,flyL a h x g=L:=⟨_,rfl⟩
 have hFL:=hL'
 unfold flyF
 rw[hL'] at hL ⊢
 unfold flyL at hL'
 obtain ⟨i,hi'⟩ : ∃ i,x.tdiv a=i:=⟨_,rfl⟩
 obtain ⟨j,hj'⟩ : ∃ i,g.tdiv a=i:=⟨_,rfl⟩
 rw[hi',hj'] at hL'
 rw[hi'] at hi ⊢
 rw[hj'] at hj
 refine qR (qh tok Tryz.call406 Tryz.func406 rfl Tryz.ntmps406 rfl (by simp) ?_)
 (repeat refine goZ ?_)
 refine qZ tok mx [0,0,2,7,0,0,32,112,15,511] [false,false,false,false,true,true,true,true,true,false] [0,1,2,3,4,5,6,7,8,9] (by kernel_rfl) ?_
 refine zl (fun K0 hK0=>?_)
 refine And.intro (by decide) (Exists.intro _ (And.intro rfl ?_))
 refine And.intro (by omega) ?_
 refine Or.inl ⟨i,hi',by unfold I64;omega, ?_⟩
 refine And.intro (by decide) (Exists.intro _ (And.intro rfl ?_))
 refine And.intro (by omega) ?_
 refine Or.inl ⟨j,hj',by unfold I64;omega, ?_⟩
 refine hK0 _ _ ?_
 clear hK0 K0
 (repeat refine goZ ?_)
 refine And.intro (fun hc=>?_) (fun hc=>?_)
 ·have hc : ¬ i=j:=by simpa using hc
  rw[if_neg hc] at hL'
  obtain ⟨d,hd⟩ : ∃ d,gapF a h i j=d:=⟨_,rfl⟩
  have hgap:=gap_in hi.1 hi.2 hj.1 hj.2 hc
  rw[hd] at hL' hgap
  (repeat refine goZ ?_)
  (first | refine c159 ha hh hi.1 hi.2 hj.1 hj.2 hd hgap ?_ | refine (c159 ha hh hi.1 hi.2 hj.1 hj.2 hd hgap ?_).call)
  have hu:=por_bd (a:=a) (h:=h) (g:=i) (d:=d) (by omega) (by omega) (by omega) (by omega)
  have hw:=por_bd (a:=a) (h:=h) (g:=j) (d:=a*h+1-2-d) (by omega) (by omega) (by omega) (by omega)
  generalize porF a h i d=u at hL' hu ⊢
  generalize porF a h j (a*h+1-2-d)=w at hL' hw ⊢
  subst hL'
  (repeat refine goZ ?_)
  (repeat refine goZ ?_)
  (first | refine c160 (s := [x,u,w,g]) (by omega) rfl ?_ | refine (c160 (s := [x,u,w,g]) (by omega) rfl ?_).call)
  have hD1:=ddF_pos (l := [x,u,w,g]) (by simp)
  have hD2:=ddF_le [x,u,w,g] _ (Nat.le_refl _)
  rw[List.take_length] at hD2
  have hDm : ∀ y∈ddF [x,u,w,g],I64 y:=fun y hy=>xO (by have:=ddF_mem hy;simp at this;omega)
  generalize ddF [x,u,w,g]=D at *
  obtain ⟨n,hn⟩ : ∃ n,([x,u,w,g]).length=n:=⟨_,rfl⟩
  rw[hn] at hD2 hL ⊢
  refine Or.inl ⟨((D.length-1:Nat):Int),by omega,by unfold I64;omega, ?_⟩
  (repeat refine gsZ ?_)
  generalize hZ:List.replicate (n-D.length) (0:Int)=Z
  refine qN (α := Nat × List Int) tok (fun | (k,q)=>k+1<=D.length/\q=clsF a i (D.take k))
   (fun | (k,q)=>[(3, .pointer (some ⟨0,0,none⟩)),(8, .int .i64 i),(6, .slice (some ⟨1,0,none⟩) D.length n),(7,qV 2 q),(48, .slice (some ⟨1,0,none⟩) (D.length-1) n),(49, .int .i64 ((D.length-1:Nat):Int)),(50, .int .i64 k)])
   (fun | (_,q)=>[ro [a,h],rw' (D++Z),qB q]) (fun p=>D.length-p.1) (0,[]) ⟨by omega,rfl⟩ ?_ ?_
  ·refine Or.inr ⟨[(0,0),(2,0),(0,0)],by simp,qF rfl, ?_,rfl, ?_⟩
   ·exact⟨⟨_,rfl,xJ [a,h]⟩,⟨_,rfl,BRen.ints _ _ _⟩,⟨_,rfl,bren_nil⟩,trivial⟩
   ·exact⟨⟨_,rfl,VRen.ptr (s:=0) rfl rfl⟩,⟨_,rfl,VRen.int _ _⟩,⟨_,rfl,VRen.slice rfl rfl (Nat.le_refl _)⟩,⟨_,rfl,VRen.nilslice⟩,⟨_,rfl,VRen.slice rfl (by simp) (by omega)⟩,⟨_,rfl,VRen.int _ _⟩,⟨_,rfl,VRen.int _ _⟩,trivial⟩
  rintro ⟨k,q⟩ ⟨k1,k2⟩
  have hkD:k<D.length:=by omega
  have hyI:=hDm D[k]! (by rw[getElem!_pos D k hkD];exact List.getElem_mem _)
  have hyd:=div_i64 hyI ha.1
  refine And.intro (fun hc=>?_) (fun hc=>?_)
  ·have hc:k<D.length-1:=by simpa using hc
   (repeat refine goZ ?_)
   refine vO k D[k]! (by show 0+k*1=k;omega) (by rw[List.getElem?_append_left hkD,getElem!_pos D k hkD];exact List.getElem?_eq_getElem _) ?_
   (repeat refine goZ ?_)
   refine Or.inl ⟨D[k]!.tdiv a,rfl,hyd, ?_⟩
   refine And.intro (fun hd=>?_) (fun hd=>?_)
   ·have hd : ¬ D[k]!.tdiv a=i:=by simpa using hd
    have e1:=clsF_snoc (a:=a) (i:=i) hkD
    rw[if_neg hd,<- k2] at e1
    refine And.intro (by decide) ?_
    cases q with
    | nil =>
      refine⟨rfl,app_nil rfl ?_⟩
      refine Or.inl ⟨((k+1:Nat):Int),by simp,by unfold I64;omega, ?_⟩
      refine⟨(k+1,[1]),⟨by omega,e1.symm⟩,by simp only;omega,Or.inr ⟨[(0,0),(1,0),(4,0)],by simp,qF rfl, ?_,rfl, ?_⟩⟩
      ·exact⟨⟨_,rfl,xJ [a,h]⟩,⟨_,rfl,BRen.ints _ _ _⟩,⟨_,rfl,BRen.ints _ _ [1]⟩,trivial⟩
      ·exact⟨⟨_,rfl,VRen.ptr (s:=0) rfl rfl⟩,⟨_,rfl,VRen.int _ _⟩,⟨_,rfl,VRen.slice rfl rfl (Nat.le_refl _)⟩,⟨_,rfl,VRen.slice rfl rfl (Nat.le_refl _)⟩,⟨_,rfl,VRen.slice rfl rfl (Nat.le_refl _)⟩,⟨_,rfl,VRen.int _ _⟩,⟨_,rfl,VRen.int _ _⟩,trivial⟩
    | cons z q =>
      have hql:(z::q).length<=1000:=by rw[k2];simp[clsF];omega
      refine⟨rfl,zx (p:=z::q) rfl rfl (by omega) ?_⟩
      refine Or.inl ⟨((k+1:Nat):Int),by simp,by unfold I64;omega, ?_⟩
      rw[List.cons_append] at e1
      refine⟨(k+1,z::(q ++ [1])),⟨by omega,e1.symm⟩,by simp only;omega,Or.inr ⟨[(0,0),(1,0),(4,0)],by simp,qF rfl, ?_,rfl, ?_⟩⟩
      ·exact⟨⟨_,rfl,xJ [a,h]⟩,⟨_,rfl,BRen.ints _ _ _⟩,⟨_,rfl,BRen.ints _ _ (z::(q ++ [1]))⟩,trivial⟩
      ·exact⟨⟨_,rfl,VRen.ptr (s:=0) rfl rfl⟩,⟨_,rfl,VRen.int _ _⟩,⟨_,rfl,VRen.slice rfl rfl (Nat.le_refl _)⟩,⟨_,rfl,VRen.slice rfl rfl (Nat.le_refl _)⟩,⟨_,rfl,VRen.slice rfl rfl (Nat.le_refl _)⟩,⟨_,rfl,VRen.int _ _⟩,⟨_,rfl,VRen.int _ _⟩,trivial⟩
   ·have hd:D[k]!.tdiv a=i:=by simpa using hd
    have e1:=clsF_snoc (a:=a) (i:=i) hkD
    rw[if_pos hd,<- k2] at e1
    refine And.intro (by decide) ?_
    cases q with
    | nil =>
      refine⟨rfl,app_nil rfl ?_⟩
      refine Or.inl ⟨((k+1:Nat):Int),by simp,by unfold I64;omega, ?_⟩
      refine⟨(k+1,[0]),⟨by omega,e1.symm⟩,by simp only;omega,Or.inr ⟨[(0,0),(1,0),(4,0)],by simp,qF rfl, ?_,rfl, ?_⟩⟩
      ·exact⟨⟨_,rfl,xJ [a,h]⟩,⟨_,rfl,BRen.ints _ _ _⟩,⟨_,rfl,BRen.ints _ _ [0]⟩,trivial⟩
      ·exact⟨⟨_,rfl,VRen.ptr (s:=0) rfl rfl⟩,⟨_,rfl,VRen.int _ _⟩,⟨_,rfl,VRen.slice rfl rfl (Nat.le_refl _)⟩,⟨_,rfl,VRen.slice rfl rfl (Nat.le_refl _)⟩,⟨_,rfl,VRen.slice rfl rfl (Nat.le_refl _)⟩,⟨_,rfl,VRen.int _ _⟩,⟨_,rfl,VRen.int _ _⟩,trivial⟩
    | cons z q =>
      have hql:(z::q).length<=1000:=by rw[k2];simp[clsF];omega
      refine⟨rfl,zx (p:=z::q) rfl rfl (by omega) ?_⟩
      refine Or.inl ⟨((k+1:Nat):Int),by simp,by unfold I64;omega, ?_⟩
      rw[List.cons_append] at e1
      refine⟨(k+1,z::(q ++ [0])),⟨by omega,e1.symm⟩,by simp only;omega,Or.inr ⟨[(0,0),(1,0),(4,0)],by simp,qF rfl, ?_,rfl, ?_⟩⟩
      ·exact⟨⟨_,rfl,xJ [a,h]⟩,⟨_,rfl,BRen.ints _ _ _⟩,⟨_,rfl,BRen.ints _ _ (z::(q ++ [0]))⟩,trivial⟩
      ·exact⟨⟨_,rfl,VRen.ptr (s:=0) rfl rfl⟩,⟨_,rfl,VRen.int _ _⟩,⟨_,rfl,VRen.slice rfl rfl (Nat.le_refl _)⟩,⟨_,rfl,VRen.slice rfl rfl (Nat.le_refl _)⟩,⟨_,rfl,VRen.slice rfl rfl (Nat.le_refl _)⟩,⟨_,rfl,VRen.int _ _⟩,⟨_,rfl,VRen.int _ _⟩,trivial⟩
  ·have hk:k=D.length-1:=by simp at hc;omega
   have e1:D.dropLast=D.take k:=by rw[hk,List.dropLast_eq_take]
   rw[e1,<- k2]
   cases q with
   | nil=>exact⟨[(1,0)], .tuple ⟨[.slice (some ⟨0,0,none⟩) D.length n, .slice none 0 0]⟩,[rw' (D++Z)],by simp,qF rfl,⟨⟨_,rfl,BRen.ints _ _ _⟩,trivial⟩,rfl,VRen.tuple (.cons (VRen.slice rfl rfl (Nat.le_refl _)) (.cons VRen.nilslice .nil)),[D++Z],_,_,rfl,rfl, .inr ⟨0,D++Z,n,rfl,rfl,by simp,hD2⟩, .inl ⟨rfl,rfl⟩⟩
   | cons z q=>exact⟨[(1,0),(2,0)], .tuple ⟨[.slice (some ⟨0,0,none⟩) D.length n,sv 1 (z::q).length]⟩,[rw' (D++Z),rw' (z::q)],by simp,qF rfl,⟨⟨_,rfl,BRen.ints _ _ _⟩,⟨_,rfl,BRen.ints _ _ _⟩,trivial⟩,rfl,VRen.tuple (.cons (VRen.slice rfl rfl (Nat.le_refl _)) (.cons (VRen.slice rfl rfl (Nat.le_refl _)) .nil)),[D++Z,z::q],_,_,rfl,rfl, .inr ⟨0,D++Z,n,rfl,rfl,by simp,hD2⟩, .inr ⟨1,z::q,(z::q).length,rfl,rfl,List.take_length,Nat.le_refl _⟩⟩
 ·have hc:i=j:=by simpa using hc
  rw[if_pos hc] at hL'
  subst hL'
  (repeat refine goZ ?_)
  (first | refine c160 (s := [x,g]) (by omega) rfl ?_ | refine (c160 (s := [x,g]) (by omega) rfl ?_).call)
  have hD1:=ddF_pos (l := [x,g]) (by simp)
  have hD2:=ddF_le [x,g] _ (Nat.le_refl _)
  rw[List.take_length] at hD2
  have hDm : ∀ y∈ddF [x,g],I64 y:=fun y hy=>xO (by have:=ddF_mem hy;simp at this;omega)
  generalize ddF [x,g]=D at *
  obtain ⟨n,hn⟩ : ∃ n,([x,g]).length=n:=⟨_,rfl⟩
  rw[hn] at hD2 hL ⊢
  refine Or.inl ⟨((D.length-1:Nat):Int),by omega,by unfold I64;omega, ?_⟩
  (repeat refine gsZ ?_)
  generalize hZ:List.replicate (n-D.length) (0:Int)=Z
  refine qN (α := Nat × List Int) tok (fun | (k,q)=>k+1<=D.length/\q=clsF a i (D.take k))
   (fun | (k,q)=>[(3, .pointer (some ⟨0,0,none⟩)),(8, .int .i64 i),(6, .slice (some ⟨1,0,none⟩) D.length n),(7,qV 2 q),(48, .slice (some ⟨1,0,none⟩) (D.length-1) n),(49, .int .i64 ((D.length-1:Nat):Int)),(50, .int .i64 k)])
   (fun | (_,q)=>[ro [a,h],rw' (D++Z),qB q]) (fun p=>D.length-p.1) (0,[]) ⟨by omega,rfl⟩ ?_ ?_
  ·refine Or.inr ⟨[(0,0),(1,0),(0,0)],by simp,qF rfl, ?_,rfl, ?_⟩
   ·exact⟨⟨_,rfl,xJ [a,h]⟩,⟨_,rfl,BRen.ints _ _ _⟩,⟨_,rfl,bren_nil⟩,trivial⟩
   ·exact⟨⟨_,rfl,VRen.ptr (s:=0) rfl rfl⟩,⟨_,rfl,VRen.int _ _⟩,⟨_,rfl,VRen.slice rfl rfl (Nat.le_refl _)⟩,⟨_,rfl,VRen.nilslice⟩,⟨_,rfl,VRen.slice rfl (by simp) (by omega)⟩,⟨_,rfl,VRen.int _ _⟩,⟨_,rfl,VRen.int _ _⟩,trivial⟩
  rintro ⟨k,q⟩ ⟨k1,k2⟩
  have hkD:k<D.length:=by omega
  have hyI:=hDm D[k]! (by rw[getElem!_pos D k hkD];exact List.getElem_mem _)
  have hyd:=div_i64 hyI ha.1
  refine And.intro (fun hc=>?_) (fun hc=>?_)
  ·have hc:k<D.length-1:=by simpa using hc
   (repeat refine goZ ?_)
   refine vO k D[k]! (by show 0+k*1=k;omega) (by rw[List.getElem?_append_left hkD,getElem!_pos D k hkD];exact List.getElem?_eq_getElem _) ?_
   (repeat refine goZ ?_)
   refine Or.inl ⟨D[k]!.tdiv a,rfl,hyd, ?_⟩
   refine And.intro (fun hd=>?_) (fun hd=>?_)
   ·have hd : ¬ D[k]!.tdiv a=i:=by simpa using hd
    have e1:=clsF_snoc (a:=a) (i:=i) hkD
    rw[if_neg hd,<- k2] at e1
    refine And.intro (by decide) ?_
    cases q with
    | nil =>
      refine⟨rfl,app_nil rfl ?_⟩
      refine Or.inl ⟨((k+1:Nat):Int),by simp,by unfold I64;omega, ?_⟩
      refine⟨(k+1,[1]),⟨by omega,e1.symm⟩,by simp only;omega,Or.inr ⟨[(0,0),(1,0),(4,0)],by simp,qF rfl, ?_,rfl, ?_⟩⟩
      ·exact⟨⟨_,rfl,xJ [a,h]⟩,⟨_,rfl,BRen.ints _ _ _⟩,⟨_,rfl,BRen.ints _ _ [1]⟩,trivial⟩
      ·exact⟨⟨_,rfl,VRen.ptr (s:=0) rfl rfl⟩,⟨_,rfl,VRen.int _ _⟩,⟨_,rfl,VRen.slice rfl rfl (Nat.le_refl _)⟩,⟨_,rfl,VRen.slice rfl rfl (Nat.le_refl _)⟩,⟨_,rfl,VRen.slice rfl rfl (Nat.le_refl _)⟩,⟨_,rfl,VRen.int _ _⟩,⟨_,rfl,VRen.int _ _⟩,trivial⟩
    | cons z q =>
      have hql:(z::q).length<=1000:=by rw[k2];simp[clsF];omega
      refine⟨rfl,zx (p:=z::q) rfl rfl (by omega) ?_⟩
      refine Or.inl ⟨((k+1:Nat):Int),by simp,by unfold I64;omega, ?_⟩
      rw[List.cons_append] at e1
      refine⟨(k+1,z::(q ++ [1])),⟨by omega,e1.symm⟩,by simp only;omega,Or.inr ⟨[(0,0),(1,0),(4,0)],by simp,qF rfl, ?_,rfl, ?_⟩⟩
      ·exact⟨⟨_,rfl,xJ [a,h]⟩,⟨_,rfl,BRen.ints _ _ _⟩,⟨_,rfl,BRen.ints _ _ (z::(q ++ [1]))⟩,trivial⟩
      ·exact⟨⟨_,rfl,VRen.ptr (s:=0) rfl rfl⟩,⟨_,rfl,VRen.int _ _⟩,⟨_,rfl,VRen.slice rfl rfl (Nat.le_refl _)⟩,⟨_,rfl,VRen.slice rfl rfl (Nat.le_refl _)⟩,⟨_,rfl,VRen.slice rfl rfl (Nat.le_refl _)⟩,⟨_,rfl,VRen.int _ _⟩,⟨_,rfl,VRen.int _ _⟩,trivial⟩
   ·have hd:D[k]!.tdiv a=i:=by simpa using hd
    have e1:=clsF_snoc (a:=a) (i:=i) hkD
    rw[if_pos hd,<- k2] at e1
    refine And.intro (by decide) ?_
    cases q with
    | nil =>
      refine⟨rfl,app_nil rfl ?_⟩
      refine Or.inl ⟨((k+1:Nat):Int),by simp,by unfold I64;omega, ?_⟩
      refine⟨(k+1,[0]),⟨by omega,e1.symm⟩,by simp only;omega,Or.inr ⟨[(0,0),(1,0),(4,0)],by simp,qF rfl, ?_,rfl, ?_⟩⟩
      ·exact⟨⟨_,rfl,xJ [a,h]⟩,⟨_,rfl,BRen.ints _ _ _⟩,⟨_,rfl,BRen.ints _ _ [0]⟩,trivial⟩
      ·exact⟨⟨_,rfl,VRen.ptr (s:=0) rfl rfl⟩,⟨_,rfl,VRen.int _ _⟩,⟨_,rfl,VRen.slice rfl rfl (Nat.le_refl _)⟩,⟨_,rfl,VRen.slice rfl rfl (Nat.le_refl _)⟩,⟨_,rfl,VRen.slice rfl rfl (Nat.le_refl _)⟩,⟨_,rfl,VRen.int _ _⟩,⟨_,rfl,VRen.int _ _⟩,trivial⟩
    | cons z q =>
      have hql:(z::q).length<=1000:=by rw[k2];simp[clsF];omega
      refine⟨rfl,zx (p:=z::q) rfl rfl (by omega) ?_⟩
      refine Or.inl ⟨((k+1:Nat):Int),by simp,by unfold I64;omega, ?_⟩
      rw[List.cons_append] at e1
      refine⟨(k+1,z::(q ++ [0])),⟨by omega,e1.symm⟩,by simp only;omega,Or.inr ⟨[(0,0),(1,0),(4,0)],by simp,qF rfl, ?_,rfl, ?_⟩⟩
      ·exact⟨⟨_,rfl,xJ [a,h]⟩,⟨_,rfl,BRen.ints _ _ _⟩,⟨_,rfl,BRen.ints _ _ (z::(q ++ [0]))⟩,trivial⟩
      ·exact⟨⟨_,rfl,VRen.ptr (s:=0) rfl rfl⟩,⟨_,rfl,VRen.int _ _⟩,⟨_,rfl,VRen.slice rfl rfl (Nat.le_refl _)⟩,⟨_,rfl,VRen.slice rfl rfl (Nat.le_refl _)⟩,⟨_,rfl,VRen.slice rfl rfl (Nat.le_refl _)⟩,⟨_,rfl,VRen.int _ _⟩,⟨_,rfl,VRen.int _ _⟩,trivial⟩
  ·have hk:k=D.length-1:=by simp at hc;omega
   have e1:D.dropLast=D.take k:=by rw[hk,List.dropLast_eq_take]
   rw[e1,<- k2]
   cases q with
   | nil=>exact⟨[(1,0)], .tuple ⟨[.slice (some ⟨0,0,none⟩) D.length n, .slice none 0 0]⟩,[rw' (D++Z)],by simp,qF rfl,⟨⟨_,rfl,BRen.ints _ _ _⟩,trivial⟩,rfl,VRen.tuple (.cons (VRen.slice rfl rfl (Nat.le_refl _)) (.cons VRen.nilslice .nil)),[D++Z],_,_,rfl,rfl, .inr ⟨0,D++Z,n,rfl,rfl,by simp,hD2⟩, .inl ⟨rfl,rfl⟩⟩
   | cons z q=>exact⟨[(1,0),(2,0)], .tuple ⟨[.slice (some ⟨0,0,none⟩) D.length n,sv 1 (z::q).length]⟩,[rw' (D++Z),rw' (z::q)],by simp,qF rfl,⟨⟨_,rfl,BRen.ints _ _ _⟩,⟨_,rfl,BRen.ints _ _ _⟩,trivial⟩,rfl,VRen.tuple (.cons (VRen.slice rfl rfl (Nat.le_refl _)) (.cons (VRen.slice rfl rfl (Nat.le_refl _)) .nil)),[D++Z,z::q],_,_,rfl,rfl, .inr ⟨0,D++Z,n,rfl,rfl,by simp,hD2⟩, .inr ⟨1,z::q,(z::q).length,rfl,rfl,List.take_length,Nat.le_refl _⟩⟩
end Go.Af.Tryz.Ne
