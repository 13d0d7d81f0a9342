/-
  Routes in a dragonfly, as the reference finds them.
  Routes: what both sides come to. No program is in sight.
  Route and Classes, of both sides.
  Route and Classes, of both sides.
  Route and Classes of the reference.
-/
import Derived.Test.YtgdbclgcbbbenaaGreatMV
import Derived.Test.YtgdbclgcbbbenaaGreatMC
import Derived.Test.YtgdbclgcbbbenaaGreatMCA
set_option linter.all false
namespace Go.Af.Tryz.Ne
open Go Go.Proofs
attribute [local irreducible] awp qj qm qP qH

theorem l80 (kind hosts a h g e:Int) (ha:1<=a/\a<=16) (hh:1<=h/\h<=4) (hg:0<=g/\g<=64) (he:0<=e/\e<=64):qj Tryz.prog 301 [spV kind (sv 0 2) hosts, .int .i64 g, .int .i64 e] [ro [a,h]] (fun v H=>v = .int .i64 (porF a h g e)/\H = [ro [a,h]]):=by
 have hm:=mulb (a:=g) (b:=a) (A:=64) (B:=16) (by omega) (by omega) (by omega) (by omega)
 have h1:=Int.tdiv_nonneg he.1 (show 0<=h by omega)
 have h2:=Int.tdiv_le_self h he.1
 refine qy (qc tok Tryz.call301 Tryz.func301 rfl Tryz.ntmps301 rfl (by simp) ?_)
 (repeat refine goZ ?_)
 refine qG tok mx [0,0,2,6,14,31,0,0,128,384,896,1984,4095,8191] [false,false,false,false,false,false,true,true,true,true,true,true,false,false] [0,1,2,3,4,5,6,7,8,9,10,11,12,13] (by kernel_rfl) ?_
 refine vC (fun K0 hK0=>?_)
 (repeat refine gsZ ?_)
 refine hK0 _ _ ?_
 exact⟨[(0,0)],_,[ro [a,h]],by simp,qg rfl,⟨⟨_,rfl,BRen.ints _ _ _⟩,trivial⟩,rfl,VRen.plain rfl,rfl,rfl⟩
theorem c80 {H:List Blk} {R:Value->List Blk->Prop} {b:Nat} {wr:Bool} {kind hosts a h g e:Int} (ha:1<=a/\a<=16) (hh:1<=h/\h<=4) (hg:0<=g/\g<=64) (he:0<=e/\e<=64) (hb:bget H b=some (.cells wr 1 (ints [a,h]))) (hR:R (.int .i64 (porF a h g e)) H) :
 qm Tryz.prog 301 [spV kind (sv b 2) hosts, .int .i64 g, .int .i64 e] H R:=wu (sides := [a,h]) rfl (l80 kind hosts a h g e ha hh hg he) hb (Nat.le_refl _) rfl hR

def cdF (L c:List Int):Nat->List Int
 | 0=>[]
 | k+1=>if L[k+1]! = L[k]! then cdF L c k else cdF L c k ++ [c[k+1]!]
def clsL (a _h x g:Int):List Int:=if x.tdiv a=g.tdiv a then [0,0] else [0,0,0,1]


theorem bren_pre {ι : List (Nat × Nat)} {wr:Bool} {xs ys:List Int} (h:ys.take xs.length=xs):BRen ι 0 (ro xs) (.cells wr 1 (ints ys)):=BRen.cells (wr2:=false) (fun h=>by cases h) fun i x hx=>by
 rw[qQ] at hx
 cases hy:xs[i]? with
 | none=>rw[hy] at hx;cases hx
 | some y=>rw[hy] at hx;cases hx;exact⟨_,by rw[Nat.zero_add,qQ,take_get h hy];rfl,VRen.int _ _⟩
abbrev pB (p:List Int):Blk := .cells (Nat.blt 1 p.length) 1 (ints p)
theorem bren_w {ι : List (Nat × Nat)} {w:Bool} {xs:List Int}:BRen ι 0 (.cells w 1 (ints xs)) (.cells true 1 (ints xs)):=BRen.cells (fun _=>rfl) fun i x hx=>by
 rw[qQ] at hx
 cases hy:xs[i]? with
 | none=>rw[hy] at hx;cases hx
 | some y=>rw[hy] at hx;cases hx;exact⟨_,by rw[Nat.zero_add,qQ,hy];rfl,VRen.int _ _⟩
theorem bren_pB {ι : List (Nat × Nat)} {xs:List Int} (h:Nat.blt 1 xs.length=true):BRen ι 0 (rw' xs) (pB xs):=by
 show BRen ι 0 _ (.cells (Nat.blt 1 xs.length) 1 (ints xs))
 rw[h];exact BRen.ints _ _ _
theorem por_grp {a h g d:Int} (ha:1<=a) (hh:1<=h) (hg:0<=g) (hd:0<=d/\d<a*h):(porF a h g d).tdiv a=g:=by
 unfold porF
 have h1:=Int.tdiv_nonneg hd.1 (show 0<=h by omega)
 have h2:d.tdiv h<a:=by
  rw[Int.tdiv_eq_ediv_of_nonneg hd.1]
  exact Int.ediv_lt_of_lt_mul (by omega) hd.2
 have h3:=Int.mul_nonneg hg (show 0<=a by omega)
 generalize d.tdiv h=q at *
 rw[Int.tdiv_eq_ediv_of_nonneg (by omega),Int.add_comm,Int.add_mul_ediv_right _ _ (by omega),Int.ediv_eq_zero_of_lt h1 h2,Int.zero_add]
theorem ddF_two {x u w g:Int} (h:u≠w):2<=(ddF [x,u,w,g]).length:=by
 by_cases h1:x=u <;> by_cases h2:w=g <;> simp[ddF,h1,h2,h] <;> (repeat' split) <;> simp_all
theorem ddF_two' {x g:Int} (h:x≠g):2<=(ddF [x,g]).length:=by simp[ddF,h]
theorem ints_take' (p:List Int):(ints p).take p.length=ints p:=List.take_of_length_le (by simp[ints])
theorem cdF_len (L c:List Int) : ∀ k,(cdF L c k).length<=k
 | 0=>by simp[cdF]
 | k+1=>by have:=cdF_len L c k;simp only[cdF];split <;> simp <;> omega

theorem bren_q {ι : List (Nat × Nat)} {q:List Int}:BRen ι 0 (qB q) (qB q):=by cases q <;> exact BRen.ints _ _ _
theorem vren_q {ι : List (Nat × Nat)} {j:Nat} {q:List Int} (h : ι[j]? = some (j,0)):VRen ι (qV j q) (qV j q):=by
 cases q with
 | nil=>exact VRen.nilslice
 | cons z q=>exact VRen.slice h (Nat.zero_add 0).symm (Nat.le_refl _)




set_option maxHeartbeats 8000000 in
theorem l55 (kind hosts a h x g:Int) (ha:1<=a/\a<=16) (hh:1<=h/\h<=4) (hx:0<=x/\x<a*(a*h+1)) (hg:0<=g/\g<a*(a*h+1)):qj Tryz.prog 198 [spV kind (sv 0 2) hosts, .int .i64 x, .int .i64 g] [ro [a,h]]
 (fun v H => ∃ (N:List (List Int)) (v1 v2:Value),v = .tuple ⟨[v1,v2]⟩/\H = [ro [a,h]]++N.map rw' /\ RN 1 N v1 (ddF (flyL a h x g))/\RN 1 N v2 (cdF (flyL a h x g) (clsL a h x g) ((flyL a h x g).length-1))):=by
 have hm:=mulb (a:=a) (b:=h) (A:=16) (B:=4) (by omega) (by omega) (by omega) (by omega)
 have hm2:=mulb (a:=a) (b:=a*h+1) (A:=16) (B:=65) (by omega) (by omega) (by omega) (by omega)
 have hi:=fly_grp (h:=h) ha.1 hx
 have hj:=fly_grp (h:=h) ha.1 hg
 have hL:=flyL_len a h x g
 obtain ⟨L,hL'⟩ : ∃ L,flyL a h x g=L:=⟨_,rfl⟩
 obtain ⟨C,hC'⟩ : ∃ C,clsL a h x g=C:=⟨_,rfl⟩
 rw[hL'] at hL ⊢
 rw[hC']
 unfold flyL at hL'
 unfold clsL at hC'
 obtain ⟨i,hi'⟩ : ∃ i,x.tdiv a=i:=⟨_,rfl⟩
 obtain ⟨j,hj'⟩ : ∃ i,g.tdiv a=i:=⟨_,rfl⟩
 rw[hi',hj'] at hL' hC'
 rw[hi'] at hi
 rw[hj'] at hj
 refine qy (qc tok Tryz.call198 Tryz.func198 rfl Tryz.ntmps198 rfl (by simp) ?_)
 (repeat refine goZ ?_)
 refine qG tok mx [0,0,2,6,14,31,0,0,128,384,896,1984,63,8191] [false,false,false,false,false,false,true,true,true,true,true,true,true,false] [0,1,2,3,4,5,6,7,8,9,10,11,12,13] (by kernel_rfl) ?_
 refine vC (fun K0 hK0=>?_)
 refine And.intro (by decide) (Exists.intro _ (And.intro rfl ?_))
 refine⟨0,rfl,by decide, ?_⟩
 refine⟨_,rfl, ?_⟩
 refine And.intro (by omega) (Or.inl ⟨i,hi',by unfold I64;omega, ?_⟩)
 refine And.intro (by decide) (Exists.intro _ (And.intro rfl ?_))
 refine⟨0,rfl,by decide, ?_⟩
 refine⟨_,rfl, ?_⟩
 refine And.intro (by omega) (Or.inl ⟨j,hj',by unfold I64;omega, ?_⟩)
 refine hK0 _ _ ?_
 clear hK0 K0
 (repeat refine gsZ ?_)
 refine And.intro (fun hc=>?_) (fun hc=>?_)
 ·have hc : ¬ i=j:=by simpa using hc
  rw[if_neg hc] at hL' hC'
  obtain ⟨d,hd⟩ : ∃ d,gapF a h i j=d:=⟨_,rfl⟩
  have hgap:=gap_in hi.1 hi.2 hj.1 hj.2 hc
  rw[hd] at hL' hgap
  unfold gapF at hd
  refine qG tok mx [0,0,3,7,0,16,63,0,176,511,1023] [false,false,false,false,false,true,true,true,false,false,false] [0,1,2,3,4,7,5,6,8,9,10] (by kernel_rfl) ?_
  refine vC (fun K0 hK0=>?_)
  refine Or.inl ⟨j-i,rfl,by unfold I64;omega, ?_⟩
  refine Or.inl ⟨j-i-1,rfl,by unfold I64;omega, ?_⟩
  refine⟨_,rfl,_,rfl,_,rfl,_,rfl,_,rfl,_,rfl, ?_⟩
  (first | refine c70 ha hh rfl ?_ | refine (c70 ha hh rfl ?_).call)
  refine Or.inl ⟨j-i-1+(a*h+1),rfl,by unfold I64;omega, ?_⟩
  (first | refine c70 ha hh rfl ?_ | refine (c70 ha hh rfl ?_).call)
  refine And.intro (by omega) ⟨d,hd, ?_⟩
  refine hK0 _ _ ?_
  clear hK0 K0 hd
  obtain ⟨e,he⟩ : ∃ e,a*h+1-2-d=e:=⟨_,rfl⟩
  rw[he] at hL'
  refine qG tok mx [0,0,0,0,14,0,0,0,158,414,0,1950,4094,0,16383,32767] [false,false,true,true,true,true,true,true,true,true,true,true,false,true,false,false] [0,1,2,3,5,6,7,10,13,4,8,9,11,12,14,15] (by kernel_rfl) ?_
  refine vC (fun K0 hK0=>?_)
  refine⟨_,rfl,_,rfl,_,rfl,_,rfl,_,rfl,_,rfl,_,rfl,_,rfl,_,rfl, ?_⟩
  (first | refine c80 (g:=i) (e:=d) ha hh (by omega) (by omega) rfl ?_ | refine (c80 (g:=i) (e:=d) ha hh (by omega) (by omega) rfl ?_).call)
  (first | refine c70 ha hh rfl ?_ | refine (c70 ha hh rfl ?_).call)
  refine Or.inl ⟨a*h+1-2,rfl,by unfold I64;omega, ?_⟩
  refine Or.inl ⟨e,he,by unfold I64;omega, ?_⟩
  (first | refine c80 (g:=j) (e:=e) ha hh (by omega) (by omega) rfl ?_ | refine (c80 (g:=j) (e:=e) ha hh (by omega) (by omega) rfl ?_).call)
  have huw:porF a h i d≠porF a h j e:=fun eq=>hc (by rw[<- por_grp (a:=a) (h:=h) (g:=i) (d:=d) ha.1 hh.1 hi.1 (by omega),eq,por_grp ha.1 hh.1 hj.1 (by omega)])
  generalize porF a h i d=u at hL' huw ⊢
  generalize porF a h j e=w at hL' huw ⊢
  subst hL' hC'
  (repeat refine gsZ ?_)
  refine hK0 _ _ ?_
  clear hK0 K0
  (repeat refine gsZ ?_)
  (repeat refine gsZ ?_)
  refine vcg_loopA (α := Nat) (fun k=>1<=k/\k<=([x,u,w,g]:List Int).length)
   (fun k=>[(3, .pointer (some ⟨1,0,none⟩)),(10,sv 2 ([x,u,w,g]:List Int).length),(11,sv 3 ([x,u,w,g]:List Int).length),(13, .slice (some ⟨4,0,none⟩) (ddF (([x,u,w,g]:List Int).take (k+0))).length (ddF (([x,u,w,g]:List Int).take (k+0))).length),(14,qV 5 (cdF ([x,u,w,g]:List Int) ([0,0,0,1]:List Int) (k+0-1))),(15, .int .i64 k)])
   (fun k=>[ro [a,h], .cells true 1 [.int .i64 kind,sv 0 2, .int .i64 hosts],ro ([x,u,w,g]:List Int),ro ([0,0,0,1]:List Int),pB (ddF (([x,u,w,g]:List Int).take (k+0))),qB (cdF ([x,u,w,g]:List Int) ([0,0,0,1]:List Int) (k+0-1))])
   (fun k=>([x,u,w,g]:List Int).length-k) 1 ⟨by decide,by simp⟩ ?_ ?_
  ·refine Or.inr ⟨[(0,0),(1,0),(4,0),(5,0),(4,0),(0,0)],by simp,qg rfl, ?_,rfl, ?_⟩
   ·exact⟨⟨_,rfl,BRen.ints _ _ _⟩,⟨_,rfl,wR rfl⟩,⟨_,rfl,zQ [x,u,w,g]⟩,⟨_,rfl,zQ [0,0,0,1]⟩,⟨_,rfl,bren_pre (ys := [x,u,w,g]) rfl⟩,⟨_,rfl,bren_nil⟩,trivial⟩
   ·exact⟨⟨_,rfl,VRen.ptr (s:=0) rfl rfl⟩,⟨_,rfl,VRen.slice rfl rfl (Nat.le_refl _)⟩,⟨_,rfl,VRen.slice rfl rfl (Nat.le_refl _)⟩,⟨_,rfl,VRen.slice rfl rfl (by show 1<=_;simp)⟩,⟨_,rfl,VRen.nilslice⟩,⟨_,rfl,VRen.int _ _⟩,trivial⟩
  have hCL:([0,0,0,1]:List Int).length=([x,u,w,g]:List Int).length:=rfl
  have hD:2<=(ddF [x,u,w,g]).length:=by exact ddF_two huw
  generalize ([0,0,0,1]:List Int)=C at hCL ⊢
  generalize ([x,u,w,g]:List Int)=L at hL hCL hD ⊢
  rintro k ⟨k1,k2⟩
  have hp1:1<=(ddF (L.take k)).length:=ddF_pos (fun e=>by have:=congrArg List.length e;rw[List.length_take,List.length_nil] at this;omega)
  have hp2:=ddF_le L k k2
  have hq2:=cdF_len L C (k-1)
  refine vcg_seqA tok ?_
  (repeat refine goZ ?_)
  refine And.intro (fun hk=>?_) (fun hk=>?_)
  ·have hk:k<L.length:=by simpa using hk
   have hd1:=ddF_step (l:=L) (i:=k) (by omega) hk
   have hc1:cdF L C k=if L[k]! = L[k-1]! then cdF L C (k-1) else cdF L C (k-1) ++ [C[k]!]:=by
    obtain ⟨k',rfl⟩ : ∃ k',k=k' + 1:=⟨k-1,by omega⟩
    rfl
   refine vcg_cutA (α := Nat) (fun k' => k' = k)
    (fun k=>[(3, .pointer (some ⟨1,0,none⟩)),(10,sv 2 L.length),(11,sv 3 L.length),(13, .slice (some ⟨4,0,none⟩) (ddF (L.take (k+1))).length (ddF (L.take (k+1))).length),(14,qV 5 (cdF L C (k+1-1))),(15, .int .i64 k)])
    (fun k=>[ro [a,h], .cells true 1 [.int .i64 kind,sv 0 2, .int .i64 hosts],ro L,ro C,pB (ddF (L.take (k+1))),qB (cdF L C (k+1-1))])
    ?_ ?_
   ·refine vcg_blockA ?_
    refine vcg_seqA tok ?_
    refine qG tok mx [0,0,3,7,0,0,32,112,240,511] [false,false,false,false,true,true,true,true,true,false] [0,1,2,3,4,5,6,7,8,9] (by kernel_rfl) ?_
    refine vC (fun K0 hK0=>?_)
    refine⟨k,rfl,hk, ?_⟩
    refine qU k L[k]! (by simp) (by rw[getElem!_pos L k hk];exact List.getElem?_eq_getElem _) ?_
    refine Or.inl ⟨((k-1:Nat):Int),by omega,by unfold I64;omega, ?_⟩
    refine⟨k-1,rfl,by omega, ?_⟩
    refine qU (k-1) L[k-1]! (by simp) (by rw[getElem!_pos L (k-1) (by omega)];exact List.getElem?_eq_getElem _) ?_
    refine hK0 _ _ ?_
    clear hK0 K0
    refine vcg_condA (And.intro (fun he=>?_) (fun he=>?_))
    ·have he : ¬ L[k]! = L[k-1]! := by simpa using he
     rw[if_neg he] at hd1 hc1
     generalize hp:ddF (L.take k)=p at *
     generalize hq:cdF L C (k-1)=q at *
     obtain ⟨z,hz⟩ : ∃ z,L[k]! = z:=⟨_,rfl⟩
     have hLk:L[k]? = some z:=by rw[<- hz,getElem!_pos L k hk];exact List.getElem?_eq_getElem _
     rw[hz] at hd1
     refine vcg_cutA (α := Unit) (fun _=>True)
      (fun _=>[(3, .pointer (some ⟨1,0,none⟩)),(10,sv 2 L.length),(11,sv 3 L.length),(13, .slice (some ⟨4,0,none⟩) (p ++ [z]).length (p ++ [z]).length),(14,qV 5 q),(15, .int .i64 k)])
      (fun _=>[ro [a,h], .cells true 1 [.int .i64 kind,sv 0 2, .int .i64 hosts],ro L,ro C,pB (p ++ [z]),qB q]) ?_ ?_
     ·refine vk tok mx [0,0,0,6,0,0,48,112,240,510,1023,2047] [true,false,false,false,false,false,false,false,false,false,false,false] (.first 2 (.first 4 (.first 5 (.first 6 (.alt 0 (.alt 1 (.alt 3 (.first 7 (.first 8 (.first 9 (.first 10 (.first 11 .done))))) (.alt 7 (.alt 3 (.first 8 (.first 9 (.first 10 (.first 11 .done)))) (.alt 8 (.first 3 (.first 9 (.first 10 (.first 11 .done)))) .no)) .no)) (.alt 7 (.alt 1 (.alt 3 (.first 8 (.first 9 (.first 10 (.first 11 .done)))) (.alt 8 (.first 3 (.first 9 (.first 10 (.first 11 .done)))) .no)) (.alt 8 (.first 1 (.first 3 (.first 9 (.first 10 (.first 11 .done))))) .no)) .no)) (.alt 1 (.alt 0 (.alt 3 (.first 7 (.first 8 (.first 9 (.first 10 (.first 11 .done))))) (.alt 7 (.alt 3 (.first 8 (.first 9 (.first 10 (.first 11 .done)))) (.alt 8 (.first 3 (.first 9 (.first 10 (.first 11 .done)))) .no)) .no)) (.alt 3 (.first 7 (.alt 0 (.first 8 (.first 9 (.first 10 (.first 11 .done)))) (.alt 8 (.alt 0 (.first 9 (.first 10 (.first 11 .done))) (.alt 9 (.first 0 (.first 10 (.first 11 .done))) .no)) .no))) (.alt 7 (.alt 0 (.alt 3 (.first 8 (.first 9 (.first 10 (.first 11 .done)))) (.alt 8 (.first 3 (.first 9 (.first 10 (.first 11 .done)))) .no)) (.alt 3 (.alt 0 (.first 8 (.first 9 (.first 10 (.first 11 .done)))) (.alt 8 (.alt 0 (.first 9 (.first 10 (.first 11 .done))) (.alt 9 (.first 0 (.first 10 (.first 11 .done))) .no)) .no)) (.alt 8 (.alt 0 (.first 3 (.first 9 (.first 10 (.first 11 .done)))) (.alt 3 (.alt 0 (.first 9 (.first 10 (.first 11 .done))) (.alt 9 (.first 0 (.first 10 (.first 11 .done))) .no)) .no)) .no))) .no))) (.alt 7 (.alt 0 (.alt 1 (.alt 3 (.first 8 (.first 9 (.first 10 (.first 11 .done)))) (.alt 8 (.first 3 (.first 9 (.first 10 (.first 11 .done)))) .no)) (.alt 8 (.first 1 (.first 3 (.first 9 (.first 10 (.first 11 .done))))) .no)) (.alt 1 (.alt 0 (.alt 3 (.first 8 (.first 9 (.first 10 (.first 11 .done)))) (.alt 8 (.first 3 (.first 9 (.first 10 (.first 11 .done)))) .no)) (.alt 3 (.alt 0 (.first 8 (.first 9 (.first 10 (.first 11 .done)))) (.alt 8 (.alt 0 (.first 9 (.first 10 (.first 11 .done))) (.alt 9 (.first 0 (.first 10 (.first 11 .done))) .no)) .no)) (.alt 8 (.alt 0 (.first 3 (.first 9 (.first 10 (.first 11 .done)))) (.alt 3 (.alt 0 (.first 9 (.first 10 (.first 11 .done))) (.alt 9 (.first 0 (.first 10 (.first 11 .done))) .no)) .no)) .no))) (.alt 8 (.alt 0 (.first 1 (.first 3 (.first 9 (.first 10 (.first 11 .done))))) (.alt 1 (.alt 0 (.first 3 (.first 9 (.first 10 (.first 11 .done)))) (.alt 3 (.alt 0 (.first 9 (.first 10 (.first 11 .done))) (.alt 9 (.first 0 (.first 10 (.first 11 .done))) .no)) .no)) .no)) .no))) .no))))))) (by kernel_rfl) ?_
      repeat' (first|exact trivial|refine⟨rfl,vU (p:=p) rfl rfl (by omega) ?_⟩|refine⟨rfl,app_grow' (xs := []) (us:=p) (m:=p.length) rfl (ints_take' p) rfl (by omega) rfl (by simp;omega) ?_⟩|refine⟨rfl,app_grow' (xs := []) (us:=p ++ [z]) (m:=(p ++ [z]).length) rfl (ints_take' _) rfl (by simp) rfl (by simp;omega) ?_⟩|refine And.intro (by decide) ?_|refine⟨k,rfl,hk, ?_⟩|refine qU k z (by simp) hLk ?_|exact⟨(),trivial,Or.inr ⟨[(0,0),(1,0),(2,0),(3,0),(11,0),(5,0)],by simp,qg rfl,⟨⟨_,rfl,BRen.ints _ _ _⟩,⟨_,rfl,wR rfl⟩,⟨_,rfl,BRen.ints _ _ _⟩,⟨_,rfl,BRen.ints _ _ _⟩,⟨_,rfl,bren_w⟩,⟨_,rfl,bren_q⟩,trivial⟩,rfl,⟨⟨_,rfl,VRen.ptr (s:=0) rfl rfl⟩,⟨_,rfl,VRen.slice rfl rfl (Nat.le_refl _)⟩,⟨_,rfl,VRen.slice rfl rfl (Nat.le_refl _)⟩,⟨_,rfl,VRen.slice rfl rfl (Nat.le_refl _)⟩,⟨_,rfl,vren_q rfl⟩,⟨_,rfl,VRen.int _ _⟩,trivial⟩⟩⟩|refine And.intro ?_ ?_)
     ·rintro _ -
      refine vJ tok _ ?_
      refine⟨k,rfl,by omega, ?_⟩
      refine qU k C[k]! (by simp) (by rw[getElem!_pos C k (by omega)];exact List.getElem?_eq_getElem _) ?_
      refine And.intro (by decide) ?_
      cases q with
      | nil =>
        refine⟨rfl,zS rfl ?_⟩
        refine⟨k,rfl, ?_⟩
        dsimp only
        rw[hd1,Nat.add_sub_cancel,hc1]
        exact Or.inr ⟨[(0,0),(1,0),(2,0),(3,0),(4,0),(7,0)],by simp,qg rfl,⟨⟨_,rfl,BRen.ints _ _ _⟩,⟨_,rfl,wR rfl⟩,⟨_,rfl,BRen.ints _ _ _⟩,⟨_,rfl,BRen.ints _ _ _⟩,⟨_,rfl,BRen.ints _ _ _⟩,⟨_,rfl,BRen.ints _ _ [C[k]!]⟩,trivial⟩,rfl,⟨⟨_,rfl,VRen.ptr (s:=0) rfl rfl⟩,⟨_,rfl,VRen.slice rfl rfl (Nat.le_refl _)⟩,⟨_,rfl,VRen.slice rfl rfl (Nat.le_refl _)⟩,⟨_,rfl,VRen.slice rfl rfl (Nat.le_refl _)⟩,⟨_,rfl,VRen.slice rfl rfl (Nat.le_refl _)⟩,⟨_,rfl,VRen.int _ _⟩,trivial⟩⟩
      | cons y q =>
        refine⟨rfl,vU (p:=y::q) rfl rfl (by omega) ?_⟩
        refine⟨k,rfl, ?_⟩
        dsimp only
        rw[hd1,Nat.add_sub_cancel,hc1]
        exact Or.inr ⟨[(0,0),(1,0),(2,0),(3,0),(4,0),(7,0)],by simp,qg rfl,⟨⟨_,rfl,BRen.ints _ _ _⟩,⟨_,rfl,wR rfl⟩,⟨_,rfl,BRen.ints _ _ _⟩,⟨_,rfl,BRen.ints _ _ _⟩,⟨_,rfl,BRen.ints _ _ _⟩,⟨_,rfl,BRen.ints _ _ (y::(q ++ [C[k]!]))⟩,trivial⟩,rfl,⟨⟨_,rfl,VRen.ptr (s:=0) rfl rfl⟩,⟨_,rfl,VRen.slice rfl rfl (Nat.le_refl _)⟩,⟨_,rfl,VRen.slice rfl rfl (Nat.le_refl _)⟩,⟨_,rfl,VRen.slice rfl rfl (Nat.le_refl _)⟩,⟨_,rfl,VRen.slice rfl rfl (Nat.le_refl _)⟩,⟨_,rfl,VRen.int _ _⟩,trivial⟩⟩
    ·have he:L[k]! = L[k-1]! := by simpa using he
     rw[if_pos he] at hd1 hc1
     refine vJ tok _ ?_
     refine⟨k,rfl,Or.inl ⟨⟨rfl,rfl,rfl, ?_, ?_,rfl,trivial⟩, ?_⟩⟩
     ·rw[hd1];rfl
     ·rw[Nat.add_sub_cancel,hc1];rfl
     ·rw[hd1,Nat.add_sub_cancel,hc1];rfl
   ·rintro k' rfl
    refine vJ tok _ ?_
    refine Or.inl ⟨((k' + 1:Nat):Int),by simp,by unfold I64;omega, ?_⟩
    exact⟨k' + 1,⟨by omega,by omega⟩,by omega,Or.inl ⟨⟨rfl,rfl,rfl,rfl,rfl,rfl,trivial⟩,rfl⟩⟩
  ·have hk:k=L.length:=by simp at hk;omega
   subst hk
   rw[List.take_length] at hp1 hp2
   rw[show L.length+0=L.length from rfl,List.take_length]
   generalize ddF L=D at *
   generalize cdF L C (L.length-1)=q at *
   have e2:Nat.blt 1 D.length=true:=Nat.ble_eq_true_of_le hD
   cases q with
   | nil=>exact⟨[(0,0),(4,0)], .tuple ⟨[.slice (some ⟨1,0,none⟩) D.length D.length, .slice none 0 0]⟩,[ro [a,h],rw' D],by simp,qg rfl,⟨⟨_,rfl,BRen.ints _ _ _⟩,⟨_,rfl,bren_pB e2⟩,trivial⟩,rfl,VRen.tuple (.cons (VRen.slice rfl rfl (Nat.le_refl _)) (.cons VRen.nilslice .nil)),[D],_,_,rfl,rfl,RN.at 0 rfl (Nat.le_refl _),RN.nil _ _⟩
   | cons y q=>exact⟨[(0,0),(4,0),(5,0)], .tuple ⟨[.slice (some ⟨1,0,none⟩) D.length D.length,sv 2 (y::q).length]⟩,[ro [a,h],rw' D,rw' (y::q)],by simp,qg rfl,⟨⟨_,rfl,BRen.ints _ _ _⟩,⟨_,rfl,bren_pB e2⟩,⟨_,rfl,BRen.ints _ _ _⟩,trivial⟩,rfl,VRen.tuple (.cons (VRen.slice rfl rfl (Nat.le_refl _)) (.cons (VRen.slice rfl rfl (Nat.le_refl _)) .nil)),[D,y::q],_,_,rfl,rfl,RN.at 0 rfl (Nat.le_refl _),RN.at 1 rfl (Nat.le_refl _)⟩
 ·have hc:i=j:=by simpa using hc
  rw[if_pos hc] at hL' hC'
  subst hL' hC'
  by_cases hxg:x=g
  ·subst hxg
   (repeat refine goZ ?_)
   have hdx:ddF [x,x] = [x]:=by simp[ddF]
   refine qF (α := Nat) tok (fun k=>1<=k/\k<=2)
    (fun k=>[(3, .pointer (some ⟨1,0,none⟩)),(10,sv 2 2),(11,sv 3 2),(13, .slice (some ⟨2,0,none⟩) 1 2),(14, .slice none 0 0),(15, .int .i64 k)])
    (fun _=>[ro [a,h], .cells true 1 [.int .i64 kind,sv 0 2, .int .i64 hosts],rw' [x,x],rw' [0,0]]) (fun k=>2-k) 1 ⟨by decide,by decide⟩ (Or.inl ⟨⟨rfl,rfl,rfl,rfl,rfl,rfl,trivial⟩,rfl⟩) ?_
   rintro k ⟨k1,k2⟩
   (repeat refine goZ ?_)
   refine And.intro (fun hk=>?_) (fun hk=>?_)
   ·have hk:k=1:=by simp at hk;omega
    subst hk
    refine qG tok mx [0,0,3,7,0,0,32,112,240,511] [false,false,false,false,true,true,true,true,true,false] [0,1,2,3,4,5,6,7,8,9] (by kernel_rfl) ?_
    refine vC (fun K0 hK0=>?_)
    refine⟨1,rfl,by decide, ?_⟩
    refine qU 1 x rfl rfl ?_
    refine Or.inl ⟨((0:Nat):Int),rfl,by unfold I64;omega, ?_⟩
    refine⟨0,rfl,by decide, ?_⟩
    refine qU 0 x rfl rfl ?_
    refine hK0 _ _ ?_
    clear hK0 K0
    refine And.intro (fun h=>absurd h (by simp)) (fun _=>?_)
    refine Or.inl ⟨((2:Nat):Int),rfl,by unfold I64;omega, ?_⟩
    exact⟨2,⟨by decide,by decide⟩,by decide,Or.inl ⟨⟨rfl,rfl,rfl,rfl,rfl,rfl,trivial⟩,rfl⟩⟩
   ·have hk:k=2:=by simp at hk;omega
    subst hk
    rw[hdx]
    have hcd:cdF [x,x] [0,0] ([x,x].length-1) = []:=by simp[cdF]
    rw[hcd]
    exact⟨[(0,0),(2,0)], .tuple ⟨[.slice (some ⟨1,0,none⟩) 1 2, .slice none 0 0]⟩,[ro [a,h],rw' [x,x]],by simp,qg rfl,⟨⟨_,rfl,BRen.ints _ _ _⟩,⟨_,rfl,BRen.ints _ _ [x,x]⟩,trivial⟩,rfl,VRen.tuple (.cons (VRen.slice rfl rfl (Nat.le_refl _)) (.cons VRen.nilslice .nil)),[[x,x]],_,_,rfl,rfl, .inr ⟨0,[x,x],2,rfl,rfl,rfl,by simp⟩,RN.nil _ _⟩
  ·have hxg' := hxg
   (repeat refine gsZ ?_)
   refine vcg_loopA (α := Nat) (fun k=>1<=k/\k<=([x,g]:List Int).length)
    (fun k=>[(3, .pointer (some ⟨1,0,none⟩)),(10,sv 2 ([x,g]:List Int).length),(11,sv 3 ([x,g]:List Int).length),(13, .slice (some ⟨4,0,none⟩) (ddF (([x,g]:List Int).take (k+0))).length (ddF (([x,g]:List Int).take (k+0))).length),(14,qV 5 (cdF ([x,g]:List Int) ([0,0]:List Int) (k+0-1))),(15, .int .i64 k)])
    (fun k=>[ro [a,h], .cells true 1 [.int .i64 kind,sv 0 2, .int .i64 hosts],ro ([x,g]:List Int),ro ([0,0]:List Int),pB (ddF (([x,g]:List Int).take (k+0))),qB (cdF ([x,g]:List Int) ([0,0]:List Int) (k+0-1))])
    (fun k=>([x,g]:List Int).length-k) 1 ⟨by decide,by simp⟩ ?_ ?_
   ·refine Or.inr ⟨[(0,0),(1,0),(2,0),(3,0),(2,0),(0,0)],by simp,qg rfl, ?_,rfl, ?_⟩
    ·exact⟨⟨_,rfl,BRen.ints _ _ _⟩,⟨_,rfl,wR rfl⟩,⟨_,rfl,zQ [x,g]⟩,⟨_,rfl,zQ [0,0]⟩,⟨_,rfl,bren_pre (ys := [x,g]) rfl⟩,⟨_,rfl,bren_nil⟩,trivial⟩
    ·exact⟨⟨_,rfl,VRen.ptr (s:=0) rfl rfl⟩,⟨_,rfl,VRen.slice rfl rfl (Nat.le_refl _)⟩,⟨_,rfl,VRen.slice rfl rfl (Nat.le_refl _)⟩,⟨_,rfl,VRen.slice rfl rfl (by show 1<=_;simp)⟩,⟨_,rfl,VRen.nilslice⟩,⟨_,rfl,VRen.int _ _⟩,trivial⟩
   have hCL:([0,0]:List Int).length=([x,g]:List Int).length:=rfl
   have hD:2<=(ddF [x,g]).length:=by exact ddF_two' hxg
   generalize ([0,0]:List Int)=C at hCL ⊢
   generalize ([x,g]:List Int)=L at hL hCL hD ⊢
   rintro k ⟨k1,k2⟩
   have hp1:1<=(ddF (L.take k)).length:=ddF_pos (fun e=>by have:=congrArg List.length e;rw[List.length_take,List.length_nil] at this;omega)
   have hp2:=ddF_le L k k2
   have hq2:=cdF_len L C (k-1)
   refine vcg_seqA tok ?_
   (repeat refine goZ ?_)
   refine And.intro (fun hk=>?_) (fun hk=>?_)
   ·have hk:k<L.length:=by simpa using hk
    have hd1:=ddF_step (l:=L) (i:=k) (by omega) hk
    have hc1:cdF L C k=if L[k]! = L[k-1]! then cdF L C (k-1) else cdF L C (k-1) ++ [C[k]!]:=by
     obtain ⟨k',rfl⟩ : ∃ k',k=k' + 1:=⟨k-1,by omega⟩
     rfl
    refine vcg_cutA (α := Nat) (fun k' => k' = k)
     (fun k=>[(3, .pointer (some ⟨1,0,none⟩)),(10,sv 2 L.length),(11,sv 3 L.length),(13, .slice (some ⟨4,0,none⟩) (ddF (L.take (k+1))).length (ddF (L.take (k+1))).length),(14,qV 5 (cdF L C (k+1-1))),(15, .int .i64 k)])
     (fun k=>[ro [a,h], .cells true 1 [.int .i64 kind,sv 0 2, .int .i64 hosts],ro L,ro C,pB (ddF (L.take (k+1))),qB (cdF L C (k+1-1))])
     ?_ ?_
    ·refine vcg_blockA ?_
     refine vcg_seqA tok ?_
     refine qG tok mx [0,0,3,7,0,0,32,112,240,511] [false,false,false,false,true,true,true,true,true,false] [0,1,2,3,4,5,6,7,8,9] (by kernel_rfl) ?_
     refine vC (fun K0 hK0=>?_)
     refine⟨k,rfl,hk, ?_⟩
     refine qU k L[k]! (by simp) (by rw[getElem!_pos L k hk];exact List.getElem?_eq_getElem _) ?_
     refine Or.inl ⟨((k-1:Nat):Int),by omega,by unfold I64;omega, ?_⟩
     refine⟨k-1,rfl,by omega, ?_⟩
     refine qU (k-1) L[k-1]! (by simp) (by rw[getElem!_pos L (k-1) (by omega)];exact List.getElem?_eq_getElem _) ?_
     refine hK0 _ _ ?_
     clear hK0 K0
     refine vcg_condA (And.intro (fun he=>?_) (fun he=>?_))
     ·have he : ¬ L[k]! = L[k-1]! := by simpa using he
      rw[if_neg he] at hd1 hc1
      generalize hp:ddF (L.take k)=p at *
      generalize hq:cdF L C (k-1)=q at *
      obtain ⟨z,hz⟩ : ∃ z,L[k]! = z:=⟨_,rfl⟩
      have hLk:L[k]? = some z:=by rw[<- hz,getElem!_pos L k hk];exact List.getElem?_eq_getElem _
      rw[hz] at hd1
      refine vcg_cutA (α := Unit) (fun _=>True)
       (fun _=>[(3, .pointer (some ⟨1,0,none⟩)),(10,sv 2 L.length),(11,sv 3 L.length),(13, .slice (some ⟨4,0,none⟩) (p ++ [z]).length (p ++ [z]).length),(14,qV 5 q),(15, .int .i64 k)])
       (fun _=>[ro [a,h], .cells true 1 [.int .i64 kind,sv 0 2, .int .i64 hosts],ro L,ro C,pB (p ++ [z]),qB q]) ?_ ?_
      ·refine vk tok mx [0,0,0,6,0,0,48,112,240,510,1023,2047] [true,false,false,false,false,false,false,false,false,false,false,false] (.first 2 (.first 4 (.first 5 (.first 6 (.alt 0 (.alt 1 (.alt 3 (.first 7 (.first 8 (.first 9 (.first 10 (.first 11 .done))))) (.alt 7 (.alt 3 (.first 8 (.first 9 (.first 10 (.first 11 .done)))) (.alt 8 (.first 3 (.first 9 (.first 10 (.first 11 .done)))) .no)) .no)) (.alt 7 (.alt 1 (.alt 3 (.first 8 (.first 9 (.first 10 (.first 11 .done)))) (.alt 8 (.first 3 (.first 9 (.first 10 (.first 11 .done)))) .no)) (.alt 8 (.first 1 (.first 3 (.first 9 (.first 10 (.first 11 .done))))) .no)) .no)) (.alt 1 (.alt 0 (.alt 3 (.first 7 (.first 8 (.first 9 (.first 10 (.first 11 .done))))) (.alt 7 (.alt 3 (.first 8 (.first 9 (.first 10 (.first 11 .done)))) (.alt 8 (.first 3 (.first 9 (.first 10 (.first 11 .done)))) .no)) .no)) (.alt 3 (.first 7 (.alt 0 (.first 8 (.first 9 (.first 10 (.first 11 .done)))) (.alt 8 (.alt 0 (.first 9 (.first 10 (.first 11 .done))) (.alt 9 (.first 0 (.first 10 (.first 11 .done))) .no)) .no))) (.alt 7 (.alt 0 (.alt 3 (.first 8 (.first 9 (.first 10 (.first 11 .done)))) (.alt 8 (.first 3 (.first 9 (.first 10 (.first 11 .done)))) .no)) (.alt 3 (.alt 0 (.first 8 (.first 9 (.first 10 (.first 11 .done)))) (.alt 8 (.alt 0 (.first 9 (.first 10 (.first 11 .done))) (.alt 9 (.first 0 (.first 10 (.first 11 .done))) .no)) .no)) (.alt 8 (.alt 0 (.first 3 (.first 9 (.first 10 (.first 11 .done)))) (.alt 3 (.alt 0 (.first 9 (.first 10 (.first 11 .done))) (.alt 9 (.first 0 (.first 10 (.first 11 .done))) .no)) .no)) .no))) .no))) (.alt 7 (.alt 0 (.alt 1 (.alt 3 (.first 8 (.first 9 (.first 10 (.first 11 .done)))) (.alt 8 (.first 3 (.first 9 (.first 10 (.first 11 .done)))) .no)) (.alt 8 (.first 1 (.first 3 (.first 9 (.first 10 (.first 11 .done))))) .no)) (.alt 1 (.alt 0 (.alt 3 (.first 8 (.first 9 (.first 10 (.first 11 .done)))) (.alt 8 (.first 3 (.first 9 (.first 10 (.first 11 .done)))) .no)) (.alt 3 (.alt 0 (.first 8 (.first 9 (.first 10 (.first 11 .done)))) (.alt 8 (.alt 0 (.first 9 (.first 10 (.first 11 .done))) (.alt 9 (.first 0 (.first 10 (.first 11 .done))) .no)) .no)) (.alt 8 (.alt 0 (.first 3 (.first 9 (.first 10 (.first 11 .done)))) (.alt 3 (.alt 0 (.first 9 (.first 10 (.first 11 .done))) (.alt 9 (.first 0 (.first 10 (.first 11 .done))) .no)) .no)) .no))) (.alt 8 (.alt 0 (.first 1 (.first 3 (.first 9 (.first 10 (.first 11 .done))))) (.alt 1 (.alt 0 (.first 3 (.first 9 (.first 10 (.first 11 .done)))) (.alt 3 (.alt 0 (.first 9 (.first 10 (.first 11 .done))) (.alt 9 (.first 0 (.first 10 (.first 11 .done))) .no)) .no)) .no)) .no))) .no))))))) (by kernel_rfl) ?_
       repeat' (first|exact trivial|refine⟨rfl,vU (p:=p) rfl rfl (by omega) ?_⟩|refine⟨rfl,app_grow' (xs := []) (us:=p) (m:=p.length) rfl (ints_take' p) rfl (by omega) rfl (by simp;omega) ?_⟩|refine⟨rfl,app_grow' (xs := []) (us:=p ++ [z]) (m:=(p ++ [z]).length) rfl (ints_take' _) rfl (by simp) rfl (by simp;omega) ?_⟩|refine And.intro (by decide) ?_|refine⟨k,rfl,hk, ?_⟩|refine qU k z (by simp) hLk ?_|exact⟨(),trivial,Or.inr ⟨[(0,0),(1,0),(2,0),(3,0),(11,0),(5,0)],by simp,qg rfl,⟨⟨_,rfl,BRen.ints _ _ _⟩,⟨_,rfl,wR rfl⟩,⟨_,rfl,BRen.ints _ _ _⟩,⟨_,rfl,BRen.ints _ _ _⟩,⟨_,rfl,bren_w⟩,⟨_,rfl,bren_q⟩,trivial⟩,rfl,⟨⟨_,rfl,VRen.ptr (s:=0) rfl rfl⟩,⟨_,rfl,VRen.slice rfl rfl (Nat.le_refl _)⟩,⟨_,rfl,VRen.slice rfl rfl (Nat.le_refl _)⟩,⟨_,rfl,VRen.slice rfl rfl (Nat.le_refl _)⟩,⟨_,rfl,vren_q rfl⟩,⟨_,rfl,VRen.int _ _⟩,trivial⟩⟩⟩|refine And.intro ?_ ?_)
      ·rintro _ -
       refine vJ tok _ ?_
       refine⟨k,rfl,by omega, ?_⟩
       refine qU k C[k]! (by simp) (by rw[getElem!_pos C k (by omega)];exact List.getElem?_eq_getElem _) ?_
       refine And.intro (by decide) ?_
       cases q with
       | nil =>
         refine⟨rfl,zS rfl ?_⟩
         refine⟨k,rfl, ?_⟩
         dsimp only
         rw[hd1,Nat.add_sub_cancel,hc1]
         exact Or.inr ⟨[(0,0),(1,0),(2,0),(3,0),(4,0),(7,0)],by simp,qg rfl,⟨⟨_,rfl,BRen.ints _ _ _⟩,⟨_,rfl,wR rfl⟩,⟨_,rfl,BRen.ints _ _ _⟩,⟨_,rfl,BRen.ints _ _ _⟩,⟨_,rfl,BRen.ints _ _ _⟩,⟨_,rfl,BRen.ints _ _ [C[k]!]⟩,trivial⟩,rfl,⟨⟨_,rfl,VRen.ptr (s:=0) rfl rfl⟩,⟨_,rfl,VRen.slice rfl rfl (Nat.le_refl _)⟩,⟨_,rfl,VRen.slice rfl rfl (Nat.le_refl _)⟩,⟨_,rfl,VRen.slice rfl rfl (Nat.le_refl _)⟩,⟨_,rfl,VRen.slice rfl rfl (Nat.le_refl _)⟩,⟨_,rfl,VRen.int _ _⟩,trivial⟩⟩
       | cons y q =>
         refine⟨rfl,vU (p:=y::q) rfl rfl (by omega) ?_⟩
         refine⟨k,rfl, ?_⟩
         dsimp only
         rw[hd1,Nat.add_sub_cancel,hc1]
         exact Or.inr ⟨[(0,0),(1,0),(2,0),(3,0),(4,0),(7,0)],by simp,qg rfl,⟨⟨_,rfl,BRen.ints _ _ _⟩,⟨_,rfl,wR rfl⟩,⟨_,rfl,BRen.ints _ _ _⟩,⟨_,rfl,BRen.ints _ _ _⟩,⟨_,rfl,BRen.ints _ _ _⟩,⟨_,rfl,BRen.ints _ _ (y::(q ++ [C[k]!]))⟩,trivial⟩,rfl,⟨⟨_,rfl,VRen.ptr (s:=0) rfl rfl⟩,⟨_,rfl,VRen.slice rfl rfl (Nat.le_refl _)⟩,⟨_,rfl,VRen.slice rfl rfl (Nat.le_refl _)⟩,⟨_,rfl,VRen.slice rfl rfl (Nat.le_refl _)⟩,⟨_,rfl,VRen.slice rfl rfl (Nat.le_refl _)⟩,⟨_,rfl,VRen.int _ _⟩,trivial⟩⟩
     ·have he:L[k]! = L[k-1]! := by simpa using he
      rw[if_pos he] at hd1 hc1
      refine vJ tok _ ?_
      refine⟨k,rfl,Or.inl ⟨⟨rfl,rfl,rfl, ?_, ?_,rfl,trivial⟩, ?_⟩⟩
      ·rw[hd1];rfl
      ·rw[Nat.add_sub_cancel,hc1];rfl
      ·rw[hd1,Nat.add_sub_cancel,hc1];rfl
    ·rintro k' rfl
     refine vJ tok _ ?_
     refine Or.inl ⟨((k' + 1:Nat):Int),by simp,by unfold I64;omega, ?_⟩
     exact⟨k' + 1,⟨by omega,by omega⟩,by omega,Or.inl ⟨⟨rfl,rfl,rfl,rfl,rfl,rfl,trivial⟩,rfl⟩⟩
   ·have hk:k=L.length:=by simp at hk;omega
    subst hk
    rw[List.take_length] at hp1 hp2
    rw[show L.length+0=L.length from rfl,List.take_length]
    generalize ddF L=D at *
    generalize cdF L C (L.length-1)=q at *
    have e2:Nat.blt 1 D.length=true:=Nat.ble_eq_true_of_le hD
    cases q with
    | nil=>exact⟨[(0,0),(4,0)], .tuple ⟨[.slice (some ⟨1,0,none⟩) D.length D.length, .slice none 0 0]⟩,[ro [a,h],rw' D],by simp,qg rfl,⟨⟨_,rfl,BRen.ints _ _ _⟩,⟨_,rfl,bren_pB e2⟩,trivial⟩,rfl,VRen.tuple (.cons (VRen.slice rfl rfl (Nat.le_refl _)) (.cons VRen.nilslice .nil)),[D],_,_,rfl,rfl,RN.at 0 rfl (Nat.le_refl _),RN.nil _ _⟩
    | cons y q=>exact⟨[(0,0),(4,0),(5,0)], .tuple ⟨[.slice (some ⟨1,0,none⟩) D.length D.length,sv 2 (y::q).length]⟩,[ro [a,h],rw' D,rw' (y::q)],by simp,qg rfl,⟨⟨_,rfl,BRen.ints _ _ _⟩,⟨_,rfl,bren_pB e2⟩,⟨_,rfl,BRen.ints _ _ _⟩,trivial⟩,rfl,VRen.tuple (.cons (VRen.slice rfl rfl (Nat.le_refl _)) (.cons (VRen.slice rfl rfl (Nat.le_refl _)) .nil)),[D,y::q],_,_,rfl,rfl,RN.at 0 rfl (Nat.le_refl _),RN.at 1 rfl (Nat.le_refl _)⟩
end Go.Af.Tryz.Ne
namespace Go.Af.Tryz.Ne
open Go

theorem step_in {m d a:Int} (hm:2<=m) (hd:d=1\/d = -1) (h0:0<=a):0<=qW m d a/\qW m d a<m:=by
 unfold qW
 exact⟨Int.tmod_nonneg _ (by omega),Int.tmod_lt_of_pos _ (by omega)⟩
theorem inn_len (g:List Int) (i:Nat) (m d:Int) : ∀ (k:Nat) (e:List Int) (c:Int) (p q:List Int),(inn g i m d k e c p q).2.1.length=p.length+k/\(inn g i m d k e c p q).2.2.length=q.length+k
 | 0,_,_,_,_=>⟨rfl,rfl⟩
 | k+1,e,c,p,q=>by
   have:=inn_len g i m d k (e.set i (qW m d e[i]!)) (if qW m d e[i]! - e[i]! ≠ d then 1 else c) (p ++ [numF g (e.set i (qW m d e[i]!))]) (q ++ [if qW m d e[i]! - e[i]! ≠ d then 1 else c])
   simp only[inn]
   rw[this.1,this.2]
   simp;omega
theorem inn_in {g:List Int} {i:Nat} {d:Int} (hi:i<g.length) (hm:2<=g[i]!) (hd:d=1\/d = -1) : ∀ (k:Nat) (e:List Int) (c:Int) (p q:List Int),InR g e->InR g (inn g i g[i]! d k e c p q).1
 | 0,_,_,_,_,h=>h
 | k+1,e,c,p,q,h=>by
   have hs:=step_in hm hd (h.2 i hi).1
   simp only[inn]
   exact inn_in hi hm hd k _ _ _ _ (h.set hi hs.1 hs.2)
theorem outr_len {g ts:List Int} (hg : ∀ i,i<g.length->2<=g[i]! /\ g[i]! <= 16) (ht:InR g ts) : ∀ (k i:Nat) (e p q:List Int),i+k=g.length->InR g e ->
 (outr g ts k i e p q).1.length<=p.length+16*k/\(outr g ts k i e p q).2.length+p.length=(outr g ts k i e p q).1.length+q.length
 | 0,_,_,_,_,_,_=>by simp only[outr];omega
 | k+1,i,e,p,q,h,hin=>by
   have hi:i<g.length:=by omega
   have hd:=dirF_two g[i]! e[i]! ts[i]!
   have hl:=inn_len g i g[i]! (dirF g[i]! e[i]! ts[i]!) (yf g[i]! (dirF g[i]! e[i]! ts[i]!) e[i]! ts[i]!) e 0 p q
   have hr:=inn_in hi (hg i hi).1 hd (yf g[i]! (dirF g[i]! e[i]! ts[i]!) e[i]! ts[i]!) e 0 p q hin
   have hb:=dist_le (m:=g[i]!) (d:=dirF g[i]! e[i]! ts[i]!) (hg i hi).2 (hin.2 i hi).1 (hin.2 i hi).2 (ht.2 i hi).1 (ht.2 i hi).2
   simp only[outr]
   have:=outr_len hg ht k (i+1) _ (inn g i g[i]! (dirF g[i]! e[i]! ts[i]!) (yf g[i]! (dirF g[i]! e[i]! ts[i]!) e[i]! ts[i]!) e 0 p q).2.1 (inn g i g[i]! (dirF g[i]! e[i]! ts[i]!) (yf g[i]! (dirF g[i]! e[i]! ts[i]!) e[i]! ts[i]!) e 0 p q).2.2 (by omega) hr
   omega
theorem torF_len {g:List Int} (hok:(Sh.grid g).ok) {x y:Int} (hx:0<=x) (hy:0<=y):(torF g x y).1.length<=65/\(torF g x y).2.length+1=(torF g x y).1.length:=by
 obtain ⟨h1,h2,h3,h4⟩:=hok
 have hg : ∀ i,i<g.length->2<=g[i]! /\ g[i]! <= 16:=fun i hi=>by rw[getElem!_pos g i hi];exact h3 _ (List.getElem_mem hi)
 have:=outr_len hg (yg hy g (fun m hm=>(h3 m hm).1)) g.length 0 (vY g x) [x] [] (by omega) (yg hx g (fun m hm=>(h3 m hm).1))
 unfold torF
 simp at this ⊢
 omega

theorem upF_len (k y W:Int) : ∀ (f l:Nat) (w:Int) (p:List Int),(upF k y W f l w p).2.2.length<=p.length+f/\(upF k y W f l w p).1<=l+f/\p.length<=(upF k y W f l w p).2.2.length
 | 0,_,_,_=>⟨Nat.le_refl _,Nat.le_refl _,Nat.le_refl _⟩
 | f+1,l,w,p=>by
   simp only[upF]
   split
   ·simp
   ·have:=upF_len k y W f (l+1) (likF k w l y) (p ++ [((l+1:Nat):Int)*W+likF k w l y])
    simp only[List.length_append,List.length_singleton] at this
    omega
theorem dnF_len (k y W:Int) : ∀ (l:Nat) (w:Int) (p:List Int),(dnF k y W l w p).length=p.length+l
 | 0,_,_=>rfl
 | l+1,w,p=>by
   simp only[dnF]
   rw[dnF_len k y W l]
   simp;omega
theorem treF_len {k:Int} {N:Nat} {x y:Int} (hx:(x.tdiv (k ^ N)).toNat<=4) (hN:N<=3):1<=(treF k N x y).length/\(treF k N x y).length<=100:=by
 unfold treF
 have h1:=upF_len k y (k ^ N) (N-(x.tdiv (k ^ N)).toNat) (x.tdiv (k ^ N)).toNat (x.tmod (k ^ N)) [x]
 rw[dnF_len]
 simp only[List.length_singleton] at h1
 omega

def wz (s:Sh) (x y:Int):List Int × List Int :=
 match s with
 | .grid g=>torF g x y
 | .fat k n=>(treF k (n-1).toNat x y,List.replicate ((treF k (n-1).toNat x y).length-1) 0)
 | .fly a h=>flyF a h x y
def goF (o:Option Sh) (x y:Int):Int :=
 match o with
 | none=>2
 | some s=>if (0<=x/\x<s.sw)/\(0<=y/\y<s.sw) then (if s.hm<=y then 2 else 0) else 3

theorem fly_cls {a h x g:Int} (ha:1<=a) (hh:1<=h) (hx:0<=x/\x<a*(a*h+1)) (hg:0<=g/\g<a*(a*h+1)):cdF (flyL a h x g) (clsL a h x g) ((flyL a h x g).length-1)=(flyF a h x g).2:=by
 have hi:=fly_grp (h:=h) ha hx
 have hj:=fly_grp (h:=h) ha hg
 unfold flyF clsL flyL
 obtain ⟨i,hi'⟩ : ∃ i,x.tdiv a=i:=⟨_,rfl⟩
 obtain ⟨j,hj'⟩ : ∃ i,g.tdiv a=i:=⟨_,rfl⟩
 rw[hi',hj']
 rw[hi'] at hi
 rw[hj'] at hj
 by_cases hc:i=j
 ·rw[if_pos hc,if_pos hc]
  by_cases hxg:x=g
  ·subst hxg;simp[cdF,ddF,clsF]
  ·simp[cdF,ddF,clsF,hxg,Ne.symm hxg,hi']
 ·rw[if_neg hc,if_neg hc]
  obtain ⟨d,hd⟩ : ∃ d,gapF a h i j=d:=⟨_,rfl⟩
  have hgap:=gap_in hi.1 hi.2 hj.1 hj.2 hc
  rw[hd] at hgap ⊢
  obtain ⟨e,he⟩ : ∃ e,a*h+1-2-d=e:=⟨_,rfl⟩
  rw[he]
  have hu:=por_grp (a:=a) (h:=h) (g:=i) (d:=d) ha hh hi.1 (by omega)
  have hw:=por_grp (a:=a) (h:=h) (g:=j) (d:=e) ha hh hj.1 (by omega)
  have huw:porF a h i d≠porF a h j e:=fun eq=>hc (by rw[<- hu,eq,hw])
  generalize porF a h i d=u at hu huw ⊢
  generalize porF a h j e=w at hw huw ⊢
  by_cases h1:x=u <;> by_cases h2:w=g
  ·subst h1;subst h2;simp[cdF,ddF,clsF,huw,Ne.symm huw,hi']
  ·subst h1;simp[cdF,ddF,clsF,huw,Ne.symm huw,hi',h2,Ne.symm h2,hw,Ne.symm hc]
  ·subst h2;simp[cdF,ddF,clsF,huw,Ne.symm huw,hi',h1,Ne.symm h1,hu]
  ·simp[cdF,ddF,clsF,huw,Ne.symm huw,hi',h1,Ne.symm h1,h2,Ne.symm h2,hw,hu,Ne.symm hc]
theorem routeF_len {s:Sh} (hok:s.ok) {x y:Int} (hx:0<=x/\x<s.sw) (hy:0<=y/\y<s.hm):(wz s x y).1.length<=100/\(wz s x y).2.length<=100:=by
 cases s with
 | grid g=>have:=torF_len hok hx.1 hy.1;simp only[wz];omega
 | fat k n =>
   obtain ⟨hk,hn,hp⟩:=hok
   have hW:=powpos (k:=k) (by omega) (n-1).toNat
   have:(x.tdiv (k ^ (n-1).toNat)).toNat<=4:=by
    have:x.tdiv (k ^ (n-1).toNat)<n:=by
     rw[Int.tdiv_eq_ediv_of_nonneg hx.1]
     exact Int.ediv_lt_of_lt_mul (by omega) hx.2
    omega
   have:=treF_len (y:=y) this (show (n-1).toNat<=3 by omega)
   simp only[wz,List.length_replicate];omega
 | fly a h =>
   have h1:=flyL_len a h x y
   have h2:=ddF_le (flyL a h x y) _ (Nat.le_refl _)
   rw[List.take_length] at h2
   simp only[wz,flyF,clsF,List.length_map,List.length_dropLast];omega
end Go.Af.Tryz.Ne
namespace Go.Af.Tryz.Ne
open Go Go.Proofs
attribute [local irreducible] awp qj qm qP qH

abbrev twoT (a b:Value):Value := .tuple ⟨[a,b]⟩
theorem twoT_back {ι : List (Nat × Nat)} {a b a' b' : Value} (h1:vP ι a a') (h2:vP ι b b'):vP ι (twoT a b) (twoT a' b'):=vP.tuple (.cons h1 (.cons h2 .nil))

theorem me_rt_grid (v : Value) (w : World) : (method (Tryz.prog.types.size + Made.depth) 252 v "armada/net.route").run Tryz.prog w = .ok (384, v) w := by kernel_rfl
theorem me_rt_fat (v : Value) (w : World) : (method (Tryz.prog.types.size + Made.depth) 271 v "armada/net.route").run Tryz.prog w = .ok (394, v) w := by kernel_rfl
theorem me_rt_fly (v : Value) (w : World) : (method (Tryz.prog.types.size + Made.depth) 273 v "armada/net.route").run Tryz.prog w = .ok (406, v) w := by kernel_rfl

theorem x_rt {H:List Blk} {R:Value->List Blk->Prop} {s:Sh} {b n:Nat} {x g:Int} (hs:s.ok) (ha:s.at H b n) (hx:0<=x/\x<s.sw) (hg:0<=g/\g<s.hm)
 (h : ∀ (N : List (List Int)) (v1 v2 : Value), RN H.length N v1 (wz s x g).1 → RN H.length N v2 (wz s x g).2 → R (twoT v1 v2) (H ++ N.map rw')) : xH Tryz.prog (shT s) (shU (sv b n) s) "armada/net.route" [.int .i64 x, .int .i64 g] H R := by
 have hb:=sw_bd hs
 cases s with
 | grid g' =>
   obtain ⟨e,wr,hb'⟩:=ha
   subst e
   refine⟨384,me_rt_grid,zx (F:=twoT) (H2 := [ro g']) twoT_back (qj.mono (l133 g' hs x g (by omega) (by omega)) ?_) [(b,0)] rfl (.cons (VRen.slice rfl rfl (Nat.le_refl _)) (.cons (.int _ _) (.cons (.int _ _) .nil))) ⟨⟨_,hb',BRen.seg fun i x hx=>by rw[Nat.zero_add,qQ,hx];rfl⟩,trivial⟩ h⟩
   rintro v H' ⟨rfl,rfl⟩
   show ∃ (N:List (List Int)) (v1 v2:Value),_/\_/\RN 1 N v1 (torF g' x g).1/\RN 1 N v2 (torF g' x g).2
   cases hq:(torF g' x g).2 with
   | nil=>exact⟨[(torF g' x g).1],_,_,rfl,rfl,RN.at 0 rfl (Nat.le_refl _),RN.nil _ _⟩
   | cons y q=>exact⟨[(torF g' x g).1,y::q],_,_,rfl,rfl,RN.at 0 rfl (Nat.le_refl _),RN.at 1 rfl (Nat.le_refl _)⟩
 | fat k n' =>
   obtain ⟨hk,hn,hp⟩:=hs
   refine⟨394,me_rt_fat,zx (F:=twoT) (H2 := []) twoT_back (qj.mono (l143 k n' x g hk hn hx hg) ?_) [] rfl (.cons zN (.cons (.int _ _) (.cons (.int _ _) .nil))) trivial h⟩
   rintro v H' ⟨rfl,rfl⟩
   refine⟨[treF k (n' - 1).toNat x g,List.replicate ((treF k (n' - 1).toNat x g).length-1) 0],_,_,rfl,rfl,RN.at 0 rfl (Nat.le_refl _), ?_⟩
   have:=RN.at (n:=0) (N := [treF k (n' - 1).toNat x g,List.replicate ((treF k (n' - 1).toNat x g).length-1) 0]) (xs:=List.replicate ((treF k (n' - 1).toNat x g).length-1) 0) (c:=(treF k (n' - 1).toNat x g).length-1) 1 rfl (by simp)
   rw[List.length_replicate] at this
   exact this
 | fly a c =>
   obtain ⟨ha',hc,hp⟩:=hs
   exact⟨406,me_rt_fly,zx (F:=twoT) (H2 := []) twoT_back (l155 a c x g ha' hc hx hg) [] rfl (.cons zN (.cons (.int _ _) (.cons (.int _ _) .nil))) trivial h⟩

/-! ### The reference's errors -/

def twF (o:Option Sh) (x y:Int):Int:=if isF o x=0 then isF o y else isF o x
theorem l77 (kind hosts:Int) (sides:List Int) (x y:Int):qj Tryz.prog 218 [spV kind (sv 0 sides.length) hosts, .int .i64 x, .int .i64 y] [ro sides] (fun v H=>v = .int .i64 (twF (qw kind sides hosts) x y)/\H = [ro sides]):=by
 refine qy (qc tok Tryz.call218 Tryz.func218 rfl Tryz.ntmps218 rfl (by simp) ?_)
 (repeat refine goZ ?_)
 (first | refine c63 rfl (Nat.le_refl _) ?_ | refine (c63 rfl (Nat.le_refl _) ?_).call)
 unfold twF
 generalize isF (qw kind sides hosts) x=e1
 (repeat refine goZ ?_)
 refine And.intro (fun hc=>?_) (fun hc=>?_)
 ·have hc : ¬ e1=0:=by simpa using hc
  rw[if_neg hc]
  (repeat refine goZ ?_)
  refine⟨[(0,0)],_,[ro (sides)],by simp,qg rfl,⟨⟨_,rfl,BRen.ints _ _ _⟩,trivial⟩,rfl,VRen.plain rfl,rfl,rfl⟩
 ·have hc:e1=0:=by simpa using hc
  rw[if_pos hc]
  (repeat refine goZ ?_)
  (first | refine c63 rfl (Nat.le_refl _) ?_ | refine (c63 rfl (Nat.le_refl _) ?_).call)
  generalize isF (qw kind sides hosts) y=e2
  (repeat refine goZ ?_)
  refine⟨[(0,0)],_,[ro (sides)],by simp,qg rfl,⟨⟨_,rfl,BRen.ints _ _ _⟩,trivial⟩,rfl,VRen.plain rfl,rfl,rfl⟩
theorem c77 {H:List Blk} {R:Value->List Blk->Prop} {b c:Nat} {wr:Bool} {kind hosts:Int} {sides:List Int} {x y:Int} (hb:bget H b=some (.cells wr 1 (ints sides))) (hl:sides.length<=c) (h:R (.int .i64 (twF (qw kind sides hosts) x y)) H) :
 qm Tryz.prog 218 [spV kind (.slice (some ⟨b,0,none⟩) sides.length c) hosts, .int .i64 x, .int .i64 y] H R:=wu rfl (l77 kind hosts sides x y) hb hl rfl h

theorem twF_some (s:Sh) (x y:Int):twF (some s) x y=if 0<=x/\x<s.sw then (if 0<=y/\y<s.sw then 0 else 3) else 3:=by
 show (if (if 0<=x/\x<s.sw then (0:Int) else 3)=0 then (if 0<=y/\y<s.sw then (0:Int) else 3) else (if 0<=x/\x<s.sw then (0:Int) else 3))=_
 by_cases h1:0<=x/\x<s.sw
 ·rw[if_pos h1,if_pos rfl,if_pos h1]
 ·rw[if_neg h1,if_neg (by decide),if_neg h1]
theorem goF_two {o:Option Sh} {x y:Int} (h:twF o x y≠0):goF o x y=twF o x y:=by
 cases o with
 | none=>rfl
 | some s =>
   rw[twF_some] at h ⊢
   show (if (0<=x/\x<s.sw)/\(0<=y/\y<s.sw) then (if s.hm<=y then (2:Int) else 0) else 3)=_
   by_cases h1:0<=x/\x<s.sw
   ·rw[if_pos h1] at h ⊢
    by_cases h2:0<=y/\y<s.sw
    ·exact absurd (if_pos h2) h
    ·rw[if_neg h2,if_neg (fun h=>h2 h.2)]
   ·rw[if_neg h1,if_neg (fun h=>h1 h.1)]
theorem goF_hm {o:Option Sh} {x y:Int} (h:twF o x y=0) : ∃ s,o=some s/\(0<=x/\x<s.sw)/\(0<=y/\y<s.sw):=by
 cases o with
 | none=>simp[twF,isF] at h
 | some s =>
   refine⟨s,rfl, ?_⟩
   unfold twF isF at h
   by_cases h1:0<=x/\x<s.sw <;> by_cases h2:0<=y/\y<s.sw <;> simp_all
theorem l52 (kind hosts:Int) (sides:List Int) (x y:Int):qj Tryz.prog 195 [spV kind (sv 0 sides.length) hosts, .int .i64 x, .int .i64 y] [ro sides] (fun v H=>v = .int .i64 (goF (qw kind sides hosts) x y)/\H = [ro sides]):=by
 refine qy (qc tok Tryz.call195 Tryz.func195 rfl Tryz.ntmps195 rfl (by simp) ?_)
 (repeat refine goZ ?_)
 (first | refine c77 rfl (Nat.le_refl _) ?_ | refine (c77 rfl (Nat.le_refl _) ?_).call)
 by_cases ht:twF (qw kind sides hosts) x y=0
 ·obtain ⟨s,hs,h1,h2⟩:=goF_hm ht
  have hok:=zJ hs
  have hof:=xK hs
  have hgo:goF (qw kind sides hosts) x y=if s.hm<=y then 2 else 0:=by rw[hs];simp[goF,h1,h2]
  rw[hgo,ht]
  (repeat refine ghZ ?_)
  (first | refine c59 hok hof rfl (Nat.le_refl _) ?_ | refine (c59 hok hof rfl (Nat.le_refl _) ?_).call)
  (repeat refine ghZ ?_)
  refine And.intro (fun hc=>?_) (fun hc=>?_)
  ·have hc:s.hm<=y:=by simpa using hc
   rw[if_pos hc]
   refine⟨[(0,0)],_,[ro (sides)],by simp,qg rfl,⟨⟨_,rfl,BRen.ints _ _ _⟩,trivial⟩,rfl,VRen.plain rfl,rfl,rfl⟩
  ·have hc : ¬ s.hm<=y:=by simpa using hc
   rw[if_neg hc]
   (repeat refine goZ ?_)
   refine⟨[(0,0)],_,[ro (sides)],by simp,qg rfl,⟨⟨_,rfl,BRen.ints _ _ _⟩,trivial⟩,rfl,VRen.plain rfl,rfl,rfl⟩
 ·rw[goF_two ht]
  generalize twF (qw kind sides hosts) x y=e at ht
  repeat (first | refine And.intro (fun h=>absurd (show e=0 by revert h;simp) ht) (fun _=>?_) | refine Exists.intro _ (And.intro rfl ?_))
  refine⟨[(0,0)],_,[ro (sides)],by simp,qg rfl,⟨⟨_,rfl,BRen.ints _ _ _⟩,trivial⟩,rfl,VRen.plain rfl,rfl,rfl⟩
theorem c52 {H:List Blk} {R:Value->List Blk->Prop} {b c:Nat} {wr:Bool} {kind hosts:Int} {sides:List Int} {x y:Int} (hb:bget H b=some (.cells wr 1 (ints sides))) (hl:sides.length<=c) (h:R (.int .i64 (goF (qw kind sides hosts) x y)) H) :
 qm Tryz.prog 195 [spV kind (.slice (some ⟨b,0,none⟩) sides.length c) hosts, .int .i64 x, .int .i64 y] H R:=wu rfl (l52 kind hosts sides x y) hb hl rfl h
end Go.Af.Tryz.Ne
namespace Go.Af.Tryz.Ne
open Go Go.Proofs
attribute [local irreducible] awp qj qm qP qH

abbrev thrT (a b:Value):Value := .tuple ⟨[a,b, .int .i64 0]⟩
theorem thrT_back {ι : List (Nat × Nat)} {a b a' b' : Value} (h1:vP ι a a') (h2:vP ι b b'):vP ι (thrT a b) (thrT a' b'):=vP.tuple (.cons h1 (.cons h2 (.cons (vP.int _ _) .nil)))
theorem thrT_ren {ι : List (Nat × Nat)} {a b a' b' : Value} (h1:VRen ι a a') (h2:VRen ι b b'):VRen ι (thrT a b) (thrT a' b'):=VRen.tuple (.cons h1 (.cons h2 (.cons (VRen.int _ _) .nil)))
abbrev oneT (a:Value) (_:Value):Value := .tuple ⟨[a, .int .i64 0]⟩
theorem oneT_back {ι : List (Nat × Nat)} {a b a' b' : Value} (h1:vP ι a a') (_:vP ι b b'):vP ι (oneT a b) (oneT a' b'):=vP.tuple (.cons h1 (.cons (vP.int _ _) .nil))
theorem oneT_ren {ι : List (Nat × Nat)} {a b a' b' : Value} (h1:VRen ι a a') (_:VRen ι b b'):VRen ι (oneT a b) (oneT a' b'):=VRen.tuple (.cons h1 (.cons (VRen.int _ _) .nil))

theorem l51e (kind hosts:Int) (sides:List Int) (x y:Int) (he:goF (qw kind sides hosts) x y≠0):qj Tryz.prog 193 [spV kind (sv 0 sides.length) hosts, .int .i64 x, .int .i64 y] [ro sides]
 (fun v H=>v = .tuple ⟨[.slice none 0 0, .slice none 0 0, .int .i64 (goF (qw kind sides hosts) x y)]⟩/\H = [ro sides]):=by
 refine qy (qc tok Tryz.call193 Tryz.func193 rfl Tryz.ntmps193 rfl (by simp) ?_)
 (repeat refine goZ ?_)
 (first | refine c62 (l := [x,y]) kind hosts rfl (Nat.le_refl _) rfl (Nat.le_refl _) (by simp) ?_ | refine (c62 (l := [x,y]) kind hosts rfl (Nat.le_refl _) rfl (Nat.le_refl _) (by simp) ?_).call)
 cases hs:qw kind sides hosts with
 | none =>
   rw[show goF none x y=2 from rfl]
   (repeat refine goZ ?_)
   refine⟨[(0,0)],_,[ro (sides)],by simp,qg rfl,⟨⟨_,rfl,BRen.ints _ _ _⟩,trivial⟩,rfl,VRen.plain rfl,rfl,rfl⟩
 | some s =>
   rw[hs] at he
   have hok:=zJ hs
   have hof:=xK hs
   by_cases hin:(0<=x/\x<s.sw)/\(0<=y/\y<s.sw)
   ·have e1:withR (sv 0 sides.length) (some s) [x,y] = .tuple ⟨[shV (sv 0 sides.length) s, .int .i64 0]⟩:=by simp[withR,inAll,hin]
    have e2:goF (some s) x y=if s.hm<=y then 2 else 0:=if_pos hin
    have e3:s.hm<=y:=by
     by_cases h:s.hm<=y
     ·exact h
     ·rw[e2,if_neg h] at he;exact absurd rfl he
    rw[e1,e2,if_pos e3]
    (repeat refine goZ ?_)
    (first | refine x_ho hok (at_of hof rfl) ?_ | refine (x_ho hok (at_of hof rfl) ?_).call)
    refine And.intro (fun _=>?_) (fun hc=>absurd hc (by simp[e3]))
    (repeat refine goZ ?_)
    refine⟨[(0,0)],_,[ro (sides)],by simp,qg rfl,⟨⟨_,rfl,BRen.ints _ _ _⟩,trivial⟩,rfl,VRen.plain rfl,rfl,rfl⟩
   ·have e1:withR (sv 0 sides.length) (some s) [x,y] = .tuple ⟨[.nilIface, .int .i64 3]⟩:=by
     have:inAll [x,y] s.sw=false:=by simp[inAll];omega
     simp[withR,this]
    have e2:goF (some s) x y=3:=if_neg hin
    rw[e1,e2]
    (repeat refine goZ ?_)
    refine⟨[(0,0)],_,[ro (sides)],by simp,qg rfl,⟨⟨_,rfl,BRen.ints _ _ _⟩,trivial⟩,rfl,VRen.plain rfl,rfl,rfl⟩

theorem l51 (kind hosts:Int) (sides:List Int) (x y:Int) (s:Sh) (hs:qw kind sides hosts=some s) (hx:0<=x/\x<s.sw) (hy' : 0<=y/\y<s.sw) (hy:0<=y/\y<s.hm):qj Tryz.prog 193 [spV kind (sv 0 sides.length) hosts, .int .i64 x, .int .i64 y] [ro sides]
 (fun v H => ∃ (N:List (List Int)) (v1 v2:Value),v=thrT v1 v2/\H = [ro sides]++N.map rw' /\ RN 1 N v1 (wz s x y).1/\RN 1 N v2 (wz s x y).2):=by
 have hok:=zJ hs
 have hof:=xK hs
 refine qy (qc tok Tryz.call193 Tryz.func193 rfl Tryz.ntmps193 rfl (by simp) ?_)
 (repeat refine goZ ?_)
 (first | refine c62 (l := [x,y]) kind hosts rfl (Nat.le_refl _) rfl (Nat.le_refl _) (by simp) ?_ | refine (c62 (l := [x,y]) kind hosts rfl (Nat.le_refl _) rfl (Nat.le_refl _) (by simp) ?_).call)
 have e1:withR (sv 0 sides.length) (some s) [x,y] = .tuple ⟨[shV (sv 0 sides.length) s, .int .i64 0]⟩:=by simp[withR,inAll,hx,hy']
 rw[hs,e1]
 (repeat refine goZ ?_)
 (first | refine x_ho hok (at_of hof rfl) ?_ | refine (x_ho hok (at_of hof rfl) ?_).call)
 refine And.intro (fun hc=>?_) (fun _=>?_)
 ·have hc:s.hm<=y:=by simpa using hc
  omega
 (repeat refine goZ ?_)
 (first | refine x_rt hok (at_of hof rfl) hx hy ?_ | refine (x_rt hok (at_of hof rfl) hx hy ?_).call)
 intro N v1 v2 r1 r2
 (repeat refine goZ ?_)
 exact drop_rows (X := [sides]) (E := [_,_]) (F:=thrT) thrT_ren r1 r2 (fun a' b' h1 h2=>⟨N,a',b',rfl,rfl,h1,h2⟩)
theorem c51e {H:List Blk} {R:Value->List Blk->Prop} {b c:Nat} {wr:Bool} {kind hosts:Int} {sides:List Int} {x y:Int} (he:goF (qw kind sides hosts) x y≠0) (hb:bget H b=some (.cells wr 1 (ints sides))) (hl:sides.length<=c)
 (h:R (.tuple ⟨[.slice none 0 0, .slice none 0 0, .int .i64 (goF (qw kind sides hosts) x y)]⟩) H) :
 qm Tryz.prog 193 [spV kind (.slice (some ⟨b,0,none⟩) sides.length c) hosts, .int .i64 x, .int .i64 y] H R:=wu rfl (l51e kind hosts sides x y he) hb hl rfl h
theorem lren_sp {b c:Nat} {kind hosts:Int} {sides:List Int} {xs:List Value} (hp:xs.all (wo 6)=true) (hl:sides.length<=c):LRen [(b,0)] (spV kind (sv 0 sides.length) hosts::xs) (spV kind (.slice (some ⟨b,0,none⟩) sides.length c) hosts::xs) :=
 .cons (.agg (.cons (.int _ _) (.cons (VRen.slice rfl rfl hl) (.cons (.int _ _) .nil)))) (LRen.of rfl fun i x2 x h1 h2=>by
   rw[h1] at h2;cases h2
   exact VRen.plain (List.all_eq_true.1 hp _ (List.mem_of_getElem? h1)))
theorem blks_sp {H:List Blk} {b:Nat} {wr:Bool} {sides:List Int} (hb:bget H b=some (.cells wr 1 (ints sides))):ww [(b,0)] H [(b,0)] [ro sides] :=
 ⟨⟨_,hb,BRen.seg fun i x hx=>by rw[Nat.zero_add,qQ,hx];rfl⟩,trivial⟩
theorem c51 {H:List Blk} {R:Value->List Blk->Prop} {b c:Nat} {wr:Bool} {kind hosts:Int} {sides:List Int} {x y:Int} {s:Sh} (hs:qw kind sides hosts=some s) (hx:0<=x/\x<s.sw) (hy' : 0<=y/\y<s.sw) (hy:0<=y/\y<s.hm)
 (hb:bget H b=some (.cells wr 1 (ints sides))) (hl:sides.length<=c)
 (h : ∀ (N:List (List Int)) (v1 v2:Value),RN H.length N v1 (wz s x y).1->RN H.length N v2 (wz s x y).2->R (thrT v1 v2) (H++N.map rw')) :
 qm Tryz.prog 193 [spV kind (.slice (some ⟨b,0,none⟩) sides.length c) hosts, .int .i64 x, .int .i64 y] H R :=
 zx (F:=thrT) (H2 := [ro sides]) thrT_back (l51 kind hosts sides x y s hs hx hy' hy) [(b,0)] rfl (lren_sp rfl hl) (blks_sp hb) h

structure RtOk (kind hosts:Int) (sides:List Int) (s:Sh) (x y:Int):Prop where
 hs:qw kind sides hosts=some s
 hx:0<=x/\x<s.sw
 hy' : 0<=y/\y<s.sw
 hy:0<=y/\y<s.hm
def RowOf (f:FuncId) (kind hosts:Int) (sides:List Int) (x y:Int) (p:Sh->List Int):Prop :=
 (goF (qw kind sides hosts) x y≠0->qj Tryz.prog f [spV kind (sv 0 sides.length) hosts, .int .i64 x, .int .i64 y] [ro sides] (fun v H=>v = .tuple ⟨[.slice none 0 0, .int .i64 (goF (qw kind sides hosts) x y)]⟩/\H = [ro sides])) /\
 ∀ s,RtOk kind hosts sides s x y->qj Tryz.prog f [spV kind (sv 0 sides.length) hosts, .int .i64 x, .int .i64 y] [ro sides] (fun v H => ∃ (N:List (List Int)) (v1 v2:Value),v=oneT v1 v2/\H = [ro sides]++N.map rw' /\ RN 1 N v1 (p s)/\RN 1 N v2 [])
theorem RowOf.ok {f:FuncId} {kind hosts:Int} {sides:List Int} {x y:Int} {p:Sh->List Int} (hr:RowOf f kind hosts sides x y p) {H:List Blk} {R:Value->List Blk->Prop} {b c:Nat} {wr:Bool} {s:Sh} (hs:RtOk kind hosts sides s x y) (hb:bget H b=some (.cells wr 1 (ints sides))) (hl:sides.length<=c)
 (h : ∀ (N:List (List Int)) (v1:Value),RN H.length N v1 (p s)->R (.tuple ⟨[v1, .int .i64 0]⟩) (H++N.map rw')):qm Tryz.prog f [spV kind (.slice (some ⟨b,0,none⟩) sides.length c) hosts, .int .i64 x, .int .i64 y] H R :=
 zx (F:=oneT) (H2 := [ro sides]) oneT_back (hr.2 s hs) [(b,0)] rfl (lren_sp rfl hl) (blks_sp hb) (fun N v1 _ h1 _=>h N v1 h1)

theorem l13 (kind hosts:Int) (sides:List Int) (x y:Int):RowOf 99 kind hosts sides x y (fun s=>(wz s x y).1):=by
 refine⟨fun he=>?_,fun s hr=>?_⟩
 ·refine qy (qc tok Tryz.call99 Tryz.func99 rfl Tryz.ntmps99 rfl (by simp) ?_)
  (repeat refine goZ ?_)
  (first | refine c51e he rfl (Nat.le_refl _) ?_ | refine (c51e he rfl (Nat.le_refl _) ?_).call)
  (repeat refine goZ ?_)
  refine⟨[(0,0)],_,[ro (sides)],by simp,qg rfl,⟨⟨_,rfl,BRen.ints _ _ _⟩,trivial⟩,rfl,VRen.plain rfl,rfl,rfl⟩
 ·refine qy (qc tok Tryz.call99 Tryz.func99 rfl Tryz.ntmps99 rfl (by simp) ?_)
  (repeat refine goZ ?_)
  (first | refine c51 hr.hs hr.hx hr.hy' hr.hy rfl (Nat.le_refl _) ?_ | refine (c51 hr.hs hr.hx hr.hy' hr.hy rfl (Nat.le_refl _) ?_).call)
  intro N v1 v2 r1 r2
  (repeat refine goZ ?_)
  exact drop_rows (X := [sides]) (E := [_]) (F:=oneT) oneT_ren r1 (RN.nil _ _) (fun a' b' h1 h2=>⟨N,a',b',rfl,rfl,h1,h2⟩)
end Go.Af.Tryz.Ne
namespace Go.Af.Tryz.Ne
open Go Go.Proofs
attribute [local irreducible] awp qj qm qP qH

theorem c53 {H:List Blk} {R:Value->List Blk->Prop} {b c:Nat} {wr:Bool} {kind hosts:Int} {g:List Int} {x y:Int} (hok:(Sh.grid g).ok) (hx:0<=x/\x<=65536) (hy:0<=y/\y<=65536) (hb:bget H b=some (.cells wr 1 (ints g))) (hl:g.length<=c)
 (h : ∀ (N:List (List Int)) (v1 v2:Value),RN H.length N v1 (torF g x y).1->RN H.length N v2 (torF g x y).2->R (twoT v1 v2) (H++N.map rw')) :
 qm Tryz.prog 196 [spV kind (.slice (some ⟨b,0,none⟩) g.length c) hosts, .int .i64 x, .int .i64 y] H R :=
 zx (F:=twoT) (H2 := [ro g]) twoT_back ((l53 kind hosts g hok x y hx hy).mono (by
  rintro v H' ⟨rfl,rfl⟩
  show ∃ (N:List (List Int)) (v1 v2:Value),_/\_/\RN 1 N v1 (torF g x y).1/\RN 1 N v2 (torF g x y).2
  cases hq:(torF g x y).2 with
  | nil=>exact⟨[(torF g x y).1],_,_,rfl,rfl,RN.at 0 rfl (Nat.le_refl _),RN.nil _ _⟩
  | cons z q=>exact⟨[(torF g x y).1,z::q],_,_,rfl,rfl,RN.at 0 rfl (Nat.le_refl _),RN.at 1 rfl (Nat.le_refl _)⟩)) [(b,0)] rfl (lren_sp rfl hl) (blks_sp hb) h
theorem c54 {H:List Blk} {R:Value->List Blk->Prop} {b:Nat} {wr:Bool} {kind hosts k n x y:Int} (hk:2<=k/\k<=8) (hn:1<=n/\n<=4) (hx:0<=x/\x<n*k ^ (n-1).toNat) (hy:0<=y/\y<k ^ (n-1).toNat) (hb:bget H b=some (.cells wr 1 (ints [k,n])))
 (h:wV H 0 (rw' (treF k (n-1).toNat x y)) (fun i H' => R (sv i (treF k (n-1).toNat x y).length) H')):qm Tryz.prog 197 [spV kind (sv b 2) hosts, .int .i64 x, .int .i64 y] H R :=
 acallx_spr (sides := [k,n]) rfl (l54 kind hosts k n x y hk hn hx hy) hb (Nat.le_refl _) h
theorem c55 {H:List Blk} {R:Value->List Blk->Prop} {b:Nat} {wr:Bool} {kind hosts a h x g:Int} (ha:1<=a/\a<=16) (hh:1<=h/\h<=4) (hx:0<=x/\x<a*(a*h+1)) (hg:0<=g/\g<a*(a*h+1)) (hb:bget H b=some (.cells wr 1 (ints [a,h])))
 (hR : ∀ (N:List (List Int)) (v1 v2:Value),RN H.length N v1 (flyF a h x g).1->RN H.length N v2 (flyF a h x g).2->R (twoT v1 v2) (H++N.map rw')) :
 qm Tryz.prog 198 [spV kind (sv b 2) hosts, .int .i64 x, .int .i64 g] H R :=
 zx (F:=twoT) (H2 := [ro [a,h]]) twoT_back (by
  have:=l55 kind hosts a h x g ha hh hx hg
  rw[fly_cls ha.1 hh.1 hx hg] at this
  exact this) [(b,0)] rfl (lren_sp (sides := [a,h]) rfl (Nat.le_refl _)) (blks_sp hb) hR


theorem l14 (kind hosts:Int) (sides:List Int) (x y:Int):RowOf 106 kind hosts sides x y (fun s=>(wz s x y).1):=by
 refine⟨fun he=>?_,fun s hr=>?_⟩
 ·skip
  refine qy (qc tok Tryz.call106 Tryz.func106 rfl Tryz.ntmps106 rfl (by simp) ?_)
  (repeat refine goZ ?_)
  (first | refine c52 rfl (Nat.le_refl _) ?_ | refine (c52 rfl (Nat.le_refl _) ?_).call)
  generalize goF (qw kind sides hosts) x y=e at he
  repeat (first | refine And.intro (fun _=>?_) (fun h=>absurd (show e=0 by revert h;simp) he) | refine Exists.intro _ (And.intro rfl ?_))
  refine⟨[(0,0)],_,[ro (sides)],by simp,qg rfl,⟨⟨_,rfl,BRen.ints _ _ _⟩,trivial⟩,rfl,VRen.plain rfl,rfl,rfl⟩
 ·obtain ⟨hs,hx,hy',hy⟩:=hr
  have hok:=zJ hs
  have hof:=xK hs
  have hbd:=sw_bd hok
  have e1:goF (qw kind sides hosts) x y=0:=by
   rw[hs];show (if (0<=x/\x<s.sw)/\(0<=y/\y<s.sw) then (if s.hm<=y then (2:Int) else 0) else 3)=0
   rw[if_pos ⟨hx,hy'⟩,if_neg (by omega)]
  refine qy (qc tok Tryz.call106 Tryz.func106 rfl Tryz.ntmps106 rfl (by simp) ?_)
  (repeat refine goZ ?_)
  (first | refine c52 rfl (Nat.le_refl _) ?_ | refine (c52 rfl (Nat.le_refl _) ?_).call)
  rw[e1]
  cases s with
  | grid g =>
    obtain ⟨rfl,rfl⟩:=hof
    (repeat refine goZ ?_)
    (first | refine c53 hok (by omega) (by omega) rfl (Nat.le_refl _) ?_ | refine (c53 hok (by omega) (by omega) rfl (Nat.le_refl _) ?_).call)
    intro N v1 v2 r1 r2
    (repeat refine goZ ?_)
    exact drop_rows (X := [g]) (E := [_]) (F:=oneT) oneT_ren r1 (RN.nil _ _) (fun a' b' h1 h2=>⟨N,a',b',rfl,rfl,h1,h2⟩)
  | fat k n =>
    obtain ⟨rfl,rfl⟩:=hof
    obtain ⟨hk,hn,_⟩:=hok
    (repeat refine goZ ?_)
    (first | refine c54 hk hn hx hy rfl ?_ | refine (c54 hk hn hx hy rfl ?_).call)
    (repeat refine goZ ?_)
    exact drop_rows (X := [[k,n]]) (E := [_]) (N := [treF k (n-1).toNat x y]) (F:=oneT) (b := .slice none 0 0) oneT_ren (RN.at 0 rfl (Nat.le_refl _)) (RN.nil _ _) (fun a' b' h1 h2=>⟨_,a',b',rfl,rfl,h1,h2⟩)
  | fly a c =>
    obtain ⟨rfl,rfl⟩:=hof
    obtain ⟨ha,hc,_⟩:=hok
    (repeat refine goZ ?_)
    (first | refine c55 ha hc hx hy' rfl ?_ | refine (c55 ha hc hx hy' rfl ?_).call)
    intro N v1 v2 r1 r2
    (repeat refine goZ ?_)
    exact drop_rows (X := [[a,c]]) (E := [_]) (F:=oneT) oneT_ren r1 (RN.nil _ _) (fun a' b' h1 h2=>⟨N,a',b',rfl,rfl,h1,h2⟩)

end Go.Af.Tryz.Ne
