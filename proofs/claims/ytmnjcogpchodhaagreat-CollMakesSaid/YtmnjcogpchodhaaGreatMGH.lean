/- A part of the proof. -/
import Derived.Test.YtmnjcogpchodhaaGreatMGG
import Derived.Test.YtmnjcogpchodhaaGreatMGC
import Derived.Test.YtmnjcogpchodhaaGreatMCA
import Derived.Test.YtmnjcogpchodhaaGreatMGS
set_option linter.all false
set_option maxHeartbeats 4000000
set_option maxRecDepth 100000
namespace Go.Af.Tryz
open Go Go.Proofs Tryz
attribute [local irreducible] awp qj qI qK qE qm isCells ql qi qB qx qh roundEnd zG wZ keyK wE
variable {H:List Blk}
variable {R:Value->List Blk->Prop}

def entG (S:List (Int × Value)):List MapEntry:=S.mapIdx fun i p=>⟨.int .i64 p.1,p.2,i⟩
abbrev mpG (S:List (Int × Value)):Blk := .map true (entG S) S.length
theorem XH {S:List (Int × Value)} {j:Nat} {e:MapEntry} (h:(entG S)[j]? = some e) : ∃ p,S[j]? = some p/\e=⟨.int .i64 p.1,p.2,j⟩:=by
 unfold entG at h;rw[List.getElem?_mapIdx] at h
 cases hw:S[j]? with
 | none=>rw[hw] at h;cases h
 | some p=>rw[hw] at h;cases h;exact⟨p,rfl,rfl⟩
theorem wk0 {S:List (Int × Value)} {a:Int} {K:Option Nat->Prop} (h1 : ∀ j v,S[j]? = some (a,v)->(∀ j' p,j' < j->S[j']? = some p->p.1≠a)->K (some j)) (h0:(∀ p∈S,p.1≠a)->K none):wE prog T H 3 (.int .i64 a) (entG S) 0 K:=by
 refine ZQ (fun e=>match e.key with | .int .i64 c=>decide (a=c) | _=>false) _ _ (fun e he K' hk=>?_) (fun j e hj ht hb=>?_) (fun hn=>h0 (fun p hp he=>?_))
 ·obtain ⟨j,hj⟩:=List.getElem?_of_mem he
  obtain ⟨p,_,rfl⟩:=XH hj;exact keq3 hk
 ·obtain ⟨p,hp,rfl⟩:=XH hj
  simp only[decide_eq_true_eq] at ht;rw[Nat.zero_add];refine h1 j p.2 (by rw[hp,ht]) (fun j' q hj' hq he=>?_);have:=hb j' ⟨.int .i64 q.1,q.2,j'⟩ hj' (by unfold entG;rw[List.getElem?_mapIdx,hq];rfl);simp[he] at this
 ·obtain ⟨j,hj⟩:=List.getElem?_of_mem hp
  have:=hn ⟨.int .i64 p.1,p.2,j⟩ (List.mem_of_getElem? (i:=j) (by unfold entG;rw[List.getElem?_mapIdx,hj];rfl));simp[he] at this
theorem uO0 {m n j:Nat} {wr:Bool} {S:List (Int × Value)} {a:Int} {v z:Value} {K:Value->Prop} (hm:bget H m=some (.map wr (entG S) n)) (hj:S[j]? = some (a,v)) (hb:(S.take j).all (fun p => !(decide (p.1=a)))=true) (h:K v) :
 zG H m (fun es=>keyK prog T 3 (.int .i64 a) (wE prog T H 3 (.int .i64 a) es 0 (fun r=>lkK false z es r K))):=by
 refine Xr hm (keyK3 (wk0 (fun j' v' hj' hb' => ?_) (fun hn=>absurd rfl (hn _ (List.mem_of_getElem? hj)))))
 have e:j' = j:=by
  rcases Nat.lt_trichotomy j' j with hlt | he | hlt
  ·have:=List.all_eq_true.1 hb (a,v') (List.mem_of_getElem? (i:=j') (by rw[List.getElem?_take,if_pos hlt];exact hj'))
   simp at this
  ·exact he
  ·exact absurd rfl (hb' j _ hlt hj)
 subst e;refine⟨⟨.int .i64 a,v,j'⟩,by unfold entG;rw[List.getElem?_mapIdx,hj];rfl,h⟩
theorem wM0 (S:List (Int × Value)) (a:Int) (v:Value):entG S ++ [⟨.int .i64 a,v,S.length⟩]=entG (S ++ [(a,v)]):=by unfold entG;rw[List.mapIdx_append];simp
section
variable {H0 H:List Blk} {o:Nat->Prop} {L:List (Bool × Nat × Blk)}
theorem vG (hs:HS H0 o L H) (i:Nat) {m:Nat} {S:List (Int × Value)} {a:Int} {v:Value} {K:List Blk->Prop} (hi:L[i]? = some (true,m,mpG S)) (hn:S.all (fun p => !(decide (p.1=a)))=true) (k : ∀ H',HS H0 o (L.set i (true,m,mpG (S ++ [(a,v)]))) H' -> K H') :
 wZ H m (fun es clock=>keyK prog T 3 (.int .i64 a) (wE prog T H 3 (.int .i64 a) es 0 (fun r=>match r with
  | some p=>zt H m (.map true (es.modify p (fun e=>{ e with key := .int .i64 a,val:=v })) clock) K
  | none=>zt H m (.map true (es ++ [⟨.int .i64 a,v,clock⟩]) (clock+1)) K))):=by
 refine Qa (hs.get i hi) (keyK3 (wk0 (fun j v' hj _=>?_) (fun _=>?_)))
 ·have:=List.all_eq_true.1 hn _ (List.mem_of_getElem? hj)
  simp at this
 ·refine VO (hs.lt i hi) (fun H' h1 h2 h3=>k H' ?_)
  rw[wM0] at h2;refine hs.set i hi h1 ?_ h3;rw[h2];simp
end
abbrev fnC (f:Nat):Value := .func (.func f) #[] #[]
abbrev eaV (k:Nat):Value := .func (.func 198) #[] #[.pointer (some ⟨k,0,none⟩)]
theorem c109 {f:Nat} (h : ∀ H' k,HS H none' [(true,k, .cells true 1 [fnC f])] H' -> R (eaV k) H'):qj prog 109 [fnC f] H R:=by
 refine avN call109 func109 ntmps109 ?_;refine qo (HS.start H none') (fun H1 b1 e1 l1 hs=>?_);exact h H1 b1 hs
abbrev tabF (m1 m2 m3 m4 m5 m6 m7 m8 m9 m10 m11:Nat):List (Int × Value) := [(1, .map (some m1)),(2, .map (some m2)),(3, .map (some m3)),(4, .map (some m4)),(5, .map (some m5)),(6, .map (some m6)),(7, .map (some m7)),(8, .map (some m8)),(9, .map (some m9)),(10, .map (some m10)),(11, .map (some m11))]
theorem c59 (h : ∀ H' m m1 m2 m3 m4 m5 m6 m7 m8 m9 m10 m11 k110 k114 k119 k121 k123 k125 k131 k132,HS H none' [(true,m,mpG (tabF m1 m2 m3 m4 m5 m6 m7 m8 m9 m10 m11)),(true,m1,mpG [(1,eaV k110),(2,fnC 111),(3,fnC 112),(4,fnC 113)]),(true,m2,mpG [(1,eaV k114),(2,fnC 115),(3,fnC 112)]),(true,m3,mpG [(5,fnC 116),(6,fnC 117),(7,fnC 118)]),(true,m4,mpG [(1,eaV k119),(6,fnC 120)]),(true,m5,mpG [(1,eaV k121),(2,fnC 122)]),(true,m6,mpG [(1,eaV k123),(2,fnC 124)]),(true,m7,mpG [(7,eaV k125),(6,fnC 126),(8,fnC 127)]),(true,m8,mpG [(9,fnC 128),(10,fnC 129),(8,fnC 130)]),(true,m9,mpG [(7,eaV k131),(9,eaV k132),(11,fnC 133)]),(true,m10,mpG [(7,fnC 134),(5,fnC 116)]),(true,m11,mpG [(7,fnC 135)]),(true,k110, .cells true 1 [fnC 110]),(true,k114, .cells true 1 [fnC 114]),(true,k119, .cells true 1 [fnC 119]),(true,k121, .cells true 1 [fnC 121]),(true,k123, .cells true 1 [fnC 123]),(true,k125, .cells true 1 [fnC 125]),(true,k131, .cells true 1 [fnC 131]),(true,k132, .cells true 1 [fnC 132])] H' -> R (.map (some m)) H'):qj prog 59 [] H R:=by
 refine avN call59 func59 ntmps59 ?_;have hs:=HS.start H none';refine qg (fun _ hKs=>hKs _ _ ?_);clear hKs;refine UK (fun K0 hK0=>?_);refine qo hs (fun H1 m e1 l1 hs=>?_);refine qo hs (fun H2 m1 e2 l2 hs=>?_);refine c109 (fun H3 k110 hn=>?_);have hs:=hs.call hn rfl;clear hn;refine vG hs 1 (S := []) (a:=1) (v:=eaV k110) rfl rfl (fun H4 hs=>?_);refine vG hs 1 (S := [(1,eaV k110)]) (a:=2) (v:=fnC 111) rfl rfl (fun H5 hs=>?_);refine vG hs 1 (S := [(1,eaV k110),(2,fnC 111)]) (a:=3) (v:=fnC 112) rfl rfl (fun H6 hs=>?_);refine vG hs 1 (S := [(1,eaV k110),(2,fnC 111),(3,fnC 112)]) (a:=4) (v:=fnC 113) rfl rfl (fun H7 hs=>?_);refine vG hs 2 (S := []) (a:=1) (v := .map (some m1)) rfl rfl (fun H8 hs=>?_);refine qo hs (fun H9 m2 e9 l9 hs=>?_);refine c109 (fun H10 k114 hn=>?_);have hs:=hs.call hn rfl;clear hn;refine vG hs 1 (S := []) (a:=1) (v:=eaV k114) rfl rfl (fun H11 hs=>?_);refine vG hs 1 (S := [(1,eaV k114)]) (a:=2) (v:=fnC 115) rfl rfl (fun H12 hs=>?_);refine vG hs 1 (S := [(1,eaV k114),(2,fnC 115)]) (a:=3) (v:=fnC 112) rfl rfl (fun H13 hs=>?_);refine vG hs 4 (S := [(1, .map (some m1))]) (a:=2) (v := .map (some m2)) rfl rfl (fun H14 hs=>?_);refine qo hs (fun H15 m3 e15 l15 hs=>?_);refine vG hs 0 (S := []) (a:=5) (v:=fnC 116) rfl rfl (fun H16 hs=>?_);refine vG hs 0 (S := [(5,fnC 116)]) (a:=6) (v:=fnC 117) rfl rfl (fun H17 hs=>?_);refine vG hs 0 (S := [(5,fnC 116),(6,fnC 117)]) (a:=7) (v:=fnC 118) rfl rfl (fun H18 hs=>?_);refine vG hs 5 (S := [(1, .map (some m1)),(2, .map (some m2))]) (a:=3) (v := .map (some m3)) rfl rfl (fun H19 hs=>?_);refine qo hs (fun H20 m4 e20 l20 hs=>?_);refine c109 (fun H21 k119 hn=>?_);have hs:=hs.call hn rfl;clear hn;refine vG hs 1 (S := []) (a:=1) (v:=eaV k119) rfl rfl (fun H22 hs=>?_);refine vG hs 1 (S := [(1,eaV k119)]) (a:=6) (v:=fnC 120) rfl rfl (fun H23 hs=>?_);refine vG hs 7 (S := [(1, .map (some m1)),(2, .map (some m2)),(3, .map (some m3))]) (a:=4) (v := .map (some m4)) rfl rfl (fun H24 hs=>?_);refine qo hs (fun H25 m5 e25 l25 hs=>?_);refine c109 (fun H26 k121 hn=>?_);have hs:=hs.call hn rfl;clear hn;refine vG hs 1 (S := []) (a:=1) (v:=eaV k121) rfl rfl (fun H27 hs=>?_);refine vG hs 1 (S := [(1,eaV k121)]) (a:=2) (v:=fnC 122) rfl rfl (fun H28 hs=>?_);refine vG hs 9 (S := [(1, .map (some m1)),(2, .map (some m2)),(3, .map (some m3)),(4, .map (some m4))]) (a:=5) (v := .map (some m5)) rfl rfl (fun H29 hs=>?_);refine qo hs (fun H30 m6 e30 l30 hs=>?_);refine c109 (fun H31 k123 hn=>?_);have hs:=hs.call hn rfl;clear hn;refine vG hs 1 (S := []) (a:=1) (v:=eaV k123) rfl rfl (fun H32 hs=>?_);refine vG hs 1 (S := [(1,eaV k123)]) (a:=2) (v:=fnC 124) rfl rfl (fun H33 hs=>?_);refine vG hs 11 (S := [(1, .map (some m1)),(2, .map (some m2)),(3, .map (some m3)),(4, .map (some m4)),(5, .map (some m5))]) (a:=6) (v := .map (some m6)) rfl rfl (fun H34 hs=>?_);refine qo hs (fun H35 m7 e35 l35 hs=>?_);refine c109 (fun H36 k125 hn=>?_);have hs:=hs.call hn rfl;clear hn;refine vG hs 1 (S := []) (a:=7) (v:=eaV k125) rfl rfl (fun H37 hs=>?_);refine vG hs 1 (S := [(7,eaV k125)]) (a:=6) (v:=fnC 126) rfl rfl (fun H38 hs=>?_);refine vG hs 1 (S := [(7,eaV k125),(6,fnC 126)]) (a:=8) (v:=fnC 127) rfl rfl (fun H39 hs=>?_);refine vG hs 13 (S := [(1, .map (some m1)),(2, .map (some m2)),(3, .map (some m3)),(4, .map (some m4)),(5, .map (some m5)),(6, .map (some m6))]) (a:=7) (v := .map (some m7)) rfl rfl (fun H40 hs=>?_);refine qo hs (fun H41 m8 e41 l41 hs=>?_);refine vG hs 0 (S := []) (a:=9) (v:=fnC 128) rfl rfl (fun H42 hs=>?_);refine vG hs 0 (S := [(9,fnC 128)]) (a:=10) (v:=fnC 129) rfl rfl (fun H43 hs=>?_);refine vG hs 0 (S := [(9,fnC 128),(10,fnC 129)]) (a:=8) (v:=fnC 130) rfl rfl (fun H44 hs=>?_);refine vG hs 14 (S := [(1, .map (some m1)),(2, .map (some m2)),(3, .map (some m3)),(4, .map (some m4)),(5, .map (some m5)),(6, .map (some m6)),(7, .map (some m7))]) (a:=8) (v := .map (some m8)) rfl rfl (fun H45 hs=>?_);refine qo hs (fun H46 m9 e46 l46 hs=>?_);refine c109 (fun H47 k131 hn=>?_);have hs:=hs.call hn rfl;clear hn;refine vG hs 1 (S := []) (a:=7) (v:=eaV k131) rfl rfl (fun H48 hs=>?_);refine c109 (fun H49 k132 hn=>?_);have hs:=hs.call hn rfl;clear hn;refine vG hs 2 (S := [(7,eaV k131)]) (a:=9) (v:=eaV k132) rfl rfl (fun H50 hs=>?_);refine vG hs 2 (S := [(7,eaV k131),(9,eaV k132)]) (a:=11) (v:=fnC 133) rfl rfl (fun H51 hs=>?_);refine vG hs 17 (S := [(1, .map (some m1)),(2, .map (some m2)),(3, .map (some m3)),(4, .map (some m4)),(5, .map (some m5)),(6, .map (some m6)),(7, .map (some m7)),(8, .map (some m8))]) (a:=9) (v := .map (some m9)) rfl rfl (fun H52 hs=>?_);refine qo hs (fun H53 m10 e53 l53 hs=>?_);refine vG hs 0 (S := []) (a:=7) (v:=fnC 134) rfl rfl (fun H54 hs=>?_);refine vG hs 0 (S := [(7,fnC 134)]) (a:=5) (v:=fnC 116) rfl rfl (fun H55 hs=>?_);refine vG hs 18 (S := [(1, .map (some m1)),(2, .map (some m2)),(3, .map (some m3)),(4, .map (some m4)),(5, .map (some m5)),(6, .map (some m6)),(7, .map (some m7)),(8, .map (some m8)),(9, .map (some m9))]) (a:=10) (v := .map (some m10)) rfl rfl (fun H56 hs=>?_);refine qo hs (fun H57 m11 e57 l57 hs=>?_);refine vG hs 0 (S := []) (a:=7) (v:=fnC 135) rfl rfl (fun H58 hs=>?_);refine vG hs 19 (S := [(1, .map (some m1)),(2, .map (some m2)),(3, .map (some m3)),(4, .map (some m4)),(5, .map (some m5)),(6, .map (some m6)),(7, .map (some m7)),(8, .map (some m8)),(9, .map (some m9)),(10, .map (some m10))]) (a:=11) (v := .map (some m11)) rfl rfl (fun H59 hs=>?_);refine hK0 _ _ ?_
 repeat' first|refine zPw ?_|intro _ _ hs|intro K0 hK0
 exact h _ m m1 m2 m3 m4 m5 m6 m7 m8 m9 m10 m11 k110 k114 k119 k121 k123 k125 k131 k132 (pkH hs [19,18,16,14,13,11,9,7,5,4,1,0,17,15,12,10,8,6,3,2])
def algK (op:Int):List Int :=
 if op=1 then [1,2,3,4] else if op=2 then [1,2,3] else if op=3 then [5,6,7] else if op=4 then [1,6] else if op=5 then [1,2] else if op=6 then [1,2]
 else if op=7 then [7,6,8] else if op=8 then [9,10,8] else if op=9 then [7,9,11] else if op=10 then [7,5] else [7]
theorem c59a {op:Int} (hop:1<=op/\op<=11) (h : ∀ H' m mb j M S,HS H none' [(true,m,mpG M),(true,mb,mpG S)] H' -> M[j]? = some (op, .map (some mb))->(M.take j).all (fun p => !(decide (p.1=op)))=true->S.map Prod.fst=algK op->R (.map (some m)) H'):qj prog 59 [] H R:=by
 have:op=1\/op=2\/op=3\/op=4\/op=5\/op=6\/op=7\/op=8\/op=9\/op=10\/op=11:=by omega
 rcases this with rfl | rfl | rfl | rfl | rfl | rfl | rfl | rfl | rfl | rfl | rfl
 ·exact c59 (fun H2 m m1 m2 m3 m4 m5 m6 m7 m8 m9 m10 m11 k110 k114 k119 k121 k123 k125 k131 k132 hn=>h H2 m m1 0 _ _ (pkH hn [0,1]) rfl rfl rfl)
 ·exact c59 (fun H2 m m1 m2 m3 m4 m5 m6 m7 m8 m9 m10 m11 k110 k114 k119 k121 k123 k125 k131 k132 hn=>h H2 m m2 1 _ _ (pkH hn [0,2]) rfl rfl rfl)
 ·exact c59 (fun H2 m m1 m2 m3 m4 m5 m6 m7 m8 m9 m10 m11 k110 k114 k119 k121 k123 k125 k131 k132 hn=>h H2 m m3 2 _ _ (pkH hn [0,3]) rfl rfl rfl)
 ·exact c59 (fun H2 m m1 m2 m3 m4 m5 m6 m7 m8 m9 m10 m11 k110 k114 k119 k121 k123 k125 k131 k132 hn=>h H2 m m4 3 _ _ (pkH hn [0,4]) rfl rfl rfl)
 ·exact c59 (fun H2 m m1 m2 m3 m4 m5 m6 m7 m8 m9 m10 m11 k110 k114 k119 k121 k123 k125 k131 k132 hn=>h H2 m m5 4 _ _ (pkH hn [0,5]) rfl rfl rfl)
 ·exact c59 (fun H2 m m1 m2 m3 m4 m5 m6 m7 m8 m9 m10 m11 k110 k114 k119 k121 k123 k125 k131 k132 hn=>h H2 m m6 5 _ _ (pkH hn [0,6]) rfl rfl rfl)
 ·exact c59 (fun H2 m m1 m2 m3 m4 m5 m6 m7 m8 m9 m10 m11 k110 k114 k119 k121 k123 k125 k131 k132 hn=>h H2 m m7 6 _ _ (pkH hn [0,7]) rfl rfl rfl)
 ·exact c59 (fun H2 m m1 m2 m3 m4 m5 m6 m7 m8 m9 m10 m11 k110 k114 k119 k121 k123 k125 k131 k132 hn=>h H2 m m8 7 _ _ (pkH hn [0,8]) rfl rfl rfl)
 ·exact c59 (fun H2 m m1 m2 m3 m4 m5 m6 m7 m8 m9 m10 m11 k110 k114 k119 k121 k123 k125 k131 k132 hn=>h H2 m m9 8 _ _ (pkH hn [0,9]) rfl rfl rfl)
 ·exact c59 (fun H2 m m1 m2 m3 m4 m5 m6 m7 m8 m9 m10 m11 k110 k114 k119 k121 k123 k125 k131 k132 hn=>h H2 m m10 9 _ _ (pkH hn [0,10]) rfl rfl rfl)
 ·exact c59 (fun H2 m m1 m2 m3 m4 m5 m6 m7 m8 m9 m10 m11 k110 k114 k119 k121 k123 k125 k131 k132 hn=>h H2 m m11 10 _ _ (pkH hn [0,11]) rfl rfl rfl)
end Go.Af.Tryz
namespace Go.Af.Tryz
open Go Go.Proofs
theorem Xw : ∀ {l m:List Nat},l.Nodup->(∀ x∈l,x∈m)->l.length<=m.length
 | [],_,_,_=>Nat.zero_le _
 | a::l,m,hn,hs=>by
   have ha:=hs a List.mem_cons_self;have hc:=List.nodup_cons.1 hn;have:=Xw (l:=l) (m:=m.erase a) hc.2 (fun x hx=>(List.mem_erase_of_ne (fun (e:x=a)=>hc.1 (by rw[<- e];exact hx))).2 (hs x (List.mem_cons_of_mem _ hx)));have h1:=List.length_erase_of_mem ha;have h2:=List.length_pos_of_mem ha;simp only[List.length_cons];omega
theorem ZO : ∀ {l m:List Nat},l.Nodup->m.Nodup->(∀ x,x∈l↔x∈m)->l.Perm m
 | [],m,_,_,h=>by
   cases m with
   | nil=>exact .nil
   | cons b m=>exact absurd ((h b).2 List.mem_cons_self) (by simp)
 | a::l,m,hn,hm,h=>by
   have ha:=(h a).1 List.mem_cons_self;have hc:=List.nodup_cons.1 hn;refine (List.Perm.cons a (ZO (l:=l) (m:=m.erase a) hc.2 (hm.erase a) (fun x=>?_))).trans (List.perm_cons_erase ha).symm;rw[hm.mem_erase_iff];constructor
   ·exact fun hx=>⟨fun (e:x=a)=>hc.1 (by rw[<- e];exact hx),(h x).1 (List.mem_cons_of_mem _ hx)⟩
   ·rintro ⟨h1,h2⟩
    rcases List.mem_cons.1 ((h x).2 h2) with h3 | h3
    ·exact absurd h3 h1
    ·exact h3
end Go.Af.Tryz
namespace Go.Af.Tryz
open Go Go.Proofs

def okA (op:Int) (q:Bool) (a:Int):Bool:=if a=10 then q else if a=11 then q else if a=6 then if op=7 then q else true else true
def algF (op:Int):Bool->List Int
 | true=>if op=1 then [1,2,3,4] else if op=2 then [1,2,3] else if op=3 then [5,6,7] else if op=4 then [1,6] else if op=5\/op=6 then [1,2]
   else if op=7 then [6,7,8] else if op=8 then [8,9,10] else if op=9 then [7,9,11] else if op=10 then [5,7] else [7]
 | false=>if op=1 then [1,2,3,4] else if op=2 then [1,2,3] else if op=3 then [5,6,7] else if op=4 then [1,6] else if op=5\/op=6 then [1,2]
   else if op=7 then [7,8] else if op=8 then [8,9] else if op=9 then [7,9] else if op=10 then [5,7] else [7]
def powB (p:Int):Bool:=decide (IntKind.i64.wrap ((BitVec.ofInt IntKind.i64.bits p &&& BitVec.ofInt IntKind.i64.bits (p-1)).toNat:Int)=0)
theorem XQ {op:Int} (h:1<=op/\op<=11) (q:Bool):((algK op).filter (okA op q)).Perm (algF op q)/\(algF op q).Pairwise (· <= ·):=by
 have:op=1\/op=2\/op=3\/op=4\/op=5\/op=6\/op=7\/op=8\/op=9\/op=10\/op=11:=by omega
 rcases this with rfl | rfl | rfl | rfl | rfl | rfl | rfl | rfl | rfl | rfl | rfl <;> cases q <;> exact⟨List.isPerm_iff.1 (by decide),by decide⟩
theorem ul0 {op:Int} (h:1<=op/\op<=11) (q:Bool) {seen:List Nat} (hn:seen.Nodup) (hl : ∀ x∈seen,x<(algK op).length) (ha : ∀ x,x<(algK op).length->x∈seen) :
 srt ((seen.map (fun i=>(algK op)[i]!)).filter (okA op q))=algF op q:=by
 have hp:seen.Perm (List.range (algK op).length):=ZO hn List.nodup_range (fun x=>by rw[List.mem_range];exact⟨hl x,ha x⟩)
 have he:(List.range (algK op).length).map (fun i=>(algK op)[i]!)=algK op:=by
  apply List.ext_getElem
  ·simp
  ·intro i h1 h2
   simp;rw[getElem?_pos (algK op) i h2];rfl
 have hq:=(hp.map (fun i=>(algK op)[i]!)).filter (okA op q);rw[he] at hq;have hs:=((List.mergeSort_perm ((seen.map (fun i=>(algK op)[i]!)).filter (okA op q)) (fun x y=>decide (x<=y))).trans hq).trans (XQ h q).1;refine hs.eq_of_pairwise (fun _ _ _ _ h1 h2=>Int.le_antisymm h1 h2) ?_ (XQ h q).2;have:=List.pairwise_mergeSort (le:=fun x y:Int=>decide (x<=y)) (fun a b c h1 h2=>by simp at h1 h2 ⊢; omega) (fun a b=>by simp;omega) ((seen.map (fun i=>(algK op)[i]!)).filter (okA op q));exact this.imp (fun h=>by simpa using h)
theorem qw0 {op:Int} (h:1<=op/\op<=11) (q:Bool):(algF op q).length<=4/\(algK op).length<=4:=by
 have:op=1\/op=2\/op=3\/op=4\/op=5\/op=6\/op=7\/op=8\/op=9\/op=10\/op=11:=by omega
 rcases this with rfl | rfl | rfl | rfl | rfl | rfl | rfl | rfl | rfl | rfl | rfl <;> cases q <;> decide
def selF (op:Int) (q:Bool) (seen:List Nat):List Int:=(seen.map (fun i=>(algK op)[i]!)).filter (okA op q)
theorem vD0 (op:Int) (q:Bool) (seen:List Nat) (i:Nat):selF op q (seen ++ [i])=selF op q seen++(if okA op q (algK op)[i]! = true then [(algK op)[i]!] else []):=by
 unfold selF;rw[List.map_append,List.filter_append];simp only[List.map_cons,List.map_nil,List.filter_cons,List.filter_nil]
theorem zT0 (op:Int) (q:Bool) (seen:List Nat):(selF op q seen).length<=seen.length:=by
 unfold selF;have:=List.length_filter_le (okA op q) (seen.map (fun i=>(algK op)[i]!))
 simpa using this
theorem xm0 {S:List (Int × Value)} {e:MapEntry} (h:e∈entG S) : ∃ i, ∃ hi:i<S.length,e=⟨.int .i64 S[i].1,S[i].2,i⟩:=by
 obtain ⟨j,hj⟩:=List.getElem?_of_mem h;obtain ⟨p,hp,rfl⟩:=XH hj;obtain ⟨hlt,rfl⟩:=List.getElem?_eq_some_iff.1 hp;exact⟨j,hlt,rfl⟩
theorem xL0 {S:List (Int × Value)} {i:Nat} (hi:i<S.length):(⟨.int .i64 S[i].1,S[i].2,i⟩:MapEntry)∈entG S :=
 List.mem_of_getElem? (i:=i) (by unfold entG;rw[List.getElem?_mapIdx,List.getElem?_eq_getElem hi];rfl)
theorem wB0 {S:List (Int × Value)} {i:Nat} (hi:i<S.length):(entG S).find? (fun e=>Nat.beq e.born i)=some ⟨.int .i64 S[i].1,S[i].2,i⟩:=by
 rw[List.find?_eq_some_iff_getElem];refine⟨by simp,i,by unfold entG;simpa using hi,by unfold entG;simp,fun j hj=>?_⟩;have e:((entG S)[j]'(by unfold entG;simp;omega)).born=j:=by unfold entG;simp
 show (!(Nat.beq _ i))=true;rw[e]
 cases hb:Nat.beq j i with
 | false=>rfl
 | true=>exact absurd (Nat.eq_of_beq_eq_true hb) (by omega)
theorem wc0 (S:List (Int × Value)) (seen:List Nat):(seen.toArray.isEmpty||(entG S).isEmpty || !((entG S).all (fun e=>decide (S.length<=e.born))))=true:=by
 cases S with
 | nil=>simp[entG]
 | cons p S=>simp[entG,List.mapIdx_cons]
end Go.Af.Tryz
namespace Go.Af.Tryz
open Go Go.Proofs
open Go.Af.Coll (St)
attribute [local irreducible] awp qj qI qK qE qm isCells ql qi qB qx qh roundEnd

abbrev Og:=Int × Int
def orgC:List Og->List Value
 | []=>[]
 | o::r=>.int .i64 o.1 :: .int .i64 o.2::orgC r
@[simp] theorem Uj : ∀ l:List Og,(orgC l).length=l.length*2
  | []=>rfl
  | o::r=>by rw[orgC,List.length_cons,List.length_cons,Uj r,List.length_cons];omega
section
variable {H0 H H' : List Blk} {o:Nat->Prop} {L:List (Bool × Nat × Blk)}
end
end Go.Af.Tryz
namespace Go.Af
open Go
section
variable {H0 H H' : List Blk} {o:Nat->Prop}
theorem HS.pickR {A R A' : List (Bool × Nat × Blk)} (h:HS H0 o (A++R) H) (is:List Nat) (hn:is.Nodup) (hA:is.map (fun i=>A[i]?)=A'.map some):HS H0 o (A' ++ R) H:=by
 have hget : ∀ (i:Nat) (p:Bool × Nat × Blk),A'[i]? = some p->∃ j,is[i]? = some j/\A[j]? = some p:=fun i p hp=>by
  have h1:=congrArg (fun l=>l[i]?) hA;simp only[List.getElem?_map,hp,Option.map_some] at h1
  cases h2:is[i]? with
  | none=>rw[h2] at h1;cases h1
  | some j=>rw[h2] at h1;exact⟨j,rfl,by simpa using h1⟩
 have inA : ∀ {j:Nat} {p:Bool × Nat × Blk},A[j]? = some p->(A++R)[j]? = some p/\j<A.length:=fun {j p} hj=>by
  have hl:=(List.getElem?_eq_some_iff.1 hj).1;exact⟨by rw[List.getElem?_append_left hl];exact hj,hl⟩
 have inR : ∀ {j:Nat} {p:Bool × Nat × Blk},R[j]? = some p->(A++R)[A.length+j]? = some p:=fun {j p} hj=>by
  rw[List.getElem?_append_right (by omega),Nat.add_sub_cancel_left];exact hj
 have sp : ∀ {i:Nat} {p:Bool × Nat × Blk},(A' ++ R)[i]? = some p->(A'[i]? = some p/\i<A'.length)\/(R[i-A'.length]? = some p/\A'.length<=i):=fun {i p} hi=>by
  by_cases hl:i<A'.length
  ·exact .inl ⟨by rw[List.getElem?_append_left hl] at hi;exact hi,hl⟩
  ·exact .inr ⟨by rw[List.getElem?_append_right (by omega)] at hi;exact hi,by omega⟩
 refine⟨fun {i c b B} hi=>?_,fun {i j p q} hi hj he=>?_,h.u⟩
 ·rcases sp hi with ⟨h1,_⟩ | ⟨h1,_⟩
  ·obtain ⟨j,_,h3⟩:=hget _ _ h1
   exact h.g (inA h3).1
  ·exact h.g (inR h1)
 ·rcases sp hi with ⟨h1,_⟩ | ⟨h1,l1⟩ <;> rcases sp hj with ⟨h2,_⟩ | ⟨h2,l2⟩
  ·obtain ⟨a,a1,a2⟩:=hget _ _ h1
   obtain ⟨b,b1,b2⟩:=hget _ _ h2;have e:=h.nd (inA a2).1 (inA b2).1 he;subst e;have la:=(List.getElem?_eq_some_iff.1 a1).1;have lb:=(List.getElem?_eq_some_iff.1 b1).1;exact (List.getElem_inj hn).1 ((List.getElem?_eq_some_iff.1 a1).2.trans (List.getElem?_eq_some_iff.1 b1).2.symm)
  ·obtain ⟨a,a1,a2⟩:=hget _ _ h1
   have e:=h.nd (inA a2).1 (inR h2) he;have:=(inA a2).2;omega
  ·obtain ⟨b,b1,b2⟩:=hget _ _ h2
   have e:=h.nd (inR h1) (inA b2).1 he;have:=(inA b2).2;omega
  ·have e:=h.nd (inR h1) (inR h2) he
   omega
end
end Go.Af
namespace Go.Af.Tryz
open Go Go.Proofs
open Go.Af.Coll (St)
attribute [local irreducible] awp qj qI qK qE qm isCells ql qi qB qx qh roundEnd

theorem Ld_of {vs:List Value} {i:Nat} {v:Value} {K:Value->Prop} (hv:vs[i]? = some v) (h:K v):Ld vs (0+i*1) K:=⟨v,by rw[Nat.zero_add,Nat.mul_one];exact hv,h⟩
end Go.Af.Tryz
