/- A part of the proof. -/
import Derived.Test.YtmnjcogpchodhaaGreatMHE
import Derived.Test.YtmnjcogpchodhaaGreatMHF
import Derived.Test.YtmnjcogpchodhaaGreatMHG
import Derived.Test.YtmnjcogpchodhaaGreatMCA
import Derived.Test.YtmnjcogpchodhaaGreatMGB
set_option linter.all false
set_option maxHeartbeats 4000000
set_option maxRecDepth 100000
namespace Go.Af.Tryz
open Go Go.Proofs
attribute [local irreducible] awp qj qI qK qE qm isCells ql qi qB qx qh roundEnd zG wZ keyK wE

def vJ (t:Tk) (a:Int):List (List Msg) :=
 if t.op=1 then (if a=1 then qM (bcL t) t.pr else if a=2 then powF (bcT t) t.pr else if a=3 then chnF t else wC t (parF t)++qM (evF t (uP t)) t.pr) else
 if t.op=2 then (if a=1 then qM (rdL t) t.pr else if a=2 then powF (rdT t) t.pr else chnF t) else
 if t.op=3 then (if a=5 then powF (rdT t) t.pr++powF (bcT t) t.pr else if a=6 then dblF t else qM (evF t (yH t)) t.pr++qM (evF t (yD t)) t.pr) else
 if t.op=4 then (if a=1 then qM (scL t) t.pr else powF (scD t) t.pr) else
 if t.op=5 then (if a=1 then qM (gaL t) t.pr else powF (gaT t) t.pr) else
 if t.op=6 then (if a=1 then qM (stL t) t.pr else wC t (stF t)) else
 if t.op=7 then (if a=7 then qM (evF t (Qr t)) t.pr else if a=6 then powF (evF t (yG t)) t.pr else powF (evF t (yC t)) t.pr) else
 if t.op=8 then (if a=9 then prsF t (pwF t) else if a=10 then prsF t xorF else [buT t (b1F t)]++(powF (evF t (xn t)) t.pr ++ [buT t (b2F t)])) else
 if t.op=9 then (if a=7 then qM (evF t (Qq t)) t.pr else if a=9 then qM (evF t (Qp t)) t.pr else hlvF t) else
 if t.op=10 then (if a=7 then powF (evF t (Qn t)) t.pr else powF (rdT t) t.pr++powF (bcT t) t.pr) else
 (hloF t)
theorem VV {H0 H:List Blk} {L:List (Bool × Nat × Blk)} (hn:HS H0 none' L H) (i:Nat) {b:Nat} {B:Blk} (hi:L[i]? = some (true,b,B)):H0.length<=b:=((hn.g hi).2 rfl).elim (fun h=>h.elim) id
theorem c59v {H:List Blk} {N0:Nat} {t:Tk} {a:Int} {R:Value->List Blk->Prop} (kt:TkOk t) (hN:N0<=H.length) (ha:a∈algK t.op)
 (h : ∀ H' m mb j jj M S v,HS H none' [(true,m,mpG M),(true,mb,mpG S)] H' -> M[j]? = some (t.op, .map (some mb))->(M.take j).all (fun p => !(decide (p.1=t.op)))=true->S[jj]? = some (a,v)->(S.take jj).all (fun p => !(decide (p.1=a)))=true->AlgV N0 H' v t (vJ t a)->R (.map (some m)) H'):qj Tryz.prog 59 [] H R:=by
 have hop:t.op=1\/t.op=2\/t.op=3\/t.op=4\/t.op=5\/t.op=6\/t.op=7\/t.op=8\/t.op=9\/t.op=10\/t.op=11:=by have:=kt.op;omega
 unfold vJ at h;rcases hop with hop | hop | hop | hop | hop | hop | hop | hop | hop | hop | hop
 ·rw[hop] at ha h
  have ha2:a=1\/a=2\/a=3\/a=4:=by simpa [algK] using ha
  rcases ha2 with rfl | rfl | rfl | rfl
  ·exact c59 (fun H2 m m1 m2 m3 m4 m5 m6 m7 m8 m9 m10 m11 k110 k114 k119 k121 k123 k125 k131 k132 hn=>h H2 m m1 0 0 _ _ _ (pkH hn [0,1]) rfl (by rfl) rfl (by rfl) (xI kt (by have:=hn.le;omega) (Nat.le_trans hN (VV hn 12 rfl)) (hn.get 12 rfl) (mk_110 kt)))
  ·exact c59 (fun H2 m m1 m2 m3 m4 m5 m6 m7 m8 m9 m10 m11 k110 k114 k119 k121 k123 k125 k131 k132 hn=>h H2 m m1 0 1 _ _ _ (pkH hn [0,1]) rfl (by rfl) rfl (by rfl) (zt0 kt (by have:=hn.le;omega) (yA0 kt)))
  ·exact c59 (fun H2 m m1 m2 m3 m4 m5 m6 m7 m8 m9 m10 m11 k110 k114 k119 k121 k123 k125 k131 k132 hn=>h H2 m m1 0 2 _ _ _ (pkH hn [0,1]) rfl (by rfl) rfl (by rfl) (zr0 kt (by have:=hn.le;omega)))
  ·exact c59 (fun H2 m m1 m2 m3 m4 m5 m6 m7 m8 m9 m10 m11 k110 k114 k119 k121 k123 k125 k131 k132 hn=>h H2 m m1 0 3 _ _ _ (pkH hn [0,1]) rfl (by rfl) rfl (by rfl) (QM0 kt (by have:=hn.le;omega)))
 ·rw[hop] at ha h
  have ha2:a=1\/a=2\/a=3:=by simpa [algK] using ha
  rcases ha2 with rfl | rfl | rfl
  ·exact c59 (fun H2 m m1 m2 m3 m4 m5 m6 m7 m8 m9 m10 m11 k110 k114 k119 k121 k123 k125 k131 k132 hn=>h H2 m m2 1 0 _ _ _ (pkH hn [0,2]) rfl (by rfl) rfl (by rfl) (xI kt (by have:=hn.le;omega) (Nat.le_trans hN (VV hn 13 rfl)) (hn.get 13 rfl) (mk_114 kt)))
  ·exact c59 (fun H2 m m1 m2 m3 m4 m5 m6 m7 m8 m9 m10 m11 k110 k114 k119 k121 k123 k125 k131 k132 hn=>h H2 m m2 1 1 _ _ _ (pkH hn [0,2]) rfl (by rfl) rfl (by rfl) (zq0 kt (by have:=hn.le;omega) (yz0 kt)))
  ·exact c59 (fun H2 m m1 m2 m3 m4 m5 m6 m7 m8 m9 m10 m11 k110 k114 k119 k121 k123 k125 k131 k132 hn=>h H2 m m2 1 2 _ _ _ (pkH hn [0,2]) rfl (by rfl) rfl (by rfl) (zr0 kt (by have:=hn.le;omega)))
 ·rw[hop] at ha h
  have ha2:a=5\/a=6\/a=7:=by simpa [algK] using ha
  rcases ha2 with rfl | rfl | rfl
  ·exact c59 (fun H2 m m1 m2 m3 m4 m5 m6 m7 m8 m9 m10 m11 k110 k114 k119 k121 k123 k125 k131 k132 hn=>h H2 m m3 2 0 _ _ _ (pkH hn [0,3]) rfl (by rfl) rfl (by rfl) (zp0 kt (by have:=hn.le;omega)))
  ·exact c59 (fun H2 m m1 m2 m3 m4 m5 m6 m7 m8 m9 m10 m11 k110 k114 k119 k121 k123 k125 k131 k132 hn=>h H2 m m3 2 1 _ _ _ (pkH hn [0,3]) rfl (by rfl) rfl (by rfl) (QL0 kt (by have:=hn.le;omega)))
  ·exact c59 (fun H2 m m1 m2 m3 m4 m5 m6 m7 m8 m9 m10 m11 k110 k114 k119 k121 k123 k125 k131 k132 hn=>h H2 m m3 2 2 _ _ _ (pkH hn [0,3]) rfl (by rfl) rfl (by rfl) (QK0 kt (by have:=hn.le;omega)))
 ·rw[hop] at ha h
  have ha2:a=1\/a=6:=by simpa [algK] using ha
  rcases ha2 with rfl | rfl
  ·exact c59 (fun H2 m m1 m2 m3 m4 m5 m6 m7 m8 m9 m10 m11 k110 k114 k119 k121 k123 k125 k131 k132 hn=>h H2 m m4 3 0 _ _ _ (pkH hn [0,4]) rfl (by rfl) rfl (by rfl) (xI kt (by have:=hn.le;omega) (Nat.le_trans hN (VV hn 14 rfl)) (hn.get 14 rfl) (mk_119 kt)))
  ·exact c59 (fun H2 m m1 m2 m3 m4 m5 m6 m7 m8 m9 m10 m11 k110 k114 k119 k121 k123 k125 k131 k132 hn=>h H2 m m4 3 1 _ _ _ (pkH hn [0,4]) rfl (by rfl) rfl (by rfl) (QJ0 kt (by have:=hn.le;omega) (mk_221 kt)))
 ·rw[hop] at ha h
  have ha2:a=1\/a=2:=by simpa [algK] using ha
  rcases ha2 with rfl | rfl
  ·exact c59 (fun H2 m m1 m2 m3 m4 m5 m6 m7 m8 m9 m10 m11 k110 k114 k119 k121 k123 k125 k131 k132 hn=>h H2 m m5 4 0 _ _ _ (pkH hn [0,5]) rfl (by rfl) rfl (by rfl) (xI kt (by have:=hn.le;omega) (Nat.le_trans hN (VV hn 15 rfl)) (hn.get 15 rfl) (mk_121 kt)))
  ·exact c59 (fun H2 m m1 m2 m3 m4 m5 m6 m7 m8 m9 m10 m11 k110 k114 k119 k121 k123 k125 k131 k132 hn=>h H2 m m5 4 1 _ _ _ (pkH hn [0,5]) rfl (by rfl) rfl (by rfl) (QI0 kt (by have:=hn.le;omega) (mk_223 kt)))
 ·rw[hop] at ha h
  have ha2:a=1\/a=2:=by simpa [algK] using ha
  rcases ha2 with rfl | rfl
  ·exact c59 (fun H2 m m1 m2 m3 m4 m5 m6 m7 m8 m9 m10 m11 k110 k114 k119 k121 k123 k125 k131 k132 hn=>h H2 m m6 5 0 _ _ _ (pkH hn [0,6]) rfl (by rfl) rfl (by rfl) (xI kt (by have:=hn.le;omega) (Nat.le_trans hN (VV hn 16 rfl)) (hn.get 16 rfl) (mk_123 kt)))
  ·exact c59 (fun H2 m m1 m2 m3 m4 m5 m6 m7 m8 m9 m10 m11 k110 k114 k119 k121 k123 k125 k131 k132 hn=>h H2 m m6 5 1 _ _ _ (pkH hn [0,6]) rfl (by rfl) rfl (by rfl) (QH0 kt (by have:=hn.le;omega)))
 ·rw[hop] at ha h
  have ha2:a=7\/a=6\/a=8:=by simpa [algK] using ha
  rcases ha2 with rfl | rfl | rfl
  ·exact c59 (fun H2 m m1 m2 m3 m4 m5 m6 m7 m8 m9 m10 m11 k110 k114 k119 k121 k123 k125 k131 k132 hn=>h H2 m m7 6 0 _ _ _ (pkH hn [0,7]) rfl (by rfl) rfl (by rfl) (xI kt (by have:=hn.le;omega) (Nat.le_trans hN (VV hn 17 rfl)) (hn.get 17 rfl) (mk_125 kt)))
  ·exact c59 (fun H2 m m1 m2 m3 m4 m5 m6 m7 m8 m9 m10 m11 k110 k114 k119 k121 k123 k125 k131 k132 hn=>h H2 m m7 6 1 _ _ _ (pkH hn [0,7]) rfl (by rfl) rfl (by rfl) (QG0 kt (by have:=hn.le;omega) (mk_226 kt)))
  ·exact c59 (fun H2 m m1 m2 m3 m4 m5 m6 m7 m8 m9 m10 m11 k110 k114 k119 k121 k123 k125 k131 k132 hn=>h H2 m m7 6 2 _ _ _ (pkH hn [0,7]) rfl (by rfl) rfl (by rfl) (QF0 kt (by have:=hn.le;omega) (mk_228 kt)))
 ·rw[hop] at ha h
  have ha2:a=9\/a=10\/a=8:=by simpa [algK] using ha
  rcases ha2 with rfl | rfl | rfl
  ·exact c59 (fun H2 m m1 m2 m3 m4 m5 m6 m7 m8 m9 m10 m11 k110 k114 k119 k121 k123 k125 k131 k132 hn=>h H2 m m8 7 0 _ _ _ (pkH hn [0,8]) rfl (by rfl) rfl (by rfl) (QE0 kt (by have:=hn.le;omega)))
  ·exact c59 (fun H2 m m1 m2 m3 m4 m5 m6 m7 m8 m9 m10 m11 k110 k114 k119 k121 k123 k125 k131 k132 hn=>h H2 m m8 7 1 _ _ _ (pkH hn [0,8]) rfl (by rfl) rfl (by rfl) (QD0 kt (by have:=hn.le;omega)))
  ·exact c59 (fun H2 m m1 m2 m3 m4 m5 m6 m7 m8 m9 m10 m11 k110 k114 k119 k121 k123 k125 k131 k132 hn=>h H2 m m8 7 2 _ _ _ (pkH hn [0,8]) rfl (by rfl) rfl (by rfl) (QC0 kt (by have:=hn.le;omega)))
 ·rw[hop] at ha h
  have ha2:a=7\/a=9\/a=11:=by simpa [algK] using ha
  rcases ha2 with rfl | rfl | rfl
  ·exact c59 (fun H2 m m1 m2 m3 m4 m5 m6 m7 m8 m9 m10 m11 k110 k114 k119 k121 k123 k125 k131 k132 hn=>h H2 m m9 8 0 _ _ _ (pkH hn [0,9]) rfl (by rfl) rfl (by rfl) (xI kt (by have:=hn.le;omega) (Nat.le_trans hN (VV hn 18 rfl)) (hn.get 18 rfl) (mk_131 kt)))
  ·exact c59 (fun H2 m m1 m2 m3 m4 m5 m6 m7 m8 m9 m10 m11 k110 k114 k119 k121 k123 k125 k131 k132 hn=>h H2 m m9 8 1 _ _ _ (pkH hn [0,9]) rfl (by rfl) rfl (by rfl) (xI kt (by have:=hn.le;omega) (Nat.le_trans hN (VV hn 19 rfl)) (hn.get 19 rfl) (mk_132 kt)))
  ·exact c59 (fun H2 m m1 m2 m3 m4 m5 m6 m7 m8 m9 m10 m11 k110 k114 k119 k121 k123 k125 k131 k132 hn=>h H2 m m9 8 2 _ _ _ (pkH hn [0,9]) rfl (by rfl) rfl (by rfl) (QB0 kt (by have:=hn.le;omega)))
 ·rw[hop] at ha h
  have ha2:a=7\/a=5:=by simpa [algK] using ha
  rcases ha2 with rfl | rfl
  ·exact c59 (fun H2 m m1 m2 m3 m4 m5 m6 m7 m8 m9 m10 m11 k110 k114 k119 k121 k123 k125 k131 k132 hn=>h H2 m m10 9 0 _ _ _ (pkH hn [0,10]) rfl (by rfl) rfl (by rfl) (QA0 kt (by have:=hn.le;omega) (mk_242 kt)))
  ·exact c59 (fun H2 m m1 m2 m3 m4 m5 m6 m7 m8 m9 m10 m11 k110 k114 k119 k121 k123 k125 k131 k132 hn=>h H2 m m10 9 1 _ _ _ (pkH hn [0,10]) rfl (by rfl) rfl (by rfl) (zp0 kt (by have:=hn.le;omega)))
 ·rw[hop] at ha h
  have ha2:a=7:=by simpa [algK] using ha
  subst ha2
  ·exact c59 (fun H2 m m1 m2 m3 m4 m5 m6 m7 m8 m9 m10 m11 k110 k114 k119 k121 k123 k125 k131 k132 hn=>h H2 m m11 10 0 _ _ _ (pkH hn [0,11]) rfl (by rfl) rfl (by rfl) (Qz0 kt (by have:=hn.le;omega) hop))
end Go.Af.Tryz
namespace Go.Af.Tryz
open Go Go.Proofs
open Go.Af.Coll (St)

def stM (r:Int) (m:Msg):List St:=(List.range m.sr.length).map (fun i=>⟨r,m.fr,m.to,m.sr[i]!,m.ds[i]!,m.jn⟩)
def stRd (r:Int) (ms:List Msg):List St:=ms.flatMap (stM r)
def stsF:Nat->List (List Msg)->List St
 | _,[]=>[]
 | r,ms::rs=>stRd (r:Int) ms++stsF (r+1) rs
theorem WI (ms:List Msg) : ∀ (r:Nat) (p:List (List Msg)),stsF r (p ++ [ms])=stsF r p++stRd ((r+p.length:Nat):Int) ms
 | r,[]=>by simp[stsF]
 | r,q::p=>by
   rw[List.cons_append,stsF,stsF,WI ms (r+1) p,List.append_assoc,List.length_cons,show r+1+p.length=r+(p.length+1) by omega]
theorem xg : ∀ (r:Nat) (p q:List (List Msg)),stsF r (p++q)=stsF r p++stsF (r+p.length) q
 | r,[],q=>by simp[stsF]
 | r,m::p,q=>by
   rw[List.cons_append,stsF,stsF,xg (r+1) p q,List.append_assoc,List.length_cons,show r+1+p.length=r+(p.length+1) by omega]
theorem qN (r:Int) (m:Msg):(stM r m).length=m.sr.length:=by simp[stM]
theorem Xn (r:Int) (m:Msg) {j:Nat} (h:j<m.sr.length):(stM r m).take (j+1)=(stM r m).take j ++ [⟨r,m.fr,m.to,m.sr[j]!,m.ds[j]!,m.jn⟩]:=by
 rw[List.take_succ_eq_append_getElem (by rw[qN];exact h)];simp[stM]
structure MgOk (m:Msg):Prop where
 fr:0<=m.fr/\m.fr<64
 to:0<=m.to/\m.to<64
 len:m.ds.length=m.sr.length
 le:m.sr.length<=1024
 sr : ∀ x∈m.sr,0<=x/\x<2048
 ds : ∀ x∈m.ds,0<=x/\x<2048
structure RdOk (rs:List (List Msg)):Prop where
 len:rs.length<=200
 le : ∀ ms∈rs,ms.length<=4096
 ok : ∀ ms∈rs, ∀ m∈ms,MgOk m
theorem zQ0 {r:Int} {ms:List Msg} (h : ∀ m∈ms,MgOk m):(stRd r ms).length<=ms.length*1024:=by
 induction ms with
 | nil=>simp[stRd]
 | cons m ms ih =>
   have a:=ih (fun q hq=>h q (List.mem_cons_of_mem _ hq));have b:=(h m List.mem_cons_self).le;unfold stRd at a ⊢;rw[List.flatMap_cons,List.length_append,qN,List.length_cons,Nat.add_mul];omega
theorem QR : ∀ {rs:List (List Msg)} (r:Nat),(∀ ms∈rs,ms.length<=4096)->(∀ ms∈rs, ∀ m∈ms,MgOk m)->(stsF r rs).length<=rs.length*4194304
 | [],_,_,_=>by simp[stsF]
 | ms::rs,r,h1,h2=>by
   have a:=QR (rs:=rs) (r+1) (fun q hq=>h1 q (List.mem_cons_of_mem _ hq)) (fun q hq=>h2 q (List.mem_cons_of_mem _ hq));have b:=zQ0 (r:=(r:Int)) (h2 ms List.mem_cons_self);have c:=h1 ms List.mem_cons_self;rw[stsF,List.length_append,List.length_cons,Nat.add_mul];omega
theorem rg_stM {r:Int} {m:Msg} (hr:0<=r/\r<256) (h:MgOk m) : ∀ s∈stM r m,Rg s:=by
 intro s hs;unfold stM at hs;obtain ⟨i,hi,rfl⟩:=List.mem_map.1 hs;have hi:=List.mem_range.1 hi;have hl:=h.len;refine⟨hr,h.fr,h.to, ?_, ?_⟩
 ·dsimp only
  rw[getElem!_pos _ i hi];exact h.sr _ (List.getElem_mem hi)
 ·dsimp only
  rw[getElem!_pos _ i (by omega)];exact h.ds _ (List.getElem_mem (by omega))
theorem vN0 : ∀ {rs:List (List Msg)} (r:Nat),r+rs.length<=256->(∀ ms∈rs, ∀ m∈ms,MgOk m)->∀ s∈stsF r rs,Rg s
 | [],_,_,_,s,hs=>by cases hs
 | ms::rs,r,hl,h,s,hs=>by
   rw[stsF] at hs;rw[List.length_cons] at hl;rcases List.mem_append.1 hs with hs | hs
   ·obtain ⟨m,hm,hs⟩:=List.mem_flatMap.1 hs
    exact rg_stM ⟨by omega,by omega⟩ (h ms List.mem_cons_self m hm) s hs
   ·exact vN0 (r+1) (by omega) (fun q hq=>h q (List.mem_cons_of_mem _ hq)) s hs
theorem uG {t:Tk} (hp:1<=t.pa/\t.pa<=16) {f g:Int} (h0:0<=f) (hg:g<=128):(∀ x∈spnF t f g,0<=x/\x<2048):=by
 intro x hx;unfold spnF at hx;obtain ⟨i,hi,rfl⟩:=List.mem_map.1 hx;have hi:=List.mem_range.1 hi;have a:0<=f*t.pa:=Int.mul_nonneg h0 (by omega)
 have b:g*t.pa<=128*16:=by
  rcases Int.le_total g 0 with h | h
  ·have:=Int.mul_nonneg (show 0 <= -g by omega) (show 0<=t.pa by omega)
   rw[Int.neg_mul] at this;omega
  ·exact Int.mul_le_mul hg hp.2 (by omega) (by omega)
 omega
theorem QS {t:Tk} (hp:1<=t.pa/\t.pa<=16) {f g:Int} (h0:0<=f) (hfg:f<=g) (hg:g-f<=64):(spnF t f g).length<=1024:=by
 rw[yR,show g*t.pa-f*t.pa=(g-f)*t.pa by rw[Int.sub_mul]];have:(g-f)*t.pa<=64*16:=Int.mul_le_mul hg hp.2 (by omega) (by omega);omega
theorem vU0 {t:Tk} (kt:TkOk t) {i:Int} (h:0<=i/\i<t.pr):(parF t i).length<=1024/\∀ x∈parF t i,0<=x/\x<2048:=by
 have hpr:=kt.pr;have hpa:=kt.pa;have m1:0<=i*t.pa:=Int.mul_nonneg h.1 (by omega);have m2:(i+1)*t.pa<=t.pr*t.pa:=Int.mul_le_mul_of_nonneg_right (by omega) (by omega);have q1:0<=i*t.pa / t.pr:=Int.ediv_nonneg m1 (by omega)
 have q2:(i+1)*t.pa / t.pr<=t.pa:=by
  refine Int.le_trans (Int.ediv_le_ediv (by omega) m2) ?_;rw[Int.mul_comm,Int.mul_ediv_cancel _ (by omega)];exact Int.le_refl _
 constructor
 ·rw[Ui];omega
 ·intro x hx
  unfold parF at hx;obtain ⟨j,hj,rfl⟩:=List.mem_map.1 hx;have hj:=List.mem_range.1 hj;omega
theorem WM {t:Tk} (kt:TkOk t) {a b j:Int} (ha:0<=a/\a<64) (hb:0<=b/\b<64):MgOk (smM t a b j) :=
 ⟨ha,hb,rfl,QS kt.pa (by omega) (by omega) (by omega),uG kt.pa (by omega) (by omega),uG kt.pa (by omega) (by omega)⟩
theorem ZC {t:Tk} (kt:TkOk t) {a b s d j:Int} (ha:0<=a/\a<64) (hb:0<=b/\b<64) (hs:0<=s/\s<=127) (hd:0<=d/\d<=127):MgOk (blM t a b s d j) :=
 ⟨ha,hb,by dsimp only[blM];rw[yS kt.pa.1,yS kt.pa.1],QS kt.pa (by omega) (by omega) (by omega),uG kt.pa (by omega) (by omega),uG kt.pa (by omega) (by omega)⟩
theorem qi0 {x:Int} : ∀ {n:Nat} {v d hi:Int},0<=d->x∈lpF n v d hi->v<=x/\x<hi
 | 0,_,_,_,_,h=>by cases h
 | n+1,v,d,hi,h0,h=>by
   rw[lpF] at h;split at h
   ·rcases List.mem_cons.1 h with rfl | h
    ·omega
    ·have:=qi0 h0 h;omega
   ·cases h
theorem uO {t:Tk} (kt:TkOk t) {ms:Int->List Msg} (h : ∀ h,1<=h/\h<t.pr->(ms h).length<=4096/\∀ m∈ms h,MgOk m):RdOk (powF ms t.pr):=by
 have hlg:=wL t.pr;have hpr:=kt.pr;have key : ∀ i,i<lgF t.pr->1<=(2:Int) ^ i/\(2:Int) ^ i<t.pr:=fun i hi=>⟨(zL (by omega)).1,(Wp hpr.2 (by omega)).2 hi⟩
 refine⟨by simp[powF];omega,fun ms' hm=>?_,fun ms' hm=>?_⟩
 all_goals (
  unfold powF at hm;obtain ⟨i,hi,rfl⟩:=List.mem_map.1 hm
  have hk:=key i (List.mem_range.1 hi))
 ·exact (h _ hk).1
 ·exact (h _ hk).2
theorem zS {t:Tk} (kt:TkOk t) {ms:Int->List Msg} (h : ∀ i,0<=i/\i<t.pr-1->(ms i).length<=4096/\∀ m∈ms i,MgOk m):(qM ms t.pr).length<=63/\RdOk (qM ms t.pr):=by
 have hpr:=kt.pr;refine⟨by simp[qM];omega,by simp[qM];omega,fun ms' hm=>?_,fun ms' hm=>?_⟩
 all_goals (
  unfold qM at hm;obtain ⟨i,hi,rfl⟩:=List.mem_map.1 hm
  have hi:=List.mem_range.1 hi)
 ·exact (h _ ⟨by omega,by omega⟩).1
 ·exact (h _ ⟨by omega,by omega⟩).2
theorem yJ {t:Tk} (kt:TkOk t) {mk:Int->Int->Msg} {i:Int} (h : ∀ r,0<=r/\r<t.pr->MgOk (mk i r)):(evF t mk i).length<=4096/\∀ m∈evF t mk i,MgOk m:=by
 have hpr:=kt.pr;refine⟨by simp[evF];omega,fun m hm=>?_⟩;unfold evF at hm;obtain ⟨r,hr,rfl⟩:=List.mem_map.1 hm;have hr:=List.mem_range.1 hr;exact h _ ⟨by omega,by omega⟩
theorem RdOk.app {a b:List (List Msg)} (ha:RdOk a) (hb:RdOk b) (hl:a.length+b.length<=200):RdOk (a++b) :=
 ⟨by rw[List.length_append];exact hl,fun ms hm=>(List.mem_append.1 hm).elim (ha.le ms) (hb.le ms),fun ms hm=>(List.mem_append.1 hm).elim (ha.ok ms) (hb.ok ms)⟩
theorem RdOk.one {ms:List Msg} (h1:ms.length<=4096) (h2 : ∀ m∈ms,MgOk m):RdOk [ms] :=
 ⟨by simp,fun q hq=>by rcases List.mem_singleton.1 hq with rfl;exact h1,fun q hq=>by rcases List.mem_singleton.1 hq with rfl;exact h2⟩
theorem RdOk.nil:RdOk []:=⟨by simp,fun q hq=>(by cases hq),fun q hq=>(by cases hq)⟩
theorem VC (ms:Int->List Msg) (p:Int):(powF ms p).length<=6:=by simp[powF];exact wL p
theorem zo {n:Nat} {v d hi:Int} {f:Int->Msg} (hn:n<=4096) (hd:0<=d) (h : ∀ x,v<=x/\x<hi->MgOk (f x)):((lpF n v d hi).map f).length<=4096/\∀ m∈(lpF n v d hi).map f,MgOk m:=by
 refine⟨by rw[List.length_map];exact Nat.le_trans (xY _ _ _ _) hn,fun m hm=>?_⟩;obtain ⟨x,hx,rfl⟩:=List.mem_map.1 hm;exact h x (qi0 hd hx)
theorem xZ {n N:Nat} {v d hi:Int} {g:Int->List Msg} (hn:n*N<=4096) (hN : ∀ x,(g x).length<=N) (hd:0<=d) (h : ∀ x,v<=x/\x<hi->∀ m∈g x,MgOk m):((lpF n v d hi).flatMap g).length<=4096/\∀ m∈(lpF n v d hi).flatMap g,MgOk m:=by
 refine⟨Nat.le_trans (QF hN _ _) hn,fun m hm=>?_⟩;obtain ⟨x,hx,hm⟩:=List.mem_flatMap.1 hm;exact h x (qi0 hd hx) m hm
theorem Yn : ∀ {l:List Int} {n m:Int},(∀ x∈l,1<=x/\x<=64)->n<=m->mulL l n<=mulL l m
 | [],_,_,_,h=>h
 | s::l,n,m,ha,h=>Yn (l:=l) (fun x hx=>ha x (List.mem_cons_of_mem _ hx)) (Int.mul_le_mul_of_nonneg_right h (by have:=ha s List.mem_cons_self;omega))
theorem vK0 : ∀ {sz:List Int} {ws:List Bool} {xs:List Int} {n:Int},(∀ x∈sz,1<=x/\x<=64)->ws.length=sz.length->xs.length=sz.length->0<=n->rnkF sz ws xs n = -2\/(0<=rnkF sz ws xs n/\rnkF sz ws xs n<mulL sz (n+1))
 | [],[],[],n,_,_,_,hn=>.inr ⟨hn,by simp only[rnkF,mulL];omega⟩
 | [],_::_,_,_,_,h,_,_=>by cases h
 | [],[],_::_,_,_,_,h,_=>by cases h
 | _::_,[],_,_,_,h,_,_=>by cases h
 | _::_,_::_,[],_,_,_,h,_=>by cases h
 | s::sz,w::ws,x::xs,n,ha,h1,h2,hn=>by
   simp only[rnkF];split
   ·exact .inl rfl
   ·rename_i hc
    have hs:=ha s List.mem_cons_self;generalize wrpF w s x=q at hc ⊢;have hq:0<=n*s:=Int.mul_nonneg hn (by omega);rcases vK0 (sz:=sz) (ws:=ws) (xs:=xs) (n:=n*s+q) (fun y hy=>ha y (List.mem_cons_of_mem _ hy)) (by simpa using h1) (by simpa using h2) (by omega) with h | h
    ·exact .inl h
    ·refine .inr ⟨h.1,Int.lt_of_lt_of_le h.2 ?_⟩
     simp only[mulL];exact Yn (fun y hy=>ha y (List.mem_cons_of_mem _ hy)) (by rw[Int.add_mul];omega)
theorem we0 {t:Tk} (kt:TkOk t) (h11:t.op=11) {r:Int} {d:Nat} {k:Bool} (hr:0<=r/\r<t.pr):neF t r d k = -2\/(0<=neF t r d k/\neF t r d k<t.pr):=by
 have hcn:=kt.halo h11;have hpr:=kt.pr
 have hc0:crdE t.sz t.ws.length r=0:=by
  unfold crdE;rw[if_neg (by omega),if_neg (by omega)]
 obtain ⟨h1,h2,h3,h4⟩:=wW0 hc0
 have hm:mulL t.sz 1=t.pr:=by
  unfold cntF at hcn;split at hcn
  ·omega
  ·exact hcn
 unfold neF mvF;dsimp only;split
 ·exact .inl rfl
 ·have:=vK0 (n:=0) (yu h1) h3 (uh t.sz r d (if k then -(wrpF t.ws[d]! t.sz[d]! 1) else wrpF t.ws[d]! t.sz[d]! 1)) (Int.le_refl 0)
  rw[show (0:Int)+1=1 from rfl,hm] at this;exact this
theorem yE0 {x:Int} : ∀ {n:Nat} {h:Int},h<64->x∈hlF n h->1<=x/\x<64
 | 0,_,_,hx=>by cases hx
 | n+1,h,hh,hx=>by
   rw[hlF] at hx;split at hx
   ·rcases List.mem_cons.1 hx with rfl | hx
    ·omega
    ·exact yE0 (by omega) hx
   ·cases hx
theorem yF0 : ∀ (n:Nat) (h:Int),(hlF n h).length<=n
 | 0,_=>Nat.le_refl _
 | n+1,h=>by
   rw[hlF];split
   ·have:=yF0 n (h / 2);rw[List.length_cons];omega
   ·simp
theorem vi0 {a b:Int} {L:Nat} (hL:L<=6) (ha:0<=a/\a<(2:Int) ^ L) (hb:0<=b/\b<(2:Int) ^ L):0<=xorF a b/\xorF a b<(2:Int) ^ L:=by
 have h64:=(zL hL).2;have hx:=xx (a:=a) (b:=b) (by omega) (by omega);rw[hx.1];have e:((2 ^ L:Nat):Int)=(2:Int) ^ L:=by simp
 have h1:a.toNat<2 ^ L:=by omega
 have h2:b.toNat<2 ^ L:=by omega
 have:=Nat.xor_lt_two_pow h1 h2;omega
theorem Ud {t:Tk} {a:Int} (kt:TkOk t) (ha:a∈algK t.op):RdOk (vJ t a):=by
 have hpr:=kt.pr;have hpa:=kt.pa;have hro:=kt.ro;have rr : ∀ v,0<=relF t v/\relF t v<64:=fun v=>by have:=QA kt v;omega
 have mr : ∀ v,0<=v % t.pr/\v % t.pr<64:=fun v=>by have:=wO kt v;omega
 have one : ∀ (m:Msg),MgOk m->([m]:List Msg).length<=4096/\∀ q∈[m],MgOk q:=fun m h=>⟨by simp,fun q hq=>by rcases List.mem_singleton.1 hq with rfl;exact h⟩
 have o110:=zS kt (ms:=bcL t) (fun i hi=>one _ (WM kt (rr _) (rr _)))
 have o114:=zS kt (ms:=rdL t) (fun i hi=>by
  unfold rdL;split
  ·exact one _ (WM kt (by omega) (by omega))
  ·exact one _ (WM kt (by omega) (by omega)))
 have o119:=zS kt (ms:=scL t) (fun i hi=>one _ (WM kt (by omega) (by omega)));have o121:=zS kt (ms:=gaL t) (fun i hi=>one _ (ZC kt (rr _) (by omega) (by have:=rr (i+1);omega) (by have:=rr (i+1);omega)));have o123:=zS kt (ms:=stL t) (fun i hi=>one _ (ZC kt (by omega) (rr _) (by have:=rr (i+1);omega) (by have:=rr (i+1);omega)))
 have pt : ∀ (i fr to jn:Int),0<=fr/\fr<64->0<=to/\to<64->MgOk ⟨fr,to,parF t (i % t.pr),parF t (i % t.pr),jn⟩:=fun i fr to jn h1 h2=>by
  have:=vU0 kt (wO kt i);exact⟨h1,h2,rfl,this.1,this.2,this.2⟩
 have o206:=zS kt (ms:=evF t (uP t)) (fun i hi=>yJ kt (fun r hr=>pt _ _ _ _ (rr _) (rr _)));have o217:=zS kt (ms:=evF t (yH t)) (fun i hi=>yJ kt (fun r hr=>pt _ _ _ _ (by omega) (mr _)));have o219:=zS kt (ms:=evF t (yD t)) (fun i hi=>yJ kt (fun r hr=>pt _ _ _ _ (by omega) (mr _)));have o125:=zS kt (ms:=evF t (Qr t)) (fun i hi=>yJ kt (fun r hr=>ZC kt (by omega) (mr _) (by have:=mr (r-i);omega) (by have:=mr (r-i);omega)));have o131:=zS kt (ms:=evF t (Qq t)) (fun i hi=>yJ kt (fun r hr=>ZC kt (by omega) (mr _) (by have:=mr (r-i-1);omega) (by have:=mr (r-i-1);omega)));have o132:=zS kt (ms:=evF t (Qp t)) (fun i hi=>yJ kt (fun r hr=>ZC kt (by omega) (mr _) (by have:=mr (r+i+1);omega) (by have:=mr (r+i+1);omega)));have o111:=uO kt (ms:=bcT t) (fun h hh=>zo (by decide) (by decide) (fun x hx=>WM kt (rr _) (rr _)));have o115:=uO kt (ms:=rdT t) (fun h hh=>zo (by decide) (by omega) (fun x hx=>WM kt (rr _) (rr _)));have o120:=uO kt (ms:=scD t) (fun h hh=>zo (by decide) (by decide) (fun x hx=>WM kt (by omega) (by omega)));have o122:=uO kt (ms:=gaT t) (fun h hh=>xZ (N:=64) (by decide) (fun x=>by unfold gaG;rw[List.length_map];exact xY _ _ _ _) (by omega) (fun x hx m hm=>(zo (by decide) (by decide) (fun y hy=>ZC kt (rr _) (rr _) (by have:=rr y;omega) (by have:=rr y;omega))).2 m hm))
 have o126:=uO kt (ms:=evF t (yG t)) (fun h hh=>yJ kt (fun r hr=>by
  have hx:=xx (a:=r) (b:=h) (by omega) (by omega);have hq:=yO (r:=r) (i:=h) hr.1 hh.1;rw[hq.1] at hq
  exact⟨by dsimp only[yG];omega,hx.2,rfl,QS hpa hq.2.1 (by omega) (by omega),uG hpa hq.2.1 (by omega),uG hpa hq.2.1 (by omega)⟩))
 have o127:=uO kt (ms:=evF t (yC t)) (fun h hh=>yJ kt (fun r hr=>by
  have hl:=Uu hpa.1 h r (brkN t h);have hb:brkN t h<=64:=by unfold brkN;omega
  have hm:brkN t h*t.pa.toNat<=64*16:=Nat.mul_le_mul hb (by omega)
  have hmem : ∀ x∈cycF t h r (brkN t h),0<=x/\x<2048:=fun x hx=>by
   obtain ⟨j,hj,hx⟩:=List.mem_flatMap.1 hx;have:=mr (r+j);exact uG hpa (by omega) (by omega) x hx
  exact⟨by dsimp only[yC];omega,mr _,rfl,by dsimp only[yC];omega,hmem,hmem⟩))
 have o134:=uO kt (ms:=evF t (Qn t)) (fun h hh=>yJ kt (fun r hr=>WM kt (by omega) (mr _)))
 have oPr : ∀ pf:Int->Int->Int,(∀ r i,0<=r/\r<t.pr->0<=i/\i<t.pr->0<=pf r i/\pf r i<64)->RdOk (prsF t pf):=fun pf hpf=>by
  refine⟨by simp[prsF];omega,fun ms hm=>?_,fun ms hm=>?_⟩
  all_goals (
   unfold prsF at hm;obtain ⟨i,hi,rfl⟩:=List.mem_map.1 hm
   have hi:=List.mem_range.1 hi)
  ·exact (yJ kt (mk:=prM t pf) (i:=(i:Int)) (fun r hr=>ZC kt (by omega) (hpf _ _ hr ⟨by omega,by omega⟩) (by have:=hpf r i hr ⟨by omega,by omega⟩;omega) (by omega))).1
  ·exact (yJ kt (mk:=prM t pf) (i:=(i:Int)) (fun r hr=>ZC kt (by omega) (hpf _ _ hr ⟨by omega,by omega⟩) (by have:=hpf r i hr ⟨by omega,by omega⟩;omega) (by omega))).2
 have oDe : ∀ of:Int->List Int,(∀ i,0<=i/\i<t.pr->(of i).length<=1024/\∀ x∈of i,0<=x/\x<2048)->(wC t of).length<=6/\RdOk (wC t of):=fun of hof=>by
  have hlg:=wL t.pr
  have key : ∀ ms∈wC t of,ms.length<=4096/\∀ m∈ms,MgOk m:=fun ms hm=>by
   unfold wC at hm;obtain ⟨i,hi,rfl⟩:=List.mem_map.1 hm;have hh:=VI (lgF t.pr) (by omega) i (List.mem_range.1 hi)
   exact xZ (N:=64) (by decide) (fun x=>by unfold deG;rw[List.length_map];exact xY _ _ _ _) (by omega) (fun x hx m hm=>(zo (by decide) (by decide) (fun y hy=>by
    have ho:=hof y (by omega)
    exact⟨rr _,rr _,rfl,ho.1,ho.2,ho.2⟩)).2 m hm)
  exact⟨by simp[wC];exact hlg,by simp[wC];omega,fun ms hm=>(key ms hm).1,fun ms hm=>(key ms hm).2⟩
 have oCh:RdOk (chnF t):=by
  unfold chnF;split
  ·exact .nil
  ·have key : ∀ ms∈(List.range (t.pa+t.pr-2).toNat).map (fun i:Nat=>chR t (i:Int)),ms.length<=4096/\∀ m∈ms,MgOk m:=fun ms hm=>by
    obtain ⟨i,hi,rfl⟩:=List.mem_map.1 hm;refine xZ (N:=1) (by decide) (fun x=>by unfold chG;split <;> simp) (by decide) (fun x hx m hm=>?_);unfold chG at hm;split at hm
    ·rename_i hc
     rcases List.mem_singleton.1 hm with rfl
     have hmem : ∀ x_1∈[chS t (i:Int) x],0<=x_1/\x_1<2048:=fun y hy=>by rcases List.mem_singleton.1 hy with rfl;omega
     unfold chM;split
     ·exact⟨rr _,rr _,rfl,by simp,hmem,hmem⟩
     ·exact⟨rr _,rr _,rfl,by simp,hmem,hmem⟩
    ·cases hm
   exact⟨by simp;omega,fun ms hm=>(key ms hm).1,fun ms hm=>(key ms hm).2⟩
 have oD1:=oDe (parF t) (fun i hi=>vU0 kt hi)
 have oD2:=oDe (stF t) (fun i hi=>by
  have:=rr i
  exact⟨QS hpa (by omega) (by omega) (by omega),uG hpa (by omega) (by omega)⟩)
 have oBu : ∀ pf:Int->Int->Int,(∀ r i,0<=r/\r<t.pr->0<=i/\i<t.pr->0<=pf r i/\pf r i<=127)->(buT t pf).length<=4096/\∀ m∈buT t pf,MgOk m:=fun pf hpf =>
  xZ (N:=64) (by decide) (fun x=>by unfold buG;rw[List.length_map];exact xY _ _ _ _) (by decide) (fun x hx m hm=>(zo (by decide) (by decide) (fun y hy=>ZC kt (by omega) (by omega) (hpf x y ⟨by omega,by omega⟩ ⟨by omega,by omega⟩) (by omega))).2 m hm)
 have o234:=uO kt (ms:=evF t (xn t)) (fun h hh=>yJ kt (fun r hr=>by
  have hl:(brL t h).length<=64*16:=Uo (fun v=>by
   unfold brG;split
   ·simp
   ·rw[yS hpa.1];omega) _ _
  have hmem : ∀ x∈brL t h,0<=x/\x<2048:=fun x hx=>by
   obtain ⟨j,hj,hx⟩:=List.mem_flatMap.1 hx;have hj:=qi0 (by decide) hj;unfold brG at hx;split at hx
   ·cases hx
   ·exact uG hpa (by omega) (by omega) x hx
  exact⟨by dsimp only[xn];omega,mr _,rfl,hl,hmem,hmem⟩))
 have oHl:RdOk (hlvF t):=by
  have hlen:=yF0 7 (t.pr / 2)
  have key : ∀ ms∈hlvF t,ms.length<=4096/\∀ m∈ms,MgOk m:=fun ms hm=>by
   unfold hlvF at hm;obtain ⟨h,hh,rfl⟩:=List.mem_map.1 hm;have hh:=yE0 (by omega) hh;refine yJ kt (fun r hr=>?_);have hx:=(xx (a:=r) (b:=h) (by omega) (by omega)).2;have hq:=yO (r:=xorF r h) (i:=h) hx.1 hh.1;rw[hq.1] at hq;exact⟨by dsimp only[Qo];omega,hx,rfl,QS hpa hq.2.1 (by omega) (by omega),uG hpa hq.2.1 (by omega),uG hpa hq.2.1 (by omega)⟩
  exact⟨by unfold hlvF;rw[List.length_map];omega,fun ms hm=>(key ms hm).1,fun ms hm=>(key ms hm).2⟩
 have oHa:t.op=11->RdOk (hloF t):=fun h11=>by
  have hd:=kt.dims h11
  have key : ∀ ms∈hloF t,ms.length<=4096/\∀ m∈ms,MgOk m:=fun ms hm=>by
   unfold hloF at hm;obtain ⟨j,hj,rfl⟩:=List.mem_map.1 hm;have hj:=List.mem_range.1 hj;refine xZ (N:=1) (by decide) (fun x=>by unfold haG;split <;> simp) (by decide) (fun x hx m hm=>?_);unfold haG at hm;split at hm
   ·cases hm
   ·rename_i hne
    rcases List.mem_singleton.1 hm with rfl
    have:=we0 kt h11 (r:=x) (d:=j / 2) (k:=decide (((j % 2:Nat):Int)=1)) (by omega);exact ZC kt (by omega) (by omega) (by omega) (by omega)
  exact⟨by simp[hloF];omega,fun ms hm=>(key ms hm).1,fun ms hm=>(key ms hm).2⟩
 have oDb:RdOk (dblF t):=by
  have hcp:=qp0 hpr;have hfl:=xx0 t.pr;have hce:cpF t=(2:Int) ^ flF t.pr:=rfl;have hex:exF t=t.pr-cpF t:=rfl;rw[<- hce] at hcp;have mb : ∀ i,0<=i/\i<cpF t->0<=mbF (exF t) i/\mbF (exF t) i<64:=fun i hi=>by unfold mbF;split <;> omega
  have kI:(dbI t).length<=4096/\∀ m∈dbI t,MgOk m:=zo (by decide) (by decide) (fun x hx=>WM kt (by omega) (by omega));have kO:(dbO t).length<=4096/\∀ m∈dbO t,MgOk m:=zo (by decide) (by decide) (fun x hx=>WM kt (by omega) (by omega))
  have kR : ∀ j,j<flF t.pr->(dbR t ((2:Int) ^ j)).length<=4096/\∀ m∈dbR t ((2:Int) ^ j),MgOk m:=fun j hj =>
   zo (by decide) (by decide) (fun x hx=>by
    have hp:=xg0 (flF t.pr) (by omega) j hj;have hp1:=(zL (i:=j) (by omega)).1;have:=vi0 (L:=flF t.pr) hfl (a:=x) (b:=(2:Int) ^ j) ⟨hx.1,by rw[<- hce];exact hx.2⟩ ⟨by omega,hp⟩
    exact WM kt (mb _ hx) (mb _ (by rw[hce];exact this)))
  have hX : ∀ m:List Msg,m.length<=4096->(∀ q∈m,MgOk q)->RdOk (dbX t m).flatten/\(dbX t m).flatten.length<=1:=fun m h1 h2=>by
   unfold dbX;split
   ·exact⟨by simpa using RdOk.one h1 h2,by simp⟩
   ·exact⟨by simpa using RdOk.nil,by simp⟩
  have hQ : ∀ n,n<=flF t.pr->RdOk ((List.range n).map (fun j:Nat=>[dbR t ((2:Int) ^ j)])).flatten/\((List.range n).map (fun j:Nat=>[dbR t ((2:Int) ^ j)])).flatten.length<=n:=fun n=>by
   induction n with
   | zero=>exact fun _=>⟨RdOk.nil,by simp⟩
   | succ n ih =>
     intro hn;obtain ⟨a,b⟩:=ih (by omega);rw[List.range_succ,List.map_append,List.flatten_append];have:=kR n (by omega);exact⟨a.app (by simpa using RdOk.one this.1 this.2) (by simp at b ⊢; omega),by rw[List.length_append];simp at b ⊢; omega⟩
  have a:=hX _ kI.1 kI.2;have z:=hX _ kO.1 kO.2;have q:=hQ _ (Nat.le_refl _);unfold dblF dbQ;rw[List.flatten_append,List.flatten_append];exact (a.1.app q.1 (by omega)).app z.1 (by rw[List.length_append];omega)
 have hop:=kt.op;have hop:t.op=1\/t.op=2\/t.op=3\/t.op=4\/t.op=5\/t.op=6\/t.op=7\/t.op=8\/t.op=9\/t.op=10\/t.op=11:=by omega
 unfold vJ;rcases hop with h | h | h | h | h | h | h | h | h | h | h
 ·rw[h] at ha ⊢
  have ha2:a=1\/a=2\/a=3\/a=4:=by simpa [algK] using ha
  rcases ha2 with rfl | rfl | rfl | rfl
  ·exact o110.2
  ·exact o111
  ·exact oCh
  ·exact oD1.2.app o206.2 (by have:=oD1.1;have:=o206.1;omega)
 ·rw[h] at ha ⊢
  have ha2:a=1\/a=2\/a=3:=by simpa [algK] using ha
  rcases ha2 with rfl | rfl | rfl
  ·exact o114.2
  ·exact o115
  ·exact oCh
 ·rw[h] at ha ⊢
  have ha2:a=5\/a=6\/a=7:=by simpa [algK] using ha
  rcases ha2 with rfl | rfl | rfl
  ·exact o115.app o111 (by have:=VC (rdT t) t.pr;have:=VC (bcT t) t.pr;omega)
  ·exact oDb
  ·exact o217.2.app o219.2 (by have:=o217.1;have:=o219.1;omega)
 ·rw[h] at ha ⊢
  have ha2:a=1\/a=6:=by simpa [algK] using ha
  rcases ha2 with rfl | rfl
  ·exact o119.2
  ·exact o120
 ·rw[h] at ha ⊢
  have ha2:a=1\/a=2:=by simpa [algK] using ha
  rcases ha2 with rfl | rfl
  ·exact o121.2
  ·exact o122
 ·rw[h] at ha ⊢
  have ha2:a=1\/a=2:=by simpa [algK] using ha
  rcases ha2 with rfl | rfl
  ·exact o123.2
  ·exact oD2.2
 ·rw[h] at ha ⊢
  have ha2:a=7\/a=6\/a=8:=by simpa [algK] using ha
  rcases ha2 with rfl | rfl | rfl
  ·exact o125.2
  ·exact o126
  ·exact o127
 ·rw[h] at ha ⊢
  have ha2:a=9\/a=10\/a=8:=by simpa [algK] using ha
  rcases ha2 with rfl | rfl | rfl
  ·exact oPr _ (fun r i _ _=>mr _)
  ·exact oPr _ (fun r i hr hi=>(xx (by omega) (by omega)).2)
  ·exact (RdOk.one (oBu _ (fun r i hr hi=>by have:=mr (r+i);unfold b1F;omega)).1 (oBu _ (fun r i hr hi=>by have:=mr (r+i);unfold b1F;omega)).2).app (o234.app (RdOk.one (oBu _ (fun r i hr hi=>by have:=wO kt (r-i);unfold b2F;omega)).1 (oBu _ (fun r i hr hi=>by have:=wO kt (r-i);unfold b2F;omega)).2) (by have:=VC (evF t (xn t)) t.pr;simp;omega)) (by have:=VC (evF t (xn t)) t.pr;simp;omega)
 ·rw[h] at ha ⊢
  have ha2:a=7\/a=9\/a=11:=by simpa [algK] using ha
  rcases ha2 with rfl | rfl | rfl
  ·exact o131.2
  ·exact o132.2
  ·exact oHl
 ·rw[h] at ha ⊢
  have ha2:a=7\/a=5:=by simpa [algK] using ha
  rcases ha2 with rfl | rfl
  ·exact o134
  ·exact o115.app o111 (by have:=VC (rdT t) t.pr;have:=VC (bcT t) t.pr;omega)
 ·rw[h] at ha ⊢
  have ha2:a=7:=by simpa [algK] using ha
  subst ha2
  ·exact oHa h
end Go.Af.Tryz
