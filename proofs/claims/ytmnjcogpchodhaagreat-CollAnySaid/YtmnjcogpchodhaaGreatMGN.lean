/-
  Whether a row of origins is sorted by its processes: the library's IsSortedFunc with the program's closure.
  The program's Ordered.
  The reference's Ordered.
  The program and the reference ask the same of the slots at the end.
-/
import Derived.Test.YtmnjcogpchodhaaGreatMGM
set_option linter.all false
namespace Go.Af.Tryz
open Go Go.Proofs
set_option maxRecDepth 100000
set_option maxHeartbeats 4000000
attribute [local irreducible] awp qB qM qO qK qx isCells qp qo qG qC qi roundEnd

def srtF (l:List Og):Bool:=(List.range (l.length-1)).all (fun i=>decide (l[i]!.1≤l[i+1]!.1))
end Go.Af.Tryz
namespace Go.Af.Tryz
open Go Go.Proofs
set_option maxRecDepth 100000
set_option maxHeartbeats 4000000
attribute [local irreducible] awp qB qM qO qK qx isCells qp qo qG qC qi roundEnd

def srtA (t:Tk) (tr:Tr):Bool:=(List.range t.pr.toNat).all (fun r:Nat=>(finF t (r:Int)).all (fun w=>srtF (tget tr (r:Int) w.s)))
def orF (t:Tk) (l:List Coll.St):Bool:=match trcF t l with
 | some tr=>finG t tr&&decide (t.op≠10)&&srtA t tr
 | none=>false
end Go.Af.Tryz
namespace Go.Af.Tryz
open Go Go.Proofs
set_option maxRecDepth 100000
set_option maxHeartbeats 4000000
attribute [local irreducible] awp qB qM qO qK qx isCells qp qo qG qC qi roundEnd

end Go.Af.Tryz
namespace Go.Af.Tryz
open Go Go.Proofs
set_option maxRecDepth 100000

theorem spn_at (t:Tk) (f g:Int) {i:Nat} (h:i<(spnF t f g).length):(spnF t f g)[i]! = f*t.pa+(i:Int):=by
 rw[getElem!_pos _ i h]
 unfold spnF at h ⊢
 rw[List.getElem_map,List.getElem_range]
theorem cpL_mem {fr fs:Nat→Int} {xs:List Int} {w:Fi} (h:w∈cpL fr fs xs) : ∃ i,i<xs.length∧w=⟨xs[i]!,fr i,fs i, -1⟩:=by
 obtain ⟨i,hi,e⟩:=List.mem_map.1 h
 exact⟨i,List.mem_range.1 hi,e.symm⟩
theorem jnL_mem {u:Int} {xs:List Int} {w:Fi} (h:w∈jnL u xs) : ∃ i,i<xs.length∧w=⟨xs[i]!,0,0,u⟩:=by
 obtain ⟨i,hi,e⟩:=List.mem_map.1 h
 exact⟨i,List.mem_range.1 hi,e.symm⟩
theorem has_cp {t:Tk} {w:Fi} {r:Int} (l:List Og) (hu:w.u = -1) (hj:joiF t.op=false) (hs:srcF t r w.s=(w.r,w.f)):hasF t w l=holF t r w.s l:=by
 unfold hasF holF
 rw[if_pos (by omega),if_pos hj,hs]
theorem has_jn {t:Tk} {w:Fi} {r:Int} (l:List Og) (hu0:0≤w.u) (hu:w.u=lstF t r) (hj:joiF t.op=true):hasF t w l=holF t r w.s l:=by
 unfold hasF holF
 rw[if_neg (by omega),hj,if_neg (by decide)]
 congr 1
 rw[Bool.eq_iff_iff,List.all_eq_true,List.all_eq_true]
 have key : ∀ q:Nat,q∈List.range t.pr.toNat→(badK t w.u (q:Int) (cntL l q)=badH t (lstF t r) (q:Int) (cntL l q)):=fun q hq=>by
  have hq:=List.mem_range.1 hq
  have hk:=(cnt_le l (q:Int)).1
  unfold badK badH
  rw[hu]
  have h10:t.op=10→(q:Int)≤lstF t r:=fun e=>by
   unfold lstF
   rw[if_neg (by omega)]
   omega
  rw[decide_eq_decide]
  by_cases e:t.op=10
  ·have:=h10 e
   omega
  ·omega
 exact⟨fun h q hq=>by rw[← key q hq];exact h q hq,fun h q hq=>by rw[key q hq];exact h q hq⟩
theorem tdm {a i x:Int} (ha:0<a) (hx:0≤x) (h0:0≤i) (h1:i<a):(x*a+i).tdiv a=x∧(x*a+i).tmod a=i:=by
 have hn:0≤x*a+i:=by
  have:=Int.mul_nonneg hx (Int.le_of_lt ha)
  omega
 rw[Int.tdiv_eq_ediv_of_nonneg hn,Int.tmod_eq_emod_of_nonneg hn,Int.add_comm,Int.add_mul_ediv_right _ _ (by omega),Int.add_mul_emod_self_right,Int.ediv_eq_zero_of_lt h0 h1,Int.emod_eq_of_lt h0 h1]
 omega
theorem has_hol {t:Tk} (kt:TkOk t) {r:Int} (hr:0≤r∧r<t.pr) {w:Fi} (hw:w∈finF t r) (l:List Og):hasF t w l=holF t r w.s l:=by
 have hop:=kt.op
 have hpa:=kt.pa
 have hpr:=kt.pr
 have hc:t.op=1∨t.op=2∨t.op=3∨t.op=4∨t.op=5∨t.op=6∨t.op=7∨t.op=8∨t.op=9∨t.op=10∨t.op=11:=by omega
 have jn : ∀ u f g,joiF t.op=true→0≤u→u=lstF t r→w∈jnL u (spnF t f g)→hasF t w l=holF t r w.s l:=fun u f g hj h0 hu hm=>by
  obtain ⟨i,hi,rfl⟩:=jnL_mem hm
  exact has_jn l h0 hu hj
 have cp : ∀ fr fs f g,joiF t.op=false→(∀ i:Nat,i<(spnF t f g).length→srcF t r (f*t.pa+(i:Int))=(fr i,fs i))→w∈cpL fr fs (spnF t f g)→hasF t w l=holF t r w.s l:=fun fr fs f g hj hs hm=>by
  obtain ⟨i,hi,rfl⟩:=cpL_mem hm
  refine has_cp l rfl hj ?_
  dsimp only
  rw[spn_at t f g hi]
  exact hs i hi
 unfold finF at hw
 rcases hc with e | e | e | e | e | e | e | e | e | e | e
 ·rw[if_pos e] at hw
  refine cp _ _ _ _ (by unfold joiF;exact decide_eq_false (by omega)) (fun i hi=>?_) hw
  unfold srcF
  rw[if_pos (by omega)]
  congr 1
  omega
 ·rw[if_neg (by omega),if_neg (by omega),if_neg (by omega),if_neg (by omega),if_neg (by omega),if_pos e] at hw
  split at hw
  ·exact jn _ _ _ (by unfold joiF;exact decide_eq_true (by omega)) (by omega) (by unfold lstF;rw[if_neg (by omega)]) hw
  ·cases hw
 ·rw[if_neg (by omega),if_neg (by omega),if_neg (by omega),if_neg (by omega),if_neg (by omega),if_neg (by omega),if_neg (by omega),if_neg (by omega)] at hw
  exact jn _ _ _ (by unfold joiF;exact decide_eq_true (by omega)) (by omega) (by unfold lstF;rw[if_neg (by omega)]) hw
 ·rw[if_neg (by omega),if_neg (by omega),if_neg (by omega),if_neg (by omega),if_neg (by omega),if_neg (by omega),if_pos e] at hw
  exact jn _ _ _ (by unfold joiF;exact decide_eq_true (by omega)) (by omega) (by unfold lstF;rw[if_pos e]) hw
 ·rw[if_neg (by omega),if_neg (by omega),if_pos (by omega)] at hw
  split at hw
  ·refine cp _ _ _ _ (by unfold joiF;exact decide_eq_false (by omega)) (fun i hi=>?_) hw
   unfold srcF
   rw[if_neg (by omega),if_pos (by omega),show (0:Int)*t.pa+(i:Int)=i by omega]
  ·cases hw
 ·rw[if_neg (by omega),if_pos e] at hw
  refine cp _ _ _ _ (by unfold joiF;exact decide_eq_false (by omega)) (fun i hi=>?_) hw
  unfold srcF
  rw[if_pos (by omega),spn_at t r (r+1) hi]
 ·rw[if_neg (by omega),if_neg (by omega),if_pos (by omega),if_pos (by omega)] at hw
  refine cp _ _ _ _ (by unfold joiF;exact decide_eq_false (by omega)) (fun i hi=>?_) hw
  unfold srcF
  rw[if_neg (by omega),if_pos (by omega),show (0:Int)*t.pa+(i:Int)=i by omega]
 ·rw[if_neg (by omega),if_neg (by omega),if_neg (by omega),if_pos e] at hw
  refine cp _ _ _ _ (by unfold joiF;exact decide_eq_false (by omega)) (fun i hi=>?_) hw
  unfold srcF
  rw[if_neg (by omega),if_neg (by omega),if_pos e]
  have hi0:0≤(i:Int):=by omega
  have hm:=tmod_rng0 hi0 hpa.1
  have hd:=tdiv_rng hi0 hpa.1
  have hdm:(i:Int)=(i:Int).tdiv t.pa*t.pa+(i:Int).tmod t.pa:=by
   have:=Int.tmod_add_mul_tdiv (i:Int) t.pa
   rw[Int.mul_comm] at this
   omega
  have hsp:=spn_pos kt r
  have hx:=tdm (a:=t.pa) (i:=(i:Int).tmod t.pa) (x:=t.pr+(i:Int).tdiv t.pa) (by omega) (by omega) hm.1 hm.2
  rw[Int.add_mul,Int.add_assoc,← hdm] at hx
  rw[hx.1,hx.2,spn_at t r (r+1) (by rw[hsp.1];omega)]
  congr 1
  ·omega
  ·omega
 ·rw[if_neg (by omega),if_neg (by omega),if_neg (by omega),if_neg (by omega),if_neg (by omega),if_neg (by omega),if_neg (by omega),if_pos e] at hw
  exact jn _ _ _ (by unfold joiF;exact decide_eq_true (by omega)) (by omega) (by unfold lstF;rw[if_neg (by omega)]) hw
 ·rw[if_neg (by omega),if_neg (by omega),if_neg (by omega),if_neg (by omega),if_neg (by omega),if_neg (by omega),if_neg (by omega),if_neg (by omega)] at hw
  exact jn _ _ _ (by unfold joiF;exact decide_eq_true (by omega)) (by omega) (by unfold lstF;rw[if_neg (by omega)]) hw
 ·rw[if_neg (by omega),if_neg (by omega),if_neg (by omega),if_neg (by omega),if_pos e] at hw
  obtain ⟨d,hd,hw⟩:=List.mem_flatMap.1 hw
  unfold halF at hw
  obtain ⟨k,hk,hw⟩:=List.mem_flatMap.1 hw
  have hk:=List.mem_range.1 hk
  unfold hvL at hw
  split at hw
  ·cases hw
  ·refine cp _ _ _ _ (by unfold joiF;exact decide_eq_false (by omega)) (fun i hi=>?_) hw
   rw[wH,show (2+2*(d:Int)+(k:Int))*t.pa=(1+2*(d:Int)+(k:Int))*t.pa+t.pa by
    rw[show (2+2*(d:Int)+(k:Int))=(1+2*(d:Int)+(k:Int))+1 by omega,Int.add_mul,Int.one_mul]] at hi
   have hx:=tdm (a:=t.pa) (i:=(i:Int)) (x:=1+2*(d:Int)+(k:Int)) (by omega) (by omega) (by omega) (by omega)
   unfold srcF
   rw[if_neg (by omega),if_neg (by omega),if_neg (by omega),hx.1,hx.2]
   have h1:((1+2*(d:Int)+(k:Int)-1).tdiv 2).toNat=d:=by
    rw[Int.tdiv_eq_ediv_of_nonneg (by omega)]
    omega
   have h2:decide ((1+2*(d:Int)+(k:Int)).tmod 2=1)=decide (k=0):=by
    rw[Int.tmod_eq_emod_of_nonneg (by omega),decide_eq_decide]
    omega
   rw[h1,h2]
end Go.Af.Tryz
