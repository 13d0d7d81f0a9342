/- A part of the proof. -/
import Derived.Test.YtmnjcogpchodhaaGreatMRE
import Derived.Test.YtmnjcogpchodhaaGreatMRC
import Derived.Test.YtmnjcogpchodhaaGreatMGL
import Derived.Test.YtmnjcogpchodhaaGreatMGH
set_option linter.all false
set_option maxHeartbeats 4000000
set_option maxRecDepth 100000
namespace Go.Af.Tryz
open Go Go.Proofs
open Go.Af.Coll (St befF)

theorem UM {t:Tk} {a:Int} (kt:TkOk t) (h16:t.pr<=16) (ha:a∈algK t.op) (hpw:(t.op=8/\a=10\/t.op=9/\a=11\/t.op=7/\a=6)->t.pr=1\/t.pr=2\/t.pr=4\/t.pr=8\/t.pr=16) (h11:t.op≠11) (h3:a≠3) (h4:t.op=1->a≠4) (h7:t.op=3->a≠7) :
 (∃ g,Gd (bT t) (blkF t) (qZ (bT t) a) g)/\((qZ (bT t) a).length:Int)<=Qg (bT t) a:=by
 have hpr:=kt.pr;have hro:=kt.ro;have hroot:=kt.root;obtain ⟨i,hi⟩ : ∃ i:Nat,t.pr=((i+1:Nat):Int):=⟨(t.pr-1).toNat,by omega⟩;have hi16:i<16:=by omega
 obtain ⟨ro,hr⟩ : ∃ r:Nat,t.ro=(r:Int):=⟨t.ro.toNat,by omega⟩;have hri:ro<i+1:=by omega
 have eT : ∀ op:Int,t.op=op->bT t=⟨op,((i+1:Nat):Int),(ro:Int),1,[],[]⟩:=fun op h=>by unfold bT;rw[h,hi,hr]
 have eT0 : ∀ op:Int,t.op=op->t.ro=0->bT t=⟨op,((i+1:Nat):Int),0,1,[],[]⟩:=fun op h h0=>by unfold bT;rw[h,hi,h0]
 have key : ∀ {cp br:Bool} {n:Nat},blkF t=(n:Int)->(br=true->t.op=10)->ckB cp br (bT t) a (i+1) n=true->(∃ g,Gd (bT t) (blkF t) (qZ (bT t) a) g)/\((qZ (bT t) a).length:Int)<=Qg (bT t) a:=fun hn hb hk=>by
  rw[hn];exact YL (t:=bT t) hi (by omega) hb hk
 have b1 : ¬ (t.op=5\/t.op=6\/t.op=7\/t.op=9)->t.op≠8->blkF t=((1:Nat):Int):=fun x y=>by unfold blkF;rw[if_neg x,if_neg y,if_neg h11];rfl
 have bp:(t.op=5\/t.op=6\/t.op=7\/t.op=9)->blkF t=((i+1:Nat):Int):=fun x=>by unfold blkF;rw[if_pos x,hi]
 have b8:t.op=8->blkF t=((2*(i+1):Nat):Int):=fun x=>by unfold blkF;rw[if_neg (by omega),if_pos x,hi];omega
 have pw : ∀ {f:Nat->Bool},([0,1,3,7,15].all f=true)->(t.pr=1\/t.pr=2\/t.pr=4\/t.pr=8\/t.pr=16)->f i=true:=fun {f} h hp=>by
  refine List.all_eq_true.1 h i ?_;have:i=0\/i=1\/i=3\/i=7\/i=15:=by omega
  simpa using this
 have hop:=kt.op;have hop:t.op=1\/t.op=2\/t.op=3\/t.op=4\/t.op=5\/t.op=6\/t.op=7\/t.op=8\/t.op=9\/t.op=10:=by omega
 rcases hop with h | h | h | h | h | h | h | h | h | h
 ·have hA:=al1 h ha
  have:a=1\/a=2:=by have:=h4 h;omega
  rcases this with rfl | rfl
  ·exact key (br:=false) (b1 (by omega) (by omega)) (fun e=>by cases e) (by rw[eT 1 h];exact qB (qB kb1_1 hi16) hri)
  ·exact key (br:=false) (b1 (by omega) (by omega)) (fun e=>by cases e) (by rw[eT 1 h];exact qB (qB kb1_2 hi16) hri)
 ·have hA:=al2 h ha
  have:a=1\/a=2:=by omega
  rcases this with rfl | rfl
  ·exact key (br:=false) (b1 (by omega) (by omega)) (fun e=>by cases e) (by rw[eT 2 h];exact qB (qB kb2_1 hi16) hri)
  ·exact key (br:=false) (b1 (by omega) (by omega)) (fun e=>by cases e) (by rw[eT 2 h];exact qB (qB kb2_2 hi16) hri)
 ·have hA:=al3 h ha
  have:a=5\/a=6:=by have:=h7 h;omega
  rcases this with rfl | rfl
  ·exact key (br:=false) (b1 (by omega) (by omega)) (fun e=>by cases e) (by rw[eT0 3 h (by omega)];exact qB kb3_5 hi16)
  ·exact key (br:=false) (b1 (by omega) (by omega)) (fun e=>by cases e) (by rw[eT0 3 h (by omega)];exact qB kb3_6 hi16)
 ·rcases al4 h ha with rfl | rfl
  ·exact key (br:=false) (b1 (by omega) (by omega)) (fun e=>by cases e) (by rw[eT0 4 h (by omega)];exact qB kb4_1 hi16)
  ·exact key (br:=false) (b1 (by omega) (by omega)) (fun e=>by cases e) (by rw[eT0 4 h (by omega)];exact qB kb4_6 hi16)
 ·rcases al5 h ha with rfl | rfl
  ·exact key (br:=false) (bp (by omega)) (fun e=>by cases e) (by rw[eT 5 h];exact qB (qB kb5_1 hi16) hri)
  ·exact key (br:=false) (bp (by omega)) (fun e=>by cases e) (by rw[eT 5 h];exact qB (qB kb5_2 hi16) hri)
 ·rcases al6 h ha with rfl | rfl
  ·exact key (br:=false) (bp (by omega)) (fun e=>by cases e) (by rw[eT 6 h];exact qB (qB kb6_1 hi16) hri)
  ·exact key (br:=false) (bp (by omega)) (fun e=>by cases e) (by rw[eT 6 h];exact qB (qB kb6_2 hi16) hri)
 ·rcases al7 h ha with rfl | rfl | rfl
  ·exact key (br:=false) (bp (by omega)) (fun e=>by cases e) (by rw[eT0 7 h (by omega)];exact qB kb7_7 hi16)
  ·exact key (br:=false) (bp (by omega)) (fun e=>by cases e) (by rw[eT0 7 h (by omega)];exact pw kb7_6 (hpw (by omega)))
  ·exact key (br:=false) (bp (by omega)) (fun e=>by cases e) (by rw[eT0 7 h (by omega)];exact qB kb7_8 hi16)
 ·rcases al8 h ha with rfl | rfl | rfl
  ·exact key (br:=false) (b8 h) (fun e=>by cases e) (by rw[eT0 8 h (by omega)];exact qB kb8_9 hi16)
  ·exact key (br:=false) (b8 h) (fun e=>by cases e) (by rw[eT0 8 h (by omega)];exact pw kb8_10 (hpw (by omega)))
  ·exact key (br:=false) (b8 h) (fun e=>by cases e) (by rw[eT0 8 h (by omega)];exact qB kb8_8 hi16)
 ·rcases al9 h ha with rfl | rfl | rfl
  ·exact key (br:=false) (bp (by omega)) (fun e=>by cases e) (by rw[eT0 9 h (by omega)];exact qB kb9_7 hi16)
  ·exact key (br:=false) (bp (by omega)) (fun e=>by cases e) (by rw[eT0 9 h (by omega)];exact qB kb9_9 hi16)
  ·exact key (br:=false) (bp (by omega)) (fun e=>by cases e) (by rw[eT0 9 h (by omega)];exact pw kb9_11 (hpw (by omega)))
 ·rcases al10 h ha with rfl | rfl
  ·exact key (b1 (by omega) (by omega)) (fun _=>h) (by rw[eT0 10 h (by omega)];exact qB kb10_7 hi16)
  ·exact key (br:=false) (b1 (by omega) (by omega)) (fun e=>by cases e) (by rw[eT0 10 h (by omega)];exact qB kb10_5 hi16)
theorem base_parts {t:Tk} {a:Int} (kt:TkOk t) (h16:t.pr<=16) (h:t.op=1/\a=4\/t.op=3/\a=7):(∃ g,Gd (bP t) t.pr (qZ (bP t) a) g)/\((qZ (bP t) a).length:Int)<=Qg (bP t) a:=by
 have hpr:=kt.pr;have hro:=kt.ro;have hroot:=kt.root;obtain ⟨i,hi⟩ : ∃ i:Nat,t.pr=((i+1:Nat):Int):=⟨(t.pr-1).toNat,by omega⟩;have hi16:i<16:=by omega
 obtain ⟨ro,hr⟩ : ∃ r:Nat,t.ro=(r:Int):=⟨t.ro.toNat,by omega⟩;have hri:ro<i+1:=by omega
 rw[hi];rcases h with ⟨h,rfl⟩ | ⟨h,rfl⟩
 ·refine YL (cp:=true) (br:=false) (t:=bP t) hi (by omega) (fun e=>by cases e) ?_
  have e:bP t=⟨1,((i+1:Nat):Int),(ro:Int),((i+1:Nat):Int),[],[]⟩:=by unfold bP;rw[h,hi,hr]
  rw[e];exact qB (qB kb1_4 hi16) hri
 ·refine YL (cp:=false) (br:=false) (t:=bP t) hi (by omega) (fun e=>by cases e) ?_
  have e:bP t=⟨3,((i+1:Nat):Int),0,((i+1:Nat):Int),[],[]⟩:=by unfold bP;rw[h,hi,show t.ro=0 by omega]
  rw[e];exact qB kb3_7 hi16
theorem bT_ok {t:Tk} (kt:TkOk t) (h11:t.op≠11):TkOk (bT t):=⟨kt.op,kt.pr,by unfold bT;simp,kt.ro,kt.root,fun _=>rfl,fun _=>by have:=kt.pr;unfold bT;dsimp only;omega,fun h=>absurd h h11⟩
theorem all_gd {t:Tk} {a:Int} (kt:TkOk t) (h16:t.pr<=16) (ha:a∈algK t.op) (hpw:(t.op=8/\a=10\/t.op=9/\a=11\/t.op=7/\a=6)->t.pr=1\/t.pr=2\/t.pr=4\/t.pr=8\/t.pr=16) :
 (∃ g,Gd t (blkF t*t.pa) (qZ t a) g)/\((qZ t a).length:Int)<=Qg t a:=by
 have hpr:=kt.pr;have hpa:=kt.pa;have hro:=kt.ro;by_cases h11:t.op=11
 ·have hA:=al11 h11 ha
  rw[rn11 h11];refine⟨ha_gd kt h11, ?_⟩;unfold Qg;rw[if_pos h11,ha_len];omega
 ·by_cases h3:a=3
  ·subst h3
   have hop:t.op=1\/t.op=2:=by
    have hop:=kt.op;have hop:t.op=1\/t.op=2\/t.op=3\/t.op=4\/t.op=5\/t.op=6\/t.op=7\/t.op=8\/t.op=9\/t.op=10:=by omega
    rcases hop with h | h | h | h | h | h | h | h | h | h
    ·exact .inl h
    ·exact .inr h
    ·have:=al3 h ha;omega
    ·have:=al4 h ha;omega
    ·have:=al5 h ha;omega
    ·have:=al6 h ha;omega
    ·have:=al7 h ha;omega
    ·have:=al8 h ha;omega
    ·have:=al9 h ha;omega
    ·have:=al10 h ha;omega
   have hb:blkF t=1:=by unfold blkF;rw[if_neg (by omega),if_neg (by omega),if_neg (by omega)]
   have hrn:qZ t 3=chnF t:=by
    rcases hop with h | h
    ·rw[rn1 h];rfl
    ·rw[rn2 h];rfl
   rw[hrn,hb,Int.one_mul];refine⟨ch_gd kt hop, ?_⟩;unfold Qg;rw[if_neg h11];by_cases h1:t.pr=1
   ·rw[if_pos ⟨rfl,h1⟩]
    unfold chnF;rw[if_pos h1];simp
   ·rw[if_neg (fun h=>h1 h.2),if_pos rfl,ch_len h1]
    omega
  ·by_cases hp:t.op=1/\a=4\/t.op=3/\a=7
   ·obtain ⟨⟨g,hg⟩,hm⟩:=base_parts kt h16 hp
    have hop:t.op=1\/t.op=3:=by omega
    rw[(yT hop).1,Int.one_mul,rn_parts (by omega) hp];refine⟨⟨_,gd_up (t0:=bP t) (par_bl (by omega) (by omega)) rfl rfl (fun ms hms m hm=>?_) (in_parts (by omega) (by omega) hop) (fin_parts (by omega) (by omega) hop) hg⟩, ?_⟩
    ·rw[same_parts (t:=bP t) hp ms hms m hm]
     exact Pq.self _ _
    ·rw[List.length_map]
     have e:Qg (bP t) a=Qg t a:=by
      unfold Qg bP;dsimp only;simp only[h11,h3,false_and,if_false]
     rw[<- e];exact hm
   ·have h4:t.op=1->a≠4:=fun h h' => hp (.inl ⟨h,h'⟩)
    have h7:t.op=3->a≠7:=fun h h' => hp (.inr ⟨h,h'⟩)
    obtain ⟨⟨g,hg⟩,hm⟩:=UM kt h16 ha hpw h11 h3 h4 h7;have hb0:0<=blkF t:=by have:=ww kt;omega
    rw[rn_ex (by omega) h11 h3 h4 h7 ha kt.op];refine⟨⟨_,gd_up (t0:=bT t) (sp_bl (by omega) hb0) rfl rfl (fun ms hms m hm=>?_) (in_sp (by omega) h11) (fin_sp kt h11) hg⟩, ?_⟩
    ·have:=((ZE (bT_ok kt h11) ha).ok ms hms m hm).len
     exact Pq.const (fun b=>uG (by omega) b) this.symm
    ·rw[List.length_map]
     have e:Qg (bT t) a=Qg t a:=by
      unfold Qg bT;dsimp only;simp only[h11,h3,false_and,if_false]
     rw[<- e];exact hm
end Go.Af.Tryz
