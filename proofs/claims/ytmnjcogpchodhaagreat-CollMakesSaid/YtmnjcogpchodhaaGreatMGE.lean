/- A part of the proof. -/
import Derived.Test.YtmnjcogpchodhaaGreatMGD
import Derived.Test.YtmnjcogpchodhaaGreatMCA
set_option linter.all false
set_option maxHeartbeats 4000000
set_option maxRecDepth 100000
namespace Go.Af.Tryz
open Go Go.Proofs Tryz
attribute [local irreducible] awp qj qI qK qE qm isCells ql qi qB qx qh roundEnd
variable {H:List Blk}
variable {R:Value->List Blk->Prop}

theorem Zm {r:Int} (hr:0<=r/\r<=64) : ∀ {sz:List Int} (_:rngL sz=true), ∀ x∈coF sz r,0<=x/\x<=64
 | [],_,x,hx=>by simp[coF] at hx
 | m::g,hg,x,hx=>by
   have ha:=yu hg
   have hg' : rngL g=true:=by
    unfold rngL at hg ⊢;rw[List.all_cons,Bool.and_eq_true] at hg;exact hg.2
   simp only[coF,List.mem_cons] at hx;rcases hx with rfl | hx
   ·have hq:=UZ hr.1 (g:=g) (fun m hm=>(ha m (by simp[hm])).1)
    have hm:=ha m (by simp);rw[Int.tmod_eq_emod_of_nonneg hq.1];have h0:=Int.emod_nonneg (quoF g r) (b:=m) (by omega);have h1:=Int.emod_lt_of_pos (quoF g r) (b:=m) (by omega);omega
   ·exact Zm hr hg' x hx
def mvL (sz:List Int) (r:Int) (d:Nat) (y:Int):List Int:=(coF sz r).set d ((coF sz r)[d]! + y)
theorem uh (sz:List Int) (r:Int) (d:Nat) (y:Int):(mvL sz r d y).length=sz.length:=by unfold mvL;rw[List.length_set,zT]
theorem wh0 {sz:List Int} {r:Int} {d:Nat} {y:Int} (hg:rngL sz=true) (hr:0<=r/\r<=64) (hd:d<sz.length) (hy : -64<=y/\y<=64) : ∀ x∈mvL sz r d y, -100000<=x/\x<=100000:=fun x hx=>by
 unfold mvL at hx;rcases List.mem_or_eq_of_mem_set hx with h | h
 ·have:=Zm hr hg x h
  omega
 ·have hd' : d<(coF sz r).length:=by rw[zT];exact hd
  have:=Zm hr hg _ (List.getElem_mem hd');rw[getElem!_pos (coF sz r) d hd'] at h;omega
def mvF (sz:List Int) (ws:List Bool) (r:Int) (d:Nat) (by' : Int) (back:Bool):Int :=
 let y:=wrpF ws[d]! sz[d]! by'
 if y <= -sz[d]! \/ sz[d]! <= y then -2 else rnkF sz ws (mvL sz r d (if back then -y else y)) 0
theorem VW {sz:List Int} {r y v:Int} {d:Nat} (hv:v=(coF sz r)[d]! + y):(ints (coF sz r)).set (0+d*1) (.int .i64 v)=ints (mvL sz r d y):=by
 rw[Nat.zero_add,Nat.mul_one,ints_set,hv];rfl
theorem xU0 {sz xs:List Int} {ws:List Bool} {b c k:Nat} (g:Gr H sz b) (gw:Gw H ws b c) (hk : ∃ w,bget H k=some (.cells w 1 (ints xs))) (hbk:b≠k) (hck:c≠k) (hg:rngL sz=true) (hl:sz.length<=4) (hw:ws.length=sz.length) (hx:xs.length=sz.length) (hxr : ∀ x∈xs, -100000<=x/\x<=100000) (h : ∀ H',HS H none' [] H' -> R (.int .i64 (rnkF sz ws xs 0)) H'):qj prog 326 [grV b sz.length c ws.length,sv k sz.length] H R:=by
 have e:=c326 g gw hk hbk hck hg hl hw hx hxr h;rw[hx] at e;exact e
theorem xV0 {sz xs:List Int} {ws:List Bool} {b c k:Nat} (g:Gr H sz b) (gw:Gw H ws b c) (hk : ∃ w,bget H k=some (.cells w 1 (ints xs))) (hbk:b≠k) (hck:c≠k) (hg:rngL sz=true) (hl:sz.length<=4) (hw:ws.length=sz.length) (hx:xs.length=sz.length) (hxr : ∀ x∈xs, -100000<=x/\x<=100000) (h : ∀ H',HS H none' [] H' -> R (.int .i64 (rnkF sz ws xs 0)) H'):qj prog 313 [grV b sz.length c ws.length,sv k sz.length] H R:=by
 have e:=c313 g gw hk hbk hck hg hl hw hx hxr h;rw[hx] at e;exact e
theorem c289 {sz:List Int} {ws:List Bool} {b c d:Nat} {r y0:Int} (g:Gr H sz b) (gw:Gw H ws b c) (hg:rngL sz=true) (hl:sz.length<=4) (hw:ws.length=sz.length) (hr:0<=r/\r<=64) (hd:d<sz.length) (hy : -64<=y0/\y0<=64)
 (h : ∀ H',HS H none' [] H' -> R (.tuple ⟨[.int .i64 (mvF sz ws r d y0 true), .int .i64 (mvF sz ws r d y0 false)]⟩) H'):qj prog 289 [grV b sz.length c ws.length, .int .i64 r, .int .i64 d, .int .i64 y0] H R:=by
 obtain ⟨wb,hb⟩:=g.s;obtain ⟨wc,hc⟩:=gw.s;have hne:=gw.ne;have ha:=yu hg;have hlt:=hd;have hi3:d<ws.length:=by omega
 have hsm:=ha _ (List.getElem_mem hlt);rw[<- getElem!_pos sz d hlt] at hsm;refine avN call289 func289 ntmps289 ?_;have hs:=(adH (HS.start H none') hc);have hs:=hs.add (c:=false) hb (fun i p hi=>by rcases i with _ | i <;> simp at hi;subst hi;exact hne.symm) (fun h=>by cases h);refine qo hs (fun H1 b1 e1 l1 hs=>?_);refine qg (fun _ hKs=>hKs _ _ ?_);clear hKs;clear e1 l1;have hm0:=Int.emod_nonneg y0 (b:=sz[d]!) (by omega);have hm1:=Int.emod_lt_of_pos y0 (b:=sz[d]!) (by omega);have hco:=fun y=>wh0 (d:=d) (y:=y) hg hr hd
 have hi2:d<(coF sz r).length:=by rw[zT];exact hd
 have hcx:=Zm hr hg _ (List.getElem_mem hi2);rw[<- getElem!_pos (coF sz r) d hi2] at hcx;unfold mvF at h;cases hwi:ws[d]!
 ·rw[hwi] at h
  simp only[wrpF,Bool.false_eq_true,if_false,if_true] at h;by_cases hc:y0 <= -sz[d]! \/ sz[d]! <= y0
  ·simp only[if_pos hc] at h
   repeat' first|refine zQw ?_|intro _ _ hs|intro K0 hK0|intro hc|refine dI ?_ ?_
   iterate 4 (
    all_goals try (
     first
      | refine vM hlt ?_
      | refine vM hi2 ?_
      | refine yh hi3 hwi ?_
     repeat' first|refine zQw ?_|intro _ _ hs|intro K0 hK0|intro hc|refine dI ?_ ?_
     ))
   all_goals exact h _ (qc hs)
  ·simp only[if_neg hc] at h
   repeat' first|refine zQw ?_|intro _ _ hs|intro K0 hK0|intro hc|refine dI ?_ ?_
   iterate 4 (
    all_goals try (
     first
      | refine vM hlt ?_
      | refine vM hi2 ?_
      | refine yh hi3 hwi ?_
     repeat' first|refine zQw ?_|intro _ _ hs|intro K0 hK0|intro hc|refine dI ?_ ?_
     ))
   refine qp tok mx [0,0,3,0,0,31,63,127] [false,true,false,true,true,false,false,false] (.first 0 (.first 1 (.first 4 (.alt 2 (.first 3 (.first 5 (.first 6 (.first 7 .done)))) (.alt 3 (.first 2 (.first 5 (.first 6 (.first 7 .done)))) .no))))) (by kernel_rfl) ?_;refine qw (fun K0 hK0=>?_)
   repeat' first|refine zPw ?_|intro _ _ hs|intro K0 hK0
   refine And.intro ?_ (And.intro ?_ trivial)
   all_goals (
    repeat' first|refine zPw ?_|intro _ _ hs|intro K0 hK0
    refine c167 ⟨_,hs.get 1 rfl⟩ hg hl hr (fun H2 k1 hn=>?_);have hs:=hs.call hn rfl;clear hn
    repeat' first|refine zPw ?_|intro _ _ hs|intro K0 hK0
    refine c167 ⟨_,hs.get 2 rfl⟩ hg hl hr (fun H3 k2 hn=>?_);have hs:=hs.call hn rfl;clear hn
    repeat' first|refine zQw ?_|intro _ _ hs|intro K0 hK0|intro hc|refine dI ?_ ?_
    iterate 4 (
     all_goals try (
      first
       | refine vM hlt ?_
       | refine vM hi2 ?_
       | refine yh hi3 hwi ?_
      repeat' first|refine zQw ?_|intro _ _ hs|intro K0 hK0|intro hc|refine dI ?_ ?_
      ))
    refine vN hs 1 rfl (ints (mvL sz r d (-y0))) rfl rfl (by rw[qU,zT];show 0+d*1+1<=_;omega) (VW (by omega)) (fun H4 e4 hs=>?_)
    repeat' first|refine zQw ?_|intro _ _ hs|intro K0 hK0|intro hc|refine dI ?_ ?_
    iterate 4 (
     all_goals try (
      first
       | refine vM hlt ?_
       | refine vM hi2 ?_
       | refine yh hi3 hwi ?_
      repeat' first|refine zQw ?_|intro _ _ hs|intro K0 hK0|intro hc|refine dI ?_ ?_
      ))
    refine vN hs 0 rfl (ints (mvL sz r d y0)) rfl rfl (by rw[qU,zT];show 0+d*1+1<=_;omega) (VW (by omega)) (fun H5 e5 hs=>?_)
    repeat' first|refine zPw ?_|intro _ _ hs|intro K0 hK0
    refine qp tok mx [0,0,3,0,0,31,63,127] [false,true,false,true,true,false,false,false] (.first 0 (.first 1 (.first 4 (.alt 2 (.first 3 (.first 5 (.first 6 (.first 7 .done)))) (.alt 3 (.first 2 (.first 5 (.first 6 (.first 7 .done)))) .no))))) (by kernel_rfl) ?_;refine qw (fun K0 hK0=>?_)
    repeat' first|refine zPw ?_|intro _ _ hs|intro K0 hK0
    refine And.intro ?_ (And.intro ?_ trivial)
    all_goals (
     repeat' first|refine zPw ?_|intro _ _ hs|intro K0 hK0
     refine xU0 ⟨_,hs.get 3 rfl⟩ ⟨hne,_,hs.get 4 rfl⟩ ⟨_,hs.get 1 rfl⟩ (fun e=>absurd (hs.nd (i:=3) (j:=1) rfl rfl e) (by decide)) (fun e=>absurd (hs.nd (i:=4) (j:=1) rfl rfl e) (by decide)) hg hl hw (uh _ _ _ _) (hco _ (by omega)) (kNo hs (fun H6 hs=>?_))
     repeat' first|refine zPw ?_|intro _ _ hs|intro K0 hK0
     refine xU0 ⟨_,hs.get 3 rfl⟩ ⟨hne,_,hs.get 4 rfl⟩ ⟨_,hs.get 0 rfl⟩ (fun e=>absurd (hs.nd (i:=3) (j:=0) rfl rfl e) (by decide)) (fun e=>absurd (hs.nd (i:=4) (j:=0) rfl rfl e) (by decide)) hg hl hw (uh _ _ _ _) (hco _ (by omega)) (kNo hs (fun H7 hs=>?_))
     repeat' first|refine zPw ?_|intro _ _ hs|intro K0 hK0
     exact h _ (qc hs)))
 ·rw[hwi] at h
  simp only[wrpF,if_true] at h;have hc : ¬ (y0 % sz[d]! <= -sz[d]! \/ sz[d]! <= y0 % sz[d]!):=by omega
  simp only[if_neg hc] at h
  repeat' first|refine zQw ?_|intro _ _ hs|intro K0 hK0|intro hc|refine dI ?_ ?_
  iterate 4 (
   all_goals try (
    first
     | refine vM hlt ?_
     | refine vM hi2 ?_
     | refine yh hi3 hwi ?_
    repeat' first|refine zQw ?_|intro _ _ hs|intro K0 hK0|intro hc|refine dI ?_ ?_
    ))
  refine c325 hsm ?_
  repeat' first|refine zQw ?_|intro _ _ hs|intro K0 hK0|intro hc|refine dI ?_ ?_
  iterate 4 (
   all_goals try (
    first
     | refine vM hlt ?_
     | refine vM hi2 ?_
     | refine yh hi3 hwi ?_
    repeat' first|refine zQw ?_|intro _ _ hs|intro K0 hK0|intro hc|refine dI ?_ ?_
    ))
  refine qp tok mx [0,0,3,0,0,31,63,127] [false,true,false,true,true,false,false,false] (.first 0 (.first 1 (.first 4 (.alt 2 (.first 3 (.first 5 (.first 6 (.first 7 .done)))) (.alt 3 (.first 2 (.first 5 (.first 6 (.first 7 .done)))) .no))))) (by kernel_rfl) ?_;refine qw (fun K0 hK0=>?_)
  repeat' first|refine zPw ?_|intro _ _ hs|intro K0 hK0
  refine And.intro ?_ (And.intro ?_ trivial)
  all_goals (
   repeat' first|refine zPw ?_|intro _ _ hs|intro K0 hK0
   refine c167 ⟨_,hs.get 1 rfl⟩ hg hl hr (fun H2 k1 hn=>?_);have hs:=hs.call hn rfl;clear hn
   repeat' first|refine zPw ?_|intro _ _ hs|intro K0 hK0
   refine c167 ⟨_,hs.get 2 rfl⟩ hg hl hr (fun H3 k2 hn=>?_);have hs:=hs.call hn rfl;clear hn
   repeat' first|refine zQw ?_|intro _ _ hs|intro K0 hK0|intro hc|refine dI ?_ ?_
   iterate 4 (
    all_goals try (
     first
      | refine vM hlt ?_
      | refine vM hi2 ?_
      | refine yh hi3 hwi ?_
     repeat' first|refine zQw ?_|intro _ _ hs|intro K0 hK0|intro hc|refine dI ?_ ?_
     ))
   refine vN hs 1 rfl (ints (mvL sz r d (-(y0 % sz[d]!)))) rfl rfl (by rw[qU,zT];show 0+d*1+1<=_;omega) (VW (by omega)) (fun H4 e4 hs=>?_)
   repeat' first|refine zQw ?_|intro _ _ hs|intro K0 hK0|intro hc|refine dI ?_ ?_
   iterate 4 (
    all_goals try (
     first
      | refine vM hlt ?_
      | refine vM hi2 ?_
      | refine yh hi3 hwi ?_
     repeat' first|refine zQw ?_|intro _ _ hs|intro K0 hK0|intro hc|refine dI ?_ ?_
     ))
   refine vN hs 0 rfl (ints (mvL sz r d (y0 % sz[d]!))) rfl rfl (by rw[qU,zT];show 0+d*1+1<=_;omega) (VW (by omega)) (fun H5 e5 hs=>?_)
   repeat' first|refine zPw ?_|intro _ _ hs|intro K0 hK0
   refine qp tok mx [0,0,3,0,0,31,63,127] [false,true,false,true,true,false,false,false] (.first 0 (.first 1 (.first 4 (.alt 2 (.first 3 (.first 5 (.first 6 (.first 7 .done)))) (.alt 3 (.first 2 (.first 5 (.first 6 (.first 7 .done)))) .no))))) (by kernel_rfl) ?_;refine qw (fun K0 hK0=>?_)
   repeat' first|refine zPw ?_|intro _ _ hs|intro K0 hK0
   refine And.intro ?_ (And.intro ?_ trivial)
   all_goals (
    repeat' first|refine zPw ?_|intro _ _ hs|intro K0 hK0
    refine xU0 ⟨_,hs.get 3 rfl⟩ ⟨hne,_,hs.get 4 rfl⟩ ⟨_,hs.get 1 rfl⟩ (fun e=>absurd (hs.nd (i:=3) (j:=1) rfl rfl e) (by decide)) (fun e=>absurd (hs.nd (i:=4) (j:=1) rfl rfl e) (by decide)) hg hl hw (uh _ _ _ _) (hco _ (by omega)) (kNo hs (fun H6 hs=>?_))
    repeat' first|refine zPw ?_|intro _ _ hs|intro K0 hK0
    refine xU0 ⟨_,hs.get 3 rfl⟩ ⟨hne,_,hs.get 4 rfl⟩ ⟨_,hs.get 0 rfl⟩ (fun e=>absurd (hs.nd (i:=3) (j:=0) rfl rfl e) (by decide)) (fun e=>absurd (hs.nd (i:=4) (j:=0) rfl rfl e) (by decide)) hg hl hw (uh _ _ _ _) (hco _ (by omega)) (kNo hs (fun H7 hs=>?_))
    repeat' first|refine zPw ?_|intro _ _ hs|intro K0 hK0
    exact h _ (qc hs)))
theorem c264 {sz:List Int} {ws:List Bool} {b c d:Nat} {r y0:Int} {back:Bool} (g:Gr H sz b) (gw:Gw H ws b c) (hg:rngL sz=true) (hl:sz.length<=4) (hw:ws.length=sz.length) (hr:0<=r/\r<=64) (hd:d<sz.length) (hy : -64<=y0/\y0<=64)
 (h : ∀ H',HS H none' [] H' -> R (.int .i64 (mvF sz ws r d y0 back)) H'):qj prog 264 [grV b sz.length c ws.length, .int .i64 r, .int .i64 d, .int .i64 y0, .bool back] H R:=by
 obtain ⟨wb,hb⟩:=g.s;obtain ⟨wc,hc⟩:=gw.s;have hne:=gw.ne;have ha:=yu hg;have hlt:=hd;have hi3:d<ws.length:=by omega
 have hsm:=ha _ (List.getElem_mem hlt);rw[<- getElem!_pos sz d hlt] at hsm;refine avN call264 func264 ntmps264 ?_;have hs:=(adH (HS.start H none') hc);have hs:=hs.add (c:=false) hb (fun i p hi=>by rcases i with _ | i <;> simp at hi;subst hi;exact hne.symm) (fun h=>by cases h);refine qo hs (fun H1 b1 e1 l1 hs=>?_);refine qg (fun _ hKs=>hKs _ _ ?_);clear hKs;clear e1 l1;have hm0:=Int.emod_nonneg y0 (b:=sz[d]!) (by omega);have hm1:=Int.emod_lt_of_pos y0 (b:=sz[d]!) (by omega);have hco:=fun y=>wh0 (d:=d) (y:=y) hg hr hd
 have hi2:d<(coF sz r).length:=by rw[zT];exact hd
 have hcx:=Zm hr hg _ (List.getElem_mem hi2);rw[<- getElem!_pos (coF sz r) d hi2] at hcx
 repeat' first|refine zPw ?_|intro _ _ hs|intro K0 hK0
 refine c169 ⟨_,hs.get 1 rfl⟩ hg hl hr (fun H2 k1 hn=>?_);have hs:=hs.call hn rfl;clear hn;unfold mvF at h;cases hwi:ws[d]!
 ·rw[hwi] at h
  simp only[wrpF,Bool.false_eq_true,if_false] at h;by_cases hc:y0 <= -sz[d]! \/ sz[d]! <= y0
  ·simp only[if_pos hc] at h
   repeat' first|refine zQw ?_|intro _ _ hs|intro K0 hK0|intro hc|refine dI ?_ ?_
   iterate 4 (
    all_goals try (
     first
      | refine vM hlt ?_
      | refine vM hi2 ?_
      | refine yh hi3 hwi ?_
     repeat' first|refine zQw ?_|intro _ _ hs|intro K0 hK0|intro hc|refine dI ?_ ?_
     ))
   all_goals exact h _ (qc hs)
  ·simp only[if_neg hc] at h
   cases back
   ·simp only[Bool.false_eq_true,if_false] at h
    repeat' first|refine zQw ?_|intro _ _ hs|intro K0 hK0|intro hc|refine dI ?_ ?_
    iterate 4 (
     all_goals try (
      first
       | refine vM hlt ?_
       | refine vM hi2 ?_
       | refine yh hi3 hwi ?_
      repeat' first|refine zQw ?_|intro _ _ hs|intro K0 hK0|intro hc|refine dI ?_ ?_
      ))
    refine vN hs 0 rfl (ints (mvL sz r d y0)) rfl rfl (by rw[qU,zT];show 0+d*1+1<=_;omega) (VW (by omega)) (fun H5 e5 hs=>?_)
    repeat' first|refine zPw ?_|intro _ _ hs|intro K0 hK0
    refine xV0 ⟨_,hs.get 2 rfl⟩ ⟨hne,_,hs.get 3 rfl⟩ ⟨_,hs.get 0 rfl⟩ (fun e=>absurd (hs.nd (i:=2) (j:=0) rfl rfl e) (by decide)) (fun e=>absurd (hs.nd (i:=3) (j:=0) rfl rfl e) (by decide)) hg hl hw (uh _ _ _ _) (hco _ (by omega)) (kNo hs (fun H6 hs=>?_))
    repeat' first|refine zPw ?_|intro _ _ hs|intro K0 hK0
    exact h _ (qc hs)
   ·simp only[if_true] at h
    repeat' first|refine zQw ?_|intro _ _ hs|intro K0 hK0|intro hc|refine dI ?_ ?_
    iterate 4 (
     all_goals try (
      first
       | refine vM hlt ?_
       | refine vM hi2 ?_
       | refine yh hi3 hwi ?_
      repeat' first|refine zQw ?_|intro _ _ hs|intro K0 hK0|intro hc|refine dI ?_ ?_
      ))
    refine vN hs 0 rfl (ints (mvL sz r d (-y0))) rfl rfl (by rw[qU,zT];show 0+d*1+1<=_;omega) (VW (by omega)) (fun H5 e5 hs=>?_)
    repeat' first|refine zPw ?_|intro _ _ hs|intro K0 hK0
    refine xV0 ⟨_,hs.get 2 rfl⟩ ⟨hne,_,hs.get 3 rfl⟩ ⟨_,hs.get 0 rfl⟩ (fun e=>absurd (hs.nd (i:=2) (j:=0) rfl rfl e) (by decide)) (fun e=>absurd (hs.nd (i:=3) (j:=0) rfl rfl e) (by decide)) hg hl hw (uh _ _ _ _) (hco _ (by omega)) (kNo hs (fun H6 hs=>?_))
    repeat' first|refine zPw ?_|intro _ _ hs|intro K0 hK0
    exact h _ (qc hs)
 ·rw[hwi] at h
  simp only[wrpF,if_true] at h;have hc : ¬ (y0 % sz[d]! <= -sz[d]! \/ sz[d]! <= y0 % sz[d]!):=by omega
  simp only[if_neg hc] at h;cases back
  ·simp only[Bool.false_eq_true,if_false] at h
   repeat' first|refine zQw ?_|intro _ _ hs|intro K0 hK0|intro hc|refine dI ?_ ?_
   iterate 4 (
    all_goals try (
     first
      | refine vM hlt ?_
      | refine vM hi2 ?_
      | refine yh hi3 hwi ?_
     repeat' first|refine zQw ?_|intro _ _ hs|intro K0 hK0|intro hc|refine dI ?_ ?_
     ))
   refine c312 hsm ?_
   repeat' first|refine zQw ?_|intro _ _ hs|intro K0 hK0|intro hc|refine dI ?_ ?_
   iterate 4 (
    all_goals try (
     first
      | refine vM hlt ?_
      | refine vM hi2 ?_
      | refine yh hi3 hwi ?_
     repeat' first|refine zQw ?_|intro _ _ hs|intro K0 hK0|intro hc|refine dI ?_ ?_
     ))
   refine vN hs 0 rfl (ints (mvL sz r d (y0 % sz[d]!))) rfl rfl (by rw[qU,zT];show 0+d*1+1<=_;omega) (VW (by omega)) (fun H5 e5 hs=>?_)
   repeat' first|refine zPw ?_|intro _ _ hs|intro K0 hK0
   refine xV0 ⟨_,hs.get 2 rfl⟩ ⟨hne,_,hs.get 3 rfl⟩ ⟨_,hs.get 0 rfl⟩ (fun e=>absurd (hs.nd (i:=2) (j:=0) rfl rfl e) (by decide)) (fun e=>absurd (hs.nd (i:=3) (j:=0) rfl rfl e) (by decide)) hg hl hw (uh _ _ _ _) (hco _ (by omega)) (kNo hs (fun H6 hs=>?_))
   repeat' first|refine zPw ?_|intro _ _ hs|intro K0 hK0
   exact h _ (qc hs)
  ·simp only[if_true] at h
   repeat' first|refine zQw ?_|intro _ _ hs|intro K0 hK0|intro hc|refine dI ?_ ?_
   iterate 4 (
    all_goals try (
     first
      | refine vM hlt ?_
      | refine vM hi2 ?_
      | refine yh hi3 hwi ?_
     repeat' first|refine zQw ?_|intro _ _ hs|intro K0 hK0|intro hc|refine dI ?_ ?_
     ))
   refine c312 hsm ?_
   repeat' first|refine zQw ?_|intro _ _ hs|intro K0 hK0|intro hc|refine dI ?_ ?_
   iterate 4 (
    all_goals try (
     first
      | refine vM hlt ?_
      | refine vM hi2 ?_
      | refine yh hi3 hwi ?_
     repeat' first|refine zQw ?_|intro _ _ hs|intro K0 hK0|intro hc|refine dI ?_ ?_
     ))
   refine vN hs 0 rfl (ints (mvL sz r d (-(y0 % sz[d]!)))) rfl rfl (by rw[qU,zT];show 0+d*1+1<=_;omega) (VW (by omega)) (fun H5 e5 hs=>?_)
   repeat' first|refine zPw ?_|intro _ _ hs|intro K0 hK0
   refine xV0 ⟨_,hs.get 2 rfl⟩ ⟨hne,_,hs.get 3 rfl⟩ ⟨_,hs.get 0 rfl⟩ (fun e=>absurd (hs.nd (i:=2) (j:=0) rfl rfl e) (by decide)) (fun e=>absurd (hs.nd (i:=3) (j:=0) rfl rfl e) (by decide)) hg hl hw (uh _ _ _ _) (hco _ (by omega)) (kNo hs (fun H6 hs=>?_))
   repeat' first|refine zPw ?_|intro _ _ hs|intro K0 hK0
   exact h _ (qc hs)
end Go.Af.Tryz
namespace Go.Af.Tryz
open Go Go.Proofs Tryz
attribute [local irreducible] awp qj qI qK qE qm isCells ql qi qB qx qh roundEnd
variable {H:List Blk}
variable {R:Value->List Blk->Prop}

theorem wW0 {sz:List Int} {wl:Nat} {r:Int} (h:crdE sz wl r=0):rngL sz=true/\sz.length<=4/\wl=sz.length/\0<=r/\r<=64:=by
 unfold crdE at h;have hc:=Ux sz wl;by_cases h0:cntF sz wl=0
 ·rw[if_pos h0] at h;cases h
 ·rw[if_neg h0] at h
  by_cases h1:r<0\/cntF sz wl<=r
  ·rw[if_pos h1] at h;cases h
  ·unfold cntF at h0 h1 hc
   split at h0
   ·exact absurd rfl h0
   ·rename_i h2
    rw[if_neg h2] at h1 hc
    have hk:okL sz 1=true:=by
     cases hk:okL sz 1
     ·exact absurd (Or.inr (Or.inr (Or.inr hk))) h2
     ·rfl
    exact⟨((Zc sz 1 (by omega)).1.1 hk).1,by omega,by omega,by omega,by omega⟩
theorem c191 {sz:List Int} {ws:List Bool} {b c d:Nat} {r y0:Int} (g:Gr H sz b) (gw:Gw H ws b c) (h0:crdE sz ws.length r=0) (hd:d<sz.length) (hy : -64<=y0/\y0<=64)
 (h : ∀ H',HS H none' [] H' -> R (.tuple ⟨[.int .i64 (mvF sz ws r d y0 true), .int .i64 (mvF sz ws r d y0 false), .int .i64 0]⟩) H'):qj prog 191 [grV b sz.length c ws.length, .int .i64 r, .int .i64 d, .int .i64 y0] H R:=by
 obtain ⟨hg,hl,hw,hr⟩:=wW0 h0;refine avN call191 func191 ntmps191 ?_;refine qo (HS.start H none') (fun H1 b1 e1 l1 hs=>?_);refine qg (fun _ hKs=>hKs _ _ ?_);clear hKs;clear e1 l1
 repeat' first|refine zRw ?_|intro _ _ hs|intro K0 hK0|(refine hK0 _ _ ?_;clear hK0)
 refine c166 (g.up (qc hs)) (kNo hs (fun H2 hs=>?_));rw[h0]
 repeat' first|refine zTw ?_|intro _ _ hs|intro K0 hK0|intro hc|refine dI ?_ ?_|(refine hK0 _ _ ?_;clear hK0)|refine c289 (g.up (qc hs)) (gw.up (qc hs)) hg hl hw hr hd hy (kNo hs (fun H3 hs=>?_))
 exact h _ (qc hs)
theorem c170 {sz:List Int} {ws:List Bool} {b c d:Nat} {r y0:Int} (g:Gr H sz b) (gw:Gw H ws b c) (h0:crdE sz ws.length r=0) (hd:d<sz.length) (hy : -64<=y0/\y0<=64)
 (h : ∀ H',HS H none' [] H' -> R (.tuple ⟨[.int .i64 (mvF sz ws r d y0 true), .int .i64 (mvF sz ws r d y0 false), .int .i64 0]⟩) H'):qj prog 170 [grV b sz.length c ws.length, .int .i64 r, .int .i64 d, .int .i64 y0] H R:=by
 obtain ⟨hg,hl,hw,hr⟩:=wW0 h0;refine avN call170 func170 ntmps170 ?_;refine qo (HS.start H none') (fun H1 b1 e1 l1 hs=>?_);refine qg (fun _ hKs=>hKs _ _ ?_);clear hKs;clear e1 l1
 repeat' first|refine zRw ?_|intro _ _ hs|intro K0 hK0|(refine hK0 _ _ ?_;clear hK0)
 refine c168 (g.up (qc hs)) (kNo hs (fun H2 hs=>?_));rw[h0]
 repeat' first|refine zTw ?_|intro _ _ hs|intro K0 hK0|intro hc|refine dI ?_ ?_|(refine hK0 _ _ ?_;clear hK0)
 refine qp tok mx [0,0,0,0,15,0,0,0,0,511,1023,2047,4095] [false,true,true,true,false,true,true,true,true,false,false,false,false] (.first 0 (.first 1 (.first 2 (.first 3 (.first 6 (.first 7 (.first 8 (.alt 4 (.first 5 (.first 9 (.first 10 (.first 11 (.first 12 .done))))) (.alt 5 (.first 4 (.first 9 (.first 10 (.first 11 (.first 12 .done))))) .no))))))))) (by kernel_rfl) ?_;refine qw (fun K0 hK0=>?_)
 repeat' first|refine zRw ?_|intro _ _ hs|intro K0 hK0|(refine hK0 _ _ ?_;clear hK0)
 refine And.intro ?_ (And.intro ?_ trivial)
 all_goals (
  repeat' first|refine zRw ?_|intro _ _ hs|intro K0 hK0|(refine hK0 _ _ ?_;clear hK0)
  refine c264 (g.up (qc hs)) (gw.up (qc hs)) hg hl hw hr hd hy (kNo hs (fun H3 hs=>?_))
  repeat' first|refine zRw ?_|intro _ _ hs|intro K0 hK0|(refine hK0 _ _ ?_;clear hK0)|refine c264 (g.up (qc hs)) (gw.up (qc hs)) hg hl hw hr hd hy (kNo hs (fun H3 hs=>?_))
  exact h _ (qc hs))
def neF (t:Tk) (r:Int) (d:Nat) (back:Bool):Int:=mvF t.sz t.ws r d 1 back
theorem c95 {t:Tk} {b c d:Nat} {r:Int} (g:Gr H t.sz b) (gw:Gw H t.ws b c) (h0:crdE t.sz t.ws.length r=0) (hd:d<t.sz.length)
 (h : ∀ H',HS H none' [] H' -> R (.tuple ⟨[.int .i64 (neF t r d true), .int .i64 (neF t r d false)]⟩) H'):qj prog 95 [tkV t b c, .int .i64 r, .int .i64 d] H R:=by
 refine avN call95 func95 ntmps95 ?_;refine qo (HS.start H none') (fun H1 b1 e1 l1 hs=>?_);refine qg (fun _ hKs=>hKs _ _ ?_);clear hKs;clear e1 l1
 repeat' first|refine zRw ?_|intro _ _ hs|intro K0 hK0|(refine hK0 _ _ ?_;clear hK0)|refine c170 (g.up (qc hs)) (gw.up (qc hs)) h0 hd (by omega) (kNo hs (fun H3 hs=>?_))
 exact h _ (qc hs)
theorem c162 {t:Tk} {b c d:Nat} {r:Int} (g:Gr H t.sz b) (gw:Gw H t.ws b c) (h0:crdE t.sz t.ws.length r=0) (hd:d<t.sz.length)
 (h : ∀ H',HS H none' [] H' -> R (.agg ⟨[.int .i64 (neF t r d true), .int .i64 (neF t r d false)]⟩) H'):qj prog 162 [tkV t b c, .int .i64 r, .int .i64 d] H R:=by
 refine avN call162 func162 ntmps162 ?_;refine qo (HS.start H none') (fun H1 b1 e1 l1 hs=>?_);refine qo hs (fun H1 b2 e2 l2 hs=>?_);refine qg (fun _ hKs=>hKs _ _ ?_);clear hKs;clear e1 l1 e2 l2
 repeat' first|refine zRw ?_|intro _ _ hs|intro K0 hK0|(refine hK0 _ _ ?_;clear hK0)|refine c191 (g.up (qc hs)) (gw.up (qc hs)) h0 hd (by omega) (kNo hs (fun H3 hs=>?_))
 change resK T _ _ _ _;refine vV (by rfl) (by rfl) (hs.get 0 rfl) (by rfl) ?_;refine⟨_,rfl,_,rfl, ?_⟩;exact h _ (qc hs)
end Go.Af.Tryz
