/- A part of the proof. -/
import Derived.Test.YtmnjcogpchodhaaGreatMHA
import Derived.Test.YtmnjcogpchodhaaGreatMCA
import Derived.Test.YtmnjcogpchodhaaGreatMGG
set_option linter.all false
set_option maxHeartbeats 4000000
set_option maxRecDepth 100000
namespace Go.Af.Tryz
open Go Go.Proofs Tryz
attribute [local irreducible] awp qj qI qK qE qm isCells ql qi qB qx qh roundEnd

abbrev smM (t:Tk) (fr to jn:Int):Msg:=⟨fr,to,spnF t 0 1,spnF t 0 1,jn⟩
abbrev blM (t:Tk) (fr to sr ds jn:Int):Msg:=⟨fr,to,spnF t sr (sr+1),spnF t ds (ds+1),jn⟩
theorem MgIn.one {m:Msg} {x y:Nat} {M:List (Nat × List Int)} (hx:(x,m.sr)∈M) (hy:(y,m.ds)∈M):MgIn [(m,x,y)] M:=fun e he=>by
 rcases List.mem_singleton.1 he with rfl
 exact⟨hx,hy⟩
theorem QA {t:Tk} (kt:TkOk t) (v:Int):0<=relF t v/\relF t v<t.pr:=by
 have:=kt.pr;unfold relF;exact⟨Int.emod_nonneg _ (by omega),Int.emod_lt_of_pos _ (by omega)⟩
theorem wO {t:Tk} (kt:TkOk t) (v:Int):0<=v % t.pr/\v % t.pr<t.pr:=by
 have:=kt.pr;exact⟨Int.emod_nonneg _ (by omega),Int.emod_lt_of_pos _ (by omega)⟩
def bcL (t:Tk) (i:Int):List Msg := [smM t (relF t 0) (relF t (i+1)) 0]
theorem mk_110 {t:Tk} (kt:TkOk t):MkV 110 t (fun i=>0<=i/\i<t.pr-1) (bcL t):=by
 intro H b c i R hd gr gw h;have hpr:=kt.pr;have hro:=kt.ro;have hpa:=kt.pa;refine avN call110 func110 ntmps110 ?_;refine qo (HS.start H none') (fun H1 b1 e1 l1 hs=>?_);refine qg (fun _ hKs=>hKs _ _ ?_);clear hKs;clear e1 l1;refine qp tok mx [0,1,0,0,8,31,0,127,255,511,1023] [false,true,true,true,true,true,true,false,false,false,false] (.first 0 (.first 2 (.first 3 (.first 4 (.first 6 (.first 1 (.first 5 (.first 7 (.first 8 (.first 9 (.first 10 .done))))))))))) (by kernel_rfl) ?_;refine qw (fun K0 hK0=>?_)
 repeat' first|refine zPw ?_|intro _ _ hs|intro K0 hK0
 first
  | refine wz (gr.up (qc hs)) (gw.up (qc hs)) hpr hro (by omega) ?_
  | refine (wz (gr.up (qc hs)) (gw.up (qc hs)) hpr hro (by omega) ?_).call
 repeat' first|refine zPw ?_|intro _ _ hs|intro K0 hK0
 first
  | refine wz (gr.up (qc hs)) (gw.up (qc hs)) hpr hro (by omega) ?_
  | refine (wz (gr.up (qc hs)) (gw.up (qc hs)) hpr hro (by omega) ?_).call
 repeat' first|refine zPw ?_|intro _ _ hs|intro K0 hK0|(refine c202 hpa (fun H2 k hn=>?_);have hs:=hs.call hn rfl;clear hn)|refine c200 rfl (kNo hs (fun H3 hs=>?_))
 exact h _ _ [(smM t _ _ _,k,k)] [(k,spnF t 0 1)] (pkH hs [0,1]) (MgIn.one (List.mem_singleton.2 rfl) (List.mem_singleton.2 rfl)) rfl
def rdL (t:Tk) (i:Int):List Msg:=if i<t.ro then [smM t (t.ro-1-i) t.ro 1] else [smM t (i+1) t.ro 2]
theorem mk_114 {t:Tk} (kt:TkOk t):MkV 114 t (fun i=>0<=i/\i<t.pr-1) (rdL t):=by
 intro H b c i R hd gr gw h;have hpr:=kt.pr;have hro:=kt.ro;have hpa:=kt.pa;refine avN call114 func114 ntmps114 ?_;refine qo (HS.start H none') (fun H1 b1 e1 l1 hs=>?_);refine qg (fun _ hKs=>hKs _ _ ?_);clear hKs;clear e1 l1;unfold rdL at h;by_cases hir:i<t.ro
 ·rw[if_pos hir] at h
  repeat' first|refine zQw ?_|intro _ _ hs|intro K0 hK0|intro hc|refine dI ?_ ?_
  refine qp tok mx [0,1,3,0,15,0,32,0,128,511,1023,2047] [false,true,true,false,true,false,true,false,false,false,false,false] (.first 0 (.first 3 (.first 5 (.first 7 (.alt 1 (.first 2 (.first 4 (.alt 6 (.first 8 (.first 9 (.first 10 (.first 11 .done)))) (.alt 8 (.first 6 (.first 9 (.first 10 (.first 11 .done)))) .no)))) (.alt 6 (.alt 1 (.first 2 (.first 4 (.first 8 (.first 9 (.first 10 (.first 11 .done)))))) (.alt 8 (.first 1 (.first 2 (.first 4 (.first 9 (.first 10 (.first 11 .done)))))) .no)) (.alt 8 (.first 1 (.first 2 (.first 4 (.first 6 (.first 9 (.first 10 (.first 11 .done))))))) .no))))))) (by kernel_rfl) ?_;refine qw (fun K0 hK0=>?_)
  repeat' first|refine zPw ?_|intro _ _ hs|intro K0 hK0
  iterate 3 (
   all_goals try (first | refine And.intro ?_ trivial | refine And.intro ?_ (And.intro ?_ trivial) | refine And.intro ?_ (And.intro ?_ (And.intro ?_ trivial)))
   all_goals try (
    repeat' first|refine zPw ?_|intro _ _ hs|intro K0 hK0
    ))
  all_goals (
   refine c202 hpa (fun H2 k hn=>?_);have hs:=hs.call hn rfl;clear hn
   repeat' first|refine zPw ?_|intro _ _ hs|intro K0 hK0
   refine c200 rfl (kNo hs (fun H3 hs=>?_))
   repeat' first|refine zPw ?_|intro _ _ hs|intro K0 hK0
   exact h _ _ [(smM t _ _ _,k,k)] [(k,spnF t 0 1)] (pkH hs [0,1]) (MgIn.one (List.mem_singleton.2 rfl) (List.mem_singleton.2 rfl)) rfl
   )
 ·rw[if_neg hir] at h
  repeat' first|refine zQw ?_|intro _ _ hs|intro K0 hK0|intro hc|refine dI ?_ ?_
  refine qp tok mx [0,1,0,4,0,16,63,127,255] [false,false,false,true,false,false,false,false,false] (.first 0 (.first 1 (.first 2 (.first 4 (.alt 3 (.first 5 (.first 6 (.first 7 (.first 8 .done)))) (.alt 5 (.first 3 (.first 6 (.first 7 (.first 8 .done)))) .no)))))) (by kernel_rfl) ?_;refine qw (fun K0 hK0=>?_)
  repeat' first|refine zPw ?_|intro _ _ hs|intro K0 hK0
  iterate 3 (
   all_goals try (first | refine And.intro ?_ trivial | refine And.intro ?_ (And.intro ?_ trivial) | refine And.intro ?_ (And.intro ?_ (And.intro ?_ trivial)))
   all_goals try (
    repeat' first|refine zPw ?_|intro _ _ hs|intro K0 hK0
    ))
  all_goals (
   refine c202 hpa (fun H2 k hn=>?_);have hs:=hs.call hn rfl;clear hn
   repeat' first|refine zPw ?_|intro _ _ hs|intro K0 hK0|refine c200 rfl (kNo hs (fun H3 hs=>?_))
   exact h _ _ [(smM t _ _ _,k,k)] [(k,spnF t 0 1)] (pkH hs [0,1]) (MgIn.one (List.mem_singleton.2 rfl) (List.mem_singleton.2 rfl)) rfl
   )
def scL (t:Tk) (i:Int):List Msg := [smM t i (i+1) 1]
theorem mk_119 {t:Tk} (kt:TkOk t):MkV 119 t (fun i=>0<=i/\i<t.pr-1) (scL t):=by
 intro H b c i R hd gr gw h;have hpr:=kt.pr;have hro:=kt.ro;have hpa:=kt.pa;refine avN call119 func119 ntmps119 ?_;refine qo (HS.start H none') (fun H1 b1 e1 l1 hs=>?_);refine qg (fun _ hKs=>hKs _ _ ?_);clear hKs;clear e1 l1
 repeat' first|refine zPw ?_|intro _ _ hs|intro K0 hK0|(refine c202 hpa (fun H2 k hn=>?_);have hs:=hs.call hn rfl;clear hn)|refine c200 rfl (kNo hs (fun H3 hs=>?_))
 exact h _ _ [(smM t _ _ _,k,k)] [(k,spnF t 0 1)] (pkH hs [0,1]) (MgIn.one (List.mem_singleton.2 rfl) (List.mem_singleton.2 rfl)) rfl
def gaL (t:Tk) (i:Int):List Msg := [blM t (relF t (i+1)) t.ro (relF t (i+1)) (relF t (i+1)) 0]
theorem mk_121 {t:Tk} (kt:TkOk t):MkV 121 t (fun i=>0<=i/\i<t.pr-1) (gaL t):=by
 intro H b c i R hd gr gw h;have hpr:=kt.pr;have hro:=kt.ro;have hpa:=kt.pa;refine avN call121 func121 ntmps121 ?_;refine qo (HS.start H none') (fun H1 b1 e1 l1 hs=>?_);refine qg (fun _ hKs=>hKs _ _ ?_);clear hKs;clear e1 l1;have hr:=QA kt (i+1)
 repeat' first|refine zPw ?_|intro _ _ hs|intro K0 hK0
 first
  | refine wz (gr.up (qc hs)) (gw.up (qc hs)) hpr hro (by omega) ?_
  | refine (wz (gr.up (qc hs)) (gw.up (qc hs)) hpr hro (by omega) ?_).call
 repeat' first|refine zPw ?_|intro _ _ hs|intro K0 hK0|(refine c222 hpa (by omega) (by omega) (fun H2 x y hn=>?_);have hs:=hs.call hn rfl;clear hn)
 exact h _ _ [(blM t _ _ _ _ _,x,y)] [(y,_),(x,_)] (pkH hs [0,1,2]) (MgIn.one (List.mem_cons_of_mem _ List.mem_cons_self) List.mem_cons_self) rfl
def stL (t:Tk) (i:Int):List Msg := [blM t t.ro (relF t (i+1)) (relF t (i+1)) (relF t (i+1)) 0]
theorem mk_123 {t:Tk} (kt:TkOk t):MkV 123 t (fun i=>0<=i/\i<t.pr-1) (stL t):=by
 intro H b c i R hd gr gw h;have hpr:=kt.pr;have hro:=kt.ro;have hpa:=kt.pa;refine avN call123 func123 ntmps123 ?_;refine qo (HS.start H none') (fun H1 b1 e1 l1 hs=>?_);refine qg (fun _ hKs=>hKs _ _ ?_);clear hKs;clear e1 l1;have hr:=QA kt (i+1)
 repeat' first|refine zPw ?_|intro _ _ hs|intro K0 hK0
 first
  | refine wz (gr.up (qc hs)) (gw.up (qc hs)) hpr hro (by omega) ?_
  | refine (wz (gr.up (qc hs)) (gw.up (qc hs)) hpr hro (by omega) ?_).call
 repeat' first|refine zPw ?_|intro _ _ hs|intro K0 hK0|(refine c222 hpa (by omega) (by omega) (fun H2 x y hn=>?_);have hs:=hs.call hn rfl;clear hn)
 exact h _ _ [(blM t _ _ _ _ _,x,y)] [(y,_),(x,_)] (pkH hs [0,1,2]) (MgIn.one (List.mem_cons_of_mem _ List.mem_cons_self) List.mem_cons_self) rfl
end Go.Af.Tryz
namespace Go.Af.Tryz
open Go Go.Proofs Tryz
attribute [local irreducible] awp qj qI qK qE qm isCells ql qi qB qx qh roundEnd

theorem Ui (t:Tk) (i:Int):(parF t i).length=((i+1)*t.pa / t.pr-i*t.pa / t.pr).toNat:=by unfold parF;simp
theorem qc0 (t:Tk) (i:Int) {j:Nat} (h:j<(parF t i).length):(parF t i).take (j+1)=(parF t i).take j ++ [i*t.pa / t.pr+(j:Int)]:=by
 rw[List.take_succ_eq_append_getElem h]
 have e:(parF t i)[j]=i*t.pa / t.pr+(j:Int):=by
  unfold parF at h ⊢;rw[List.getElem_map,List.getElem_range]
 rw[e]
theorem c209 {H:List Blk} {t:Tk} {i:Int} {b c:Nat} {R:Value->List Blk->Prop} (kt:TkOk t) (hi:0<=i/\i<t.pr) (h : ∀ H' k,HS H none' [(true,k,rw' (parF t i))] H' -> R (sv k (parF t i).length) H'):qj prog 209 [tkV t b c, .int .i64 i] H R:=by
 have hpr:=kt.pr;have hpa:=kt.pa;have m1:=zg (x:=i) hpa (by omega);have m2:=zg (x:=i+1) hpa (by omega);have hz:t.pr≠0:=by omega
 have q1:(i*t.pa).tdiv t.pr=i*t.pa / t.pr:=Int.tdiv_eq_ediv_of_nonneg m1.1;have q2:((i+1)*t.pa).tdiv t.pr=(i+1)*t.pa / t.pr:=Int.tdiv_eq_ediv_of_nonneg m2.1;have q3:0<=i*t.pa / t.pr:=Int.ediv_nonneg m1.1 (by omega);have q4:i*t.pa / t.pr<=(i+1)*t.pa / t.pr:=Int.ediv_le_ediv (by omega) (Int.mul_le_mul_of_nonneg_right (by omega) (by omega));have q5:(i+1)*t.pa / t.pr<=100000:=Int.le_trans (Int.ediv_le_self _ m2.1) m2.2;have hlen:=Ui t i;refine avN call209 func209 ntmps209 ?_;refine qo (HS.start H none') (fun H1 b1 e1 l1 hs=>?_);refine qg (fun _ hKs=>hKs _ _ ?_);clear hKs;clear e1 l1;generalize hn:parF t i=xs at h hlen;have htk:=fun j=>@qc0 t i j
 rw[hn] at htk;rw[<- q1] at q3 q4 hlen htk;rw[<- q2] at q4 q5 hlen
 repeat' first|refine zPw ?_|intro _ _ hs|intro K0 hK0
 refine vC (α := List Blk × Nat × Nat) tok (fun z=>HS H none' [(true,z.2.1,rw' (xs.take z.2.2)),(true,b1, .cells true 1 (tkC t b c))] z.1/\z.2.2<=xs.length)
  (fun | ⟨_,k,j⟩=>[(1, .int .i64 i),(2, .pointer (some ⟨b1,0,none⟩)),(5,sv k j),(6, .int .i64 ((i*t.pa).tdiv t.pr+(j:Int)))]) (fun | ⟨H',_,_⟩=>H') (fun z=>xs.length-z.2.2)
  ⟨H1 ++ [rw' []],H1.length,0⟩ ⟨pkH (hs.virt _) [0,1],Nat.zero_le _⟩ ⟨⟨_,rfl, .rfl⟩,⟨_,rfl, .rfl⟩,⟨_,rfl, .nil _⟩,⟨_,rfl,by rw[show (i*t.pa).tdiv t.pr+((0:Nat):Int)=(i*t.pa).tdiv t.pr by omega];exact .rfl⟩,trivial⟩ (WkH.rfl.app _) ?_
 clear hs;rintro ⟨H2,k,j⟩ ⟨hs,hj⟩;dsimp only at hs hj ⊢
 repeat' first|refine zPw ?_|intro _ _ hs|intro K0 hK0
 refine And.intro (fun hc=>?_) (fun hc=>?_)
 ·have hlt:j<xs.length:=by simp at hc;omega
  clear hc;have et:=htk j hlt
  repeat' first|refine zPw ?_|intro _ _ hs|intro K0 hK0
  refine vZ hs 1 (us := [.int .i64 ((i*t.pa).tdiv t.pr+(j:Int))]) rfl (by decide) (hs.get 0 rfl) rfl rfl (by show (ints (xs.take j)).length=j*1;rw[qU,List.length_take];omega) (by show (j+1)*(8+1)<=_;omega) (fun H4 k' e4 l4 hs=>?_)
  repeat' first|refine zPw ?_|intro _ _ hs|intro K0 hK0
  refine⟨⟨H4,k',j+1⟩,⟨?_,hlt⟩,by dsimp only;omega,Or.inl ⟨⟨rfl,rfl,rfl,by rw[show (i*t.pa).tdiv t.pr+((j+1:Nat):Int)=(i*t.pa).tdiv t.pr+(j:Int)+1 by omega];rfl,trivial⟩,rfl⟩⟩;dsimp only;rw[et];have:=pkH hs [1,2] (L' := [(true,k', .cells true 1 (ints (xs.take j) ++ [.int .i64 ((i*t.pa).tdiv t.pr+(j:Int))])),(true,b1, .cells true 1 (tkC t b c))]);rw[show ints (xs.take j) ++ [.int .i64 ((i*t.pa).tdiv t.pr+(j:Int))]=ints (xs.take j ++ [(i*t.pa).tdiv t.pr+(j:Int)]) from (by rw[zi];rfl)] at this;exact this
 ·have hie:j=xs.length:=by simp at hc;omega
  subst hie;rw[List.take_length] at hs
  repeat' first|refine zPw ?_|intro _ _ hs|intro K0 hK0
  exact h H2 k (pkH hs [0])
def MsC (g:Nat) (sw:Bool) (t:Tk) (d:Int->Prop) (mk:Int->Int->Msg):Prop :=
 ∀ {H:List Blk} {b c tb ib:Nat} {wt wi:Bool} {i r:Int} {R:Value->List Blk->Prop},d i->0<=r/\r<t.pr->Gr H t.sz b->Gw H t.ws b c->bget H tb=some (.cells wt 1 (tkC t b c))->bget H ib=some (.cells wi 1 [.int .i64 i]) ->
   (∀ H' x y M,HS H none' (rwM M) H' -> (x,(mk i r).sr)∈M->(y,(mk i r).ds)∈M->R (mgV (mk i r) x y) H')->qj prog g [.int .i64 r,if sw then pM ib else pM tb,if sw then pM tb else pM ib] H R
def yH (t:Tk) (i r:Int):Msg:=⟨r,(r+1) % t.pr,parF t ((r-i) % t.pr),parF t ((r-i) % t.pr),1⟩
theorem m218 {t:Tk} (kt:TkOk t):MsC 218 false t (fun i=>0<=i/\i<t.pr-1) (yH t):=by
 intro H b c tb ib wt wi i r R hd hr gr gw hT hI h;have hpr:=kt.pr;have hro:=kt.ro;have hpa:=kt.pa
 have hne:tb≠ib:=fun e=>by
  have e1:=hT;rw[e,hI] at e1;cases e1
 have hs:HS H none' [(false,tb, .cells wt 1 (tkC t b c)),(false,ib, .cells wi 1 [.int .i64 i])] H:=(adH (HS.start H none') hI).add hT (fun i p hi=>by
  match i,hi with
  | 0,hi=>cases hi;exact hne.symm) (fun e=>by cases e)
 change qj prog 218 [.int .i64 r,pM tb,pM ib] H R;refine avN call218 func218 ntmps218 ?_
 repeat' first|refine zPw ?_|intro _ _ hs|intro K0 hK0
 refine qp tok mx [0,0,0,4,14,0,0,0,0,384,990,2046,4095,8191] [false,false,true,true,true,true,true,true,true,true,true,false,false,false] (.first 0 (.first 1 (.first 2 (.first 3 (.first 5 (.first 6 (.first 7 (.first 8 (.first 9 (.first 4 (.first 10 (.first 11 (.first 12 (.first 13 .done)))))))))))))) (by kernel_rfl) ?_;refine qw (fun K0 hK0=>?_)
 repeat' first|refine zPw ?_|intro _ _ hs|intro K0 hK0
 first
  | refine zq (gr.up (qc hs)) (gw.up (qc hs)) hpr (by omega) ?_
  | refine (zq (gr.up (qc hs)) (gw.up (qc hs)) hpr (by omega) ?_).call
 repeat' first|refine zPw ?_|intro _ _ hs|intro K0 hK0
 first
  | refine zq (gr.up (qc hs)) (gw.up (qc hs)) hpr (by omega) ?_
  | refine (zq (gr.up (qc hs)) (gw.up (qc hs)) hpr (by omega) ?_).call
 repeat' first|refine zPw ?_|intro _ _ hs|intro K0 hK0
 skip;refine c209 kt (wO kt _) (fun H2 k hn=>?_);have hs:=hs.call hn rfl;clear hn
 repeat' first|refine zPw ?_|intro _ _ hs|intro K0 hK0|refine c200 rfl (kNo hs (fun H3 hs=>?_))
 change resK T _ _ _ _;refine vV (by rfl) (by rfl) (hs.get 1 rfl) (by rfl) ?_;refine⟨_,rfl,_,rfl,_,rfl,_,rfl,_,rfl, ?_⟩;exact h _ k k [(k,_)] (pkH hs [0]) (List.mem_singleton.2 rfl) (List.mem_singleton.2 rfl)
def yD (t:Tk) (i r:Int):Msg:=⟨r,(r+1) % t.pr,parF t ((r+1-i) % t.pr),parF t ((r+1-i) % t.pr),0⟩
theorem m220 {t:Tk} (kt:TkOk t):MsC 220 false t (fun i=>0<=i/\i<t.pr-1) (yD t):=by
 intro H b c tb ib wt wi i r R hd hr gr gw hT hI h;have hpr:=kt.pr;have hro:=kt.ro;have hpa:=kt.pa
 have hne:tb≠ib:=fun e=>by
  have e1:=hT;rw[e,hI] at e1;cases e1
 have hs:HS H none' [(false,tb, .cells wt 1 (tkC t b c)),(false,ib, .cells wi 1 [.int .i64 i])] H:=(adH (HS.start H none') hI).add hT (fun i p hi=>by
  match i,hi with
  | 0,hi=>cases hi;exact hne.symm) (fun e=>by cases e)
 change qj prog 220 [.int .i64 r,pM tb,pM ib] H R;refine avN call220 func220 ntmps220 ?_
 repeat' first|refine zPw ?_|intro _ _ hs|intro K0 hK0
 refine qp tok mx [0,0,0,4,14,0,0,0,128,0,896,2014,4094,8191,16383] [false,false,true,true,true,true,true,true,true,true,true,true,false,false,false] (.first 0 (.first 1 (.first 2 (.first 3 (.first 5 (.first 6 (.first 7 (.first 8 (.first 9 (.first 10 (.first 4 (.first 11 (.first 12 (.first 13 (.first 14 .done))))))))))))))) (by kernel_rfl) ?_;refine qw (fun K0 hK0=>?_)
 repeat' first|refine zPw ?_|intro _ _ hs|intro K0 hK0
 first
  | refine zq (gr.up (qc hs)) (gw.up (qc hs)) hpr (by omega) ?_
  | refine (zq (gr.up (qc hs)) (gw.up (qc hs)) hpr (by omega) ?_).call
 repeat' first|refine zPw ?_|intro _ _ hs|intro K0 hK0
 first
  | refine zq (gr.up (qc hs)) (gw.up (qc hs)) hpr (by omega) ?_
  | refine (zq (gr.up (qc hs)) (gw.up (qc hs)) hpr (by omega) ?_).call
 repeat' first|refine zPw ?_|intro _ _ hs|intro K0 hK0
 skip;refine c209 kt (wO kt _) (fun H2 k hn=>?_);have hs:=hs.call hn rfl;clear hn
 repeat' first|refine zPw ?_|intro _ _ hs|intro K0 hK0|refine c200 rfl (kNo hs (fun H3 hs=>?_))
 change resK T _ _ _ _;refine vV (by rfl) (by rfl) (hs.get 1 rfl) (by rfl) ?_;refine⟨_,rfl,_,rfl,_,rfl,_,rfl,_,rfl, ?_⟩;exact h _ k k [(k,_)] (pkH hs [0]) (List.mem_singleton.2 rfl) (List.mem_singleton.2 rfl)
def uP (t:Tk) (i r:Int):Msg:=⟨relF t r,relF t (r+1),parF t ((r-i) % t.pr),parF t ((r-i) % t.pr),0⟩
theorem m208 {t:Tk} (kt:TkOk t):MsC 208 false t (fun i=>0<=i/\i<t.pr-1) (uP t):=by
 intro H b c tb ib wt wi i r R hd hr gr gw hT hI h;have hpr:=kt.pr;have hro:=kt.ro;have hpa:=kt.pa
 have hne:tb≠ib:=fun e=>by
  have e1:=hT;rw[e,hI] at e1;cases e1
 have hs:HS H none' [(false,tb, .cells wt 1 (tkC t b c)),(false,ib, .cells wi 1 [.int .i64 i])] H:=(adH (HS.start H none') hI).add hT (fun i p hi=>by
  match i,hi with
  | 0,hi=>cases hi;exact hne.symm) (fun e=>by cases e)
 change qj prog 208 [.int .i64 r,pM tb,pM ib] H R;refine avN call208 func208 ntmps208 ?_
 repeat' first|refine zPw ?_|intro _ _ hs|intro K0 hK0
 refine qp tok mx [0,0,3,0,0,16,63,0,0,0,0,1536,3967,8191,16383,32767] [false,true,true,true,true,true,true,true,true,true,true,true,true,false,false,false] (.first 0 (.first 1 (.first 3 (.first 4 (.first 5 (.first 7 (.first 8 (.first 9 (.first 10 (.first 11 (.first 2 (.first 6 (.first 12 (.first 13 (.first 14 (.first 15 .done)))))))))))))))) (by kernel_rfl) ?_;refine qw (fun K0 hK0=>?_)
 repeat' first|refine zPw ?_|intro _ _ hs|intro K0 hK0
 first
  | refine wz (gr.up (qc hs)) (gw.up (qc hs)) hpr hro (by omega) ?_
  | refine (wz (gr.up (qc hs)) (gw.up (qc hs)) hpr hro (by omega) ?_).call
 repeat' first|refine zPw ?_|intro _ _ hs|intro K0 hK0
 first
  | refine wz (gr.up (qc hs)) (gw.up (qc hs)) hpr hro (by omega) ?_
  | refine (wz (gr.up (qc hs)) (gw.up (qc hs)) hpr hro (by omega) ?_).call
 repeat' first|refine zPw ?_|intro _ _ hs|intro K0 hK0
 first
  | refine zq (gr.up (qc hs)) (gw.up (qc hs)) hpr (by omega) ?_
  | refine (zq (gr.up (qc hs)) (gw.up (qc hs)) hpr (by omega) ?_).call
 refine c209 kt (wO kt _) (fun H2 k hn=>?_);have hs:=hs.call hn rfl;clear hn
 repeat' first|refine zPw ?_|intro _ _ hs|intro K0 hK0|refine c200 rfl (kNo hs (fun H3 hs=>?_))
 change resK T _ _ _ _;refine vV (by rfl) (by rfl) (hs.get 1 rfl) (by rfl) ?_;refine⟨_,rfl,_,rfl,_,rfl,_,rfl,_,rfl, ?_⟩;exact h _ k k [(k,_)] (pkH hs [0]) (List.mem_singleton.2 rfl) (List.mem_singleton.2 rfl)
def Qr (t:Tk) (i r:Int):Msg:=blM t r ((r+1) % t.pr) ((r-i) % t.pr) ((r-i) % t.pr) 0
theorem m225 {t:Tk} (kt:TkOk t):MsC 225 false t (fun i=>0<=i/\i<t.pr-1) (Qr t):=by
 intro H b c tb ib wt wi i r R hd hr gr gw hT hI h;have hpr:=kt.pr;have hro:=kt.ro;have hpa:=kt.pa
 have hne:tb≠ib:=fun e=>by
  have e1:=hT;rw[e,hI] at e1;cases e1
 have hs:HS H none' [(false,tb, .cells wt 1 (tkC t b c)),(false,ib, .cells wi 1 [.int .i64 i])] H:=(adH (HS.start H none') hI).add hT (fun i p hi=>by
  match i,hi with
  | 0,hi=>cases hi;exact hne.symm) (fun e=>by cases e)
 change qj prog 225 [.int .i64 r,pM tb,pM ib] H R;refine avN call225 func225 ntmps225 ?_;have hm:=wO kt (r-i)
 repeat' first|refine zPw ?_|intro _ _ hs|intro K0 hK0
 refine qp tok mx [0,0,0,0,8,28,0,0,0,384,1020,0,0,0,12288,32764,65535,131071] [false,true,true,true,true,true,true,true,true,true,true,true,true,true,true,true,false,false] (.first 0 (.first 1 (.first 2 (.first 3 (.first 4 (.first 6 (.first 7 (.first 8 (.first 9 (.first 11 (.first 12 (.first 13 (.first 14 (.first 5 (.first 10 (.first 15 (.first 16 (.first 17 .done)))))))))))))))))) (by kernel_rfl) ?_;refine qw (fun K0 hK0=>?_)
 repeat' first|refine zPw ?_|intro _ _ hs|intro K0 hK0
 first
  | refine zq (gr.up (qc hs)) (gw.up (qc hs)) hpr (by omega) ?_
  | refine (zq (gr.up (qc hs)) (gw.up (qc hs)) hpr (by omega) ?_).call
 repeat' first|refine zPw ?_|intro _ _ hs|intro K0 hK0
 first
  | refine zq (gr.up (qc hs)) (gw.up (qc hs)) hpr (by omega) ?_
  | refine (zq (gr.up (qc hs)) (gw.up (qc hs)) hpr (by omega) ?_).call
 repeat' first|refine zPw ?_|intro _ _ hs|intro K0 hK0
 first
  | refine zq (gr.up (qc hs)) (gw.up (qc hs)) hpr (by omega) ?_
  | refine (zq (gr.up (qc hs)) (gw.up (qc hs)) hpr (by omega) ?_).call
 repeat' first|refine zPw ?_|intro _ _ hs|intro K0 hK0|(refine c222 hpa (by omega) (by omega) (fun H2 x y hn=>?_);have hs:=hs.call hn rfl;clear hn)
 change resK T _ _ _ _;refine vV (by rfl) (by rfl) (hs.get 2 rfl) (by rfl) ?_;refine⟨_,rfl,_,rfl,_,rfl,_,rfl,_,rfl, ?_⟩;exact h _ x y [(y,_),(x,_)] (pkH hs [0,1]) (List.mem_cons_of_mem _ List.mem_cons_self) List.mem_cons_self
def Qq (t:Tk) (i r:Int):Msg:=blM t r ((r+1) % t.pr) ((r-i-1) % t.pr) ((r-i-1) % t.pr) 1
theorem m238 {t:Tk} (kt:TkOk t):MsC 238 false t (fun i=>0<=i/\i<t.pr-1) (Qq t):=by
 intro H b c tb ib wt wi i r R hd hr gr gw hT hI h;have hpr:=kt.pr;have hro:=kt.ro;have hpa:=kt.pa
 have hne:tb≠ib:=fun e=>by
  have e1:=hT;rw[e,hI] at e1;cases e1
 have hs:HS H none' [(false,tb, .cells wt 1 (tkC t b c)),(false,ib, .cells wi 1 [.int .i64 i])] H:=(adH (HS.start H none') hI).add hT (fun i p hi=>by
  match i,hi with
  | 0,hi=>cases hi;exact hne.symm) (fun e=>by cases e)
 change qj prog 238 [.int .i64 r,pM tb,pM ib] H R;refine avN call238 func238 ntmps238 ?_;have hm:=wO kt (r-i-1)
 repeat' first|refine zPw ?_|intro _ _ hs|intro K0 hK0
 refine qp tok mx [0,0,0,0,8,28,0,0,0,384,896,2044,0,0,0,24576,57344,131068,262143,524287] [false,true,true,true,true,true,true,true,true,true,true,true,true,true,true,true,true,true,false,false] (.first 0 (.first 1 (.first 2 (.first 3 (.first 4 (.first 6 (.first 7 (.first 8 (.first 9 (.first 10 (.first 12 (.first 13 (.first 14 (.first 15 (.first 16 (.first 5 (.first 11 (.first 17 (.first 18 (.first 19 .done)))))))))))))))))))) (by kernel_rfl) ?_;refine qw (fun K0 hK0=>?_)
 repeat' first|refine zPw ?_|intro _ _ hs|intro K0 hK0
 first
  | refine zq (gr.up (qc hs)) (gw.up (qc hs)) hpr (by omega) ?_
  | refine (zq (gr.up (qc hs)) (gw.up (qc hs)) hpr (by omega) ?_).call
 repeat' first|refine zPw ?_|intro _ _ hs|intro K0 hK0
 first
  | refine zq (gr.up (qc hs)) (gw.up (qc hs)) hpr (by omega) ?_
  | refine (zq (gr.up (qc hs)) (gw.up (qc hs)) hpr (by omega) ?_).call
 repeat' first|refine zPw ?_|intro _ _ hs|intro K0 hK0
 first
  | refine zq (gr.up (qc hs)) (gw.up (qc hs)) hpr (by omega) ?_
  | refine (zq (gr.up (qc hs)) (gw.up (qc hs)) hpr (by omega) ?_).call
 repeat' first|refine zPw ?_|intro _ _ hs|intro K0 hK0|(refine c222 hpa (by omega) (by omega) (fun H2 x y hn=>?_);have hs:=hs.call hn rfl;clear hn)
 change resK T _ _ _ _;refine vV (by rfl) (by rfl) (hs.get 2 rfl) (by rfl) ?_;refine⟨_,rfl,_,rfl,_,rfl,_,rfl,_,rfl, ?_⟩;exact h _ x y [(y,_),(x,_)] (pkH hs [0,1]) (List.mem_cons_of_mem _ List.mem_cons_self) List.mem_cons_self
def Qp (t:Tk) (i r:Int):Msg:=blM t r ((r+i+1) % t.pr) ((r+i+1) % t.pr) ((r+i+1) % t.pr) 2
theorem m239 {t:Tk} (kt:TkOk t):MsC 239 false t (fun i=>0<=i/\i<t.pr-1) (Qp t):=by
 intro H b c tb ib wt wi i r R hd hr gr gw hT hI h;have hpr:=kt.pr;have hro:=kt.ro;have hpa:=kt.pa
 have hne:tb≠ib:=fun e=>by
  have e1:=hT;rw[e,hI] at e1;cases e1
 have hs:HS H none' [(false,tb, .cells wt 1 (tkC t b c)),(false,ib, .cells wi 1 [.int .i64 i])] H:=(adH (HS.start H none') hI).add hT (fun i p hi=>by
  match i,hi with
  | 0,hi=>cases hi;exact hne.symm) (fun e=>by cases e)
 change qj prog 239 [.int .i64 r,pM tb,pM ib] H R;refine avN call239 func239 ntmps239 ?_;have hm:=wO kt (r+i+1)
 repeat' first|refine zPw ?_|intro _ _ hs|intro K0 hK0
 first
  | refine zq (gr.up (qc hs)) (gw.up (qc hs)) hpr (by omega) ?_
  | refine (zq (gr.up (qc hs)) (gw.up (qc hs)) hpr (by omega) ?_).call
 repeat' first|refine zPw ?_|intro _ _ hs|intro K0 hK0|(refine c222 hpa (by omega) (by omega) (fun H2 x y hn=>?_);have hs:=hs.call hn rfl;clear hn)
 change resK T _ _ _ _;refine vV (by rfl) (by rfl) (hs.get 2 rfl) (by rfl) ?_;refine⟨_,rfl,_,rfl,_,rfl,_,rfl,_,rfl, ?_⟩;exact h _ x y [(y,_),(x,_)] (pkH hs [0,1]) (List.mem_cons_of_mem _ List.mem_cons_self) List.mem_cons_self
def Qn (t:Tk) (i r:Int):Msg:=smM t r ((r+i) % t.pr) 2
theorem m243 {t:Tk} (kt:TkOk t):MsC 243 false t (dPw t) (Qn t):=by
 intro H b c tb ib wt wi i r R hd hr gr gw hT hI h;have hpr:=kt.pr;have hro:=kt.ro;have hpa:=kt.pa
 have hne:tb≠ib:=fun e=>by
  have e1:=hT;rw[e,hI] at e1;cases e1
 have hs:HS H none' [(false,tb, .cells wt 1 (tkC t b c)),(false,ib, .cells wi 1 [.int .i64 i])] H:=(adH (HS.start H none') hI).add hT (fun i p hi=>by
  match i,hi with
  | 0,hi=>cases hi;exact hne.symm) (fun e=>by cases e)
 change qj prog 243 [.int .i64 r,pM tb,pM ib] H R;refine avN call243 func243 ntmps243 ?_;obtain ⟨hd1,hd2,_⟩:=hd
 repeat' first|refine zPw ?_|intro _ _ hs|intro K0 hK0
 refine qp tok mx [0,0,0,0,12,30,0,126,255,511] [false,false,true,true,true,true,true,false,false,false] (.first 0 (.first 1 (.first 2 (.first 3 (.first 4 (.first 6 (.first 5 (.first 7 (.first 8 (.first 9 .done)))))))))) (by kernel_rfl) ?_;refine qw (fun K0 hK0=>?_)
 repeat' first|refine zPw ?_|intro _ _ hs|intro K0 hK0
 first
  | refine zq (gr.up (qc hs)) (gw.up (qc hs)) hpr (by omega) ?_
  | refine (zq (gr.up (qc hs)) (gw.up (qc hs)) hpr (by omega) ?_).call
 repeat' first|refine zPw ?_|intro _ _ hs|intro K0 hK0|(refine c202 hpa (fun H2 k hn=>?_);have hs:=hs.call hn rfl;clear hn)|refine c200 rfl (kNo hs (fun H3 hs=>?_))
 change resK T _ _ _ _;refine vV (by rfl) (by rfl) (hs.get 1 rfl) (by rfl) ?_;refine⟨_,rfl,_,rfl,_,rfl,_,rfl,_,rfl, ?_⟩;exact h _ k k [(k,_)] (pkH hs [0]) (List.mem_singleton.2 rfl) (List.mem_singleton.2 rfl)
def xorF (a b:Int):Int:=IntKind.i64.wrap ((BitVec.ofInt IntKind.i64.bits a ^^^ BitVec.ofInt IntKind.i64.bits b).toNat:Int)
theorem yO {r i:Int} (h0:0<=r) (h1:1<=i):r.tdiv i=r / i/\0<=r.tdiv i*i/\r.tdiv i*i<=r/\0<=r.tdiv i/\r.tdiv i<=r:=by
 have e:r.tdiv i=r / i:=Int.tdiv_eq_ediv_of_nonneg h0;rw[e];have a:=Int.ediv_nonneg h0 (show 0<=i by omega);exact⟨rfl,Int.mul_nonneg a (by omega),Int.ediv_mul_le r (by omega),a,Int.ediv_le_self _ h0⟩
def yG (t:Tk) (i r:Int):Msg:=⟨r,xorF r i,spnF t (r / i*i) (r / i*i+i),spnF t (r / i*i) (r / i*i+i),0⟩
theorem m227 {t:Tk} (kt:TkOk t):MsC 227 false t (dPw t) (yG t):=by
 intro H b c tb ib wt wi i r R hd hr gr gw hT hI h;have hpr:=kt.pr;have hro:=kt.ro;have hpa:=kt.pa
 have hne:tb≠ib:=fun e=>by
  have e1:=hT;rw[e,hI] at e1;cases e1
 have hs:HS H none' [(false,tb, .cells wt 1 (tkC t b c)),(false,ib, .cells wi 1 [.int .i64 i])] H:=(adH (HS.start H none') hI).add hT (fun i p hi=>by
  match i,hi with
  | 0,hi=>cases hi;exact hne.symm) (fun e=>by cases e)
 change qj prog 227 [.int .i64 r,pM tb,pM ib] H R;refine avN call227 func227 ntmps227 ?_;obtain ⟨hd1,hd2,_⟩:=hd;have hq:=yO hr.1 hd1;have hz:i≠0:=by omega
 have m1:=zg (x:=r.tdiv i*i+i) hpa (by omega);unfold yG at h;rw[<- hq.1] at h
 repeat' first|refine zPw ?_|intro _ _ hs|intro K0 hK0
 refine qp tok mx [0,0,0,6,0,30,0,0,192,0,960,0,4032,8191,16383] [false,true,true,true,true,true,true,true,true,true,true,true,true,false,false] (.first 0 (.first 1 (.first 2 (.first 3 (.first 4 (.first 5 (.first 6 (.first 7 (.first 8 (.first 9 (.first 10 (.first 11 (.first 12 (.first 13 (.first 14 .done))))))))))))))) (by kernel_rfl) ?_;refine qw (fun K0 hK0=>?_)
 repeat' first|refine zPw ?_|intro _ _ hs|intro K0 hK0|(refine c157 (by omega) (by omega) m1 (by omega) (fun H2 k hn=>?_);have hs:=hs.call hn rfl;clear hn)|refine c200 rfl (kNo hs (fun H3 hs=>?_))
 change resK T _ _ _ _;refine vV (by rfl) (by rfl) (hs.get 1 rfl) (by rfl) ?_;refine⟨_,rfl,_,rfl,_,rfl,_,rfl,_,rfl, ?_⟩;exact h _ k k [(k,_)] (pkH hs [0]) (List.mem_singleton.2 rfl) (List.mem_singleton.2 rfl)
theorem xx {a b:Int} (ha:0<=a/\a<64) (hb:0<=b/\b<64):xorF a b=((a.toNat ^^^ b.toNat:Nat):Int)/\0<=xorF a b/\xorF a b<64:=by
 obtain ⟨m,rfl⟩ : ∃ m:Nat,a=m:=⟨a.toNat,by omega⟩;obtain ⟨n,rfl⟩ : ∃ n:Nat,b=n:=⟨b.toNat,by omega⟩;have hx:m ^^^ n<64:=Nat.xor_lt_two_pow (n:=6) (by omega) (by omega)
 have e:xorF m n=((m ^^^ n:Nat):Int):=by
  unfold xorF
  have hm:(BitVec.ofInt IntKind.i64.bits (m:Int)).toNat=m:=by
   rw[BitVec.toNat_ofInt];show ((m:Int) % (2 ^ 64:Nat)).toNat=m;omega
  have hn:(BitVec.ofInt IntKind.i64.bits (n:Int)).toNat=n:=by
   rw[BitVec.toNat_ofInt];show ((n:Int) % (2 ^ 64:Nat)).toNat=n;omega
  rw[BitVec.toNat_xor,hm,hn];exact wrap_i64 (by unfold I64;omega)
 rw[e];refine⟨by simp,by omega,by omega⟩
def Qo (t:Tk) (i r:Int):Msg:=⟨r,xorF r i,spnF t (xorF r i / i*i) (xorF r i / i*i+i),spnF t (xorF r i / i*i) (xorF r i / i*i+i),sidF r (xorF r i)⟩
theorem m241 {t:Tk} (kt:TkOk t):MsC 241 true t (fun i=>1<=i/\i<64) (Qo t):=by
 intro H b c tb ib wt wi i r R hd hr gr gw hT hI h;have hpr:=kt.pr;have hro:=kt.ro;have hpa:=kt.pa
 have hne:tb≠ib:=fun e=>by
  have e1:=hT;rw[e,hI] at e1;cases e1
 have hs:HS H none' [(false,tb, .cells wt 1 (tkC t b c)),(false,ib, .cells wi 1 [.int .i64 i])] H:=(adH (HS.start H none') hI).add hT (fun i p hi=>by
  match i,hi with
  | 0,hi=>cases hi;exact hne.symm) (fun e=>by cases e)
 change qj prog 241 [.int .i64 r,pM ib,pM tb] H R;refine avN call241 func241 ntmps241 ?_;obtain ⟨hd1,hd2⟩:=hd;have hx:=xx (a:=r) (b:=i) (by omega) (by omega);unfold Qo at h;obtain ⟨s,hse⟩ : ∃ s,xorF r i=s:=⟨_,rfl⟩;rw[hse] at h hx;unfold xorF at hse;have hq:=yO hx.2.1 hd1;have hz:i≠0:=by omega
 have m1:=zg (x:=s.tdiv i*i+i) hpa (by omega);rw[<- hq.1] at h
 repeat' first|refine zPw ?_|intro _ _ hs|intro K0 hK0
 rw[hse];refine qp tok mx [0,0,0,0,0,24,0,120,0,0,768,0,3840,0,16128,32764,0,0,262140,524287,1048575] [false,false,false,true,true,true,true,true,true,true,true,true,true,true,true,false,true,true,false,false,false] (.first 0 (.first 1 (.first 2 (.first 3 (.first 4 (.first 5 (.first 6 (.first 7 (.first 8 (.first 9 (.first 10 (.first 11 (.first 12 (.first 13 (.first 14 (.first 16 (.first 17 (.first 15 (.first 18 (.first 19 (.first 20 .done))))))))))))))))))))) (by kernel_rfl) ?_;refine qw (fun K0 hK0=>?_)
 repeat' first|refine zPw ?_|intro _ _ hs|intro K0 hK0|(refine c157 (by omega) (by omega) m1 (by omega) (fun H2 k hn=>?_);have hs:=hs.call hn rfl;clear hn)|refine c216 ?_|refine c200 rfl (kNo hs (fun H3 hs=>?_))
 change resK T _ _ _ _;refine vV (by rfl) (by rfl) (hs.get 1 rfl) (by rfl) ?_;refine⟨_,rfl,_,rfl,_,rfl,_,rfl,_,rfl, ?_⟩;exact h _ k k [(k,_)] (pkH hs [0]) (List.mem_singleton.2 rfl) (List.mem_singleton.2 rfl)
end Go.Af.Tryz
namespace Go.Af.Tryz
open Go Go.Proofs Tryz
attribute [local irreducible] awp qj qI qK qE qm isCells ql qi qB qx qh roundEnd

def evF (t:Tk) (mk:Int->Int->Msg) (i:Int):List Msg:=(List.range t.pr.toNat).map (fun r:Nat=>mk i (r:Int))
theorem zO {e:Bool × Nat × Blk} (he:e.1=true) (M:List (Nat × List Int)):(e::rwM M).all (fun p=>p.1)=true:=by simp[rwM,he]
theorem mk_217 {t:Tk} (kt:TkOk t):MkV 217 t (fun i=>0<=i/\i<t.pr-1) (evF t (yH t)):=by
 intro H b c i R hd gr gw h;refine avN call217 func217 ntmps217 ?_;refine qo (HS.start H none') (fun H1 b1 e1 l1 hs=>?_);refine qo hs (fun H2 b2 e2 l2 hs=>?_);refine qg (fun _ hKs=>hKs _ _ ?_);clear hKs;clear e1 l1 e2 l2
 repeat' first|refine zRw ?_|intro _ _ hs|intro K0 hK0|(refine hK0 _ _ ?_;clear hK0)
 refine c207 kt.pr (mk:=fun r=>yH t i r) (fun H3 R' r hr hn hk=>m218 kt hd hr ((gr.up (qc hs)).up hn) ((gw.up (qc hs)).up hn) (vz hn (hs.get 1 rfl)) (vz hn (hs.get 0 rfl)) hk) (fun H3 k E M hn hin hE=>?_);have hs:=hs.call hn (zO rfl _);clear hn
 repeat' first|refine zRw ?_|intro _ _ hs|intro K0 hK0|(refine hK0 _ _ ?_;clear hK0)
 exact h _ k E M (hs.left (L:=_::rwM M)) hin hE
theorem mk_219 {t:Tk} (kt:TkOk t):MkV 219 t (fun i=>0<=i/\i<t.pr-1) (evF t (yD t)):=by
 intro H b c i R hd gr gw h;refine avN call219 func219 ntmps219 ?_;refine qo (HS.start H none') (fun H1 b1 e1 l1 hs=>?_);refine qo hs (fun H2 b2 e2 l2 hs=>?_);refine qg (fun _ hKs=>hKs _ _ ?_);clear hKs;clear e1 l1 e2 l2
 repeat' first|refine zRw ?_|intro _ _ hs|intro K0 hK0|(refine hK0 _ _ ?_;clear hK0)
 refine c207 kt.pr (mk:=fun r=>yD t i r) (fun H3 R' r hr hn hk=>m220 kt hd hr ((gr.up (qc hs)).up hn) ((gw.up (qc hs)).up hn) (vz hn (hs.get 1 rfl)) (vz hn (hs.get 0 rfl)) hk) (fun H3 k E M hn hin hE=>?_);have hs:=hs.call hn (zO rfl _);clear hn
 repeat' first|refine zRw ?_|intro _ _ hs|intro K0 hK0|(refine hK0 _ _ ?_;clear hK0)
 exact h _ k E M (hs.left (L:=_::rwM M)) hin hE
theorem mk_206 {t:Tk} (kt:TkOk t):MkV 206 t (fun i=>0<=i/\i<t.pr-1) (evF t (uP t)):=by
 intro H b c i R hd gr gw h;refine avN call206 func206 ntmps206 ?_;refine qo (HS.start H none') (fun H1 b1 e1 l1 hs=>?_);refine qo hs (fun H2 b2 e2 l2 hs=>?_);refine qg (fun _ hKs=>hKs _ _ ?_);clear hKs;clear e1 l1 e2 l2
 repeat' first|refine zRw ?_|intro _ _ hs|intro K0 hK0|(refine hK0 _ _ ?_;clear hK0)
 refine c207 kt.pr (mk:=fun r=>uP t i r) (fun H3 R' r hr hn hk=>m208 kt hd hr ((gr.up (qc hs)).up hn) ((gw.up (qc hs)).up hn) (vz hn (hs.get 1 rfl)) (vz hn (hs.get 0 rfl)) hk) (fun H3 k E M hn hin hE=>?_);have hs:=hs.call hn (zO rfl _);clear hn
 repeat' first|refine zRw ?_|intro _ _ hs|intro K0 hK0|(refine hK0 _ _ ?_;clear hK0)
 exact h _ k E M (hs.left (L:=_::rwM M)) hin hE
theorem mk_125 {t:Tk} (kt:TkOk t):MkV 125 t (fun i=>0<=i/\i<t.pr-1) (evF t (Qr t)):=by
 intro H b c i R hd gr gw h;refine avN call125 func125 ntmps125 ?_;refine qo (HS.start H none') (fun H1 b1 e1 l1 hs=>?_);refine qo hs (fun H2 b2 e2 l2 hs=>?_);refine qg (fun _ hKs=>hKs _ _ ?_);clear hKs;clear e1 l1 e2 l2
 repeat' first|refine zRw ?_|intro _ _ hs|intro K0 hK0|(refine hK0 _ _ ?_;clear hK0)
 refine c207 kt.pr (mk:=fun r=>Qr t i r) (fun H3 R' r hr hn hk=>m225 kt hd hr ((gr.up (qc hs)).up hn) ((gw.up (qc hs)).up hn) (vz hn (hs.get 1 rfl)) (vz hn (hs.get 0 rfl)) hk) (fun H3 k E M hn hin hE=>?_);have hs:=hs.call hn (zO rfl _);clear hn
 repeat' first|refine zRw ?_|intro _ _ hs|intro K0 hK0|(refine hK0 _ _ ?_;clear hK0)
 exact h _ k E M (hs.left (L:=_::rwM M)) hin hE
theorem mk_131 {t:Tk} (kt:TkOk t):MkV 131 t (fun i=>0<=i/\i<t.pr-1) (evF t (Qq t)):=by
 intro H b c i R hd gr gw h;refine avN call131 func131 ntmps131 ?_;refine qo (HS.start H none') (fun H1 b1 e1 l1 hs=>?_);refine qo hs (fun H2 b2 e2 l2 hs=>?_);refine qg (fun _ hKs=>hKs _ _ ?_);clear hKs;clear e1 l1 e2 l2
 repeat' first|refine zRw ?_|intro _ _ hs|intro K0 hK0|(refine hK0 _ _ ?_;clear hK0)
 refine c207 kt.pr (mk:=fun r=>Qq t i r) (fun H3 R' r hr hn hk=>m238 kt hd hr ((gr.up (qc hs)).up hn) ((gw.up (qc hs)).up hn) (vz hn (hs.get 1 rfl)) (vz hn (hs.get 0 rfl)) hk) (fun H3 k E M hn hin hE=>?_);have hs:=hs.call hn (zO rfl _);clear hn
 repeat' first|refine zRw ?_|intro _ _ hs|intro K0 hK0|(refine hK0 _ _ ?_;clear hK0)
 exact h _ k E M (hs.left (L:=_::rwM M)) hin hE
theorem mk_132 {t:Tk} (kt:TkOk t):MkV 132 t (fun i=>0<=i/\i<t.pr-1) (evF t (Qp t)):=by
 intro H b c i R hd gr gw h;refine avN call132 func132 ntmps132 ?_;refine qo (HS.start H none') (fun H1 b1 e1 l1 hs=>?_);refine qo hs (fun H2 b2 e2 l2 hs=>?_);refine qg (fun _ hKs=>hKs _ _ ?_);clear hKs;clear e1 l1 e2 l2
 repeat' first|refine zRw ?_|intro _ _ hs|intro K0 hK0|(refine hK0 _ _ ?_;clear hK0)
 refine c207 kt.pr (mk:=fun r=>Qp t i r) (fun H3 R' r hr hn hk=>m239 kt hd hr ((gr.up (qc hs)).up hn) ((gw.up (qc hs)).up hn) (vz hn (hs.get 1 rfl)) (vz hn (hs.get 0 rfl)) hk) (fun H3 k E M hn hin hE=>?_);have hs:=hs.call hn (zO rfl _);clear hn
 repeat' first|refine zRw ?_|intro _ _ hs|intro K0 hK0|(refine hK0 _ _ ?_;clear hK0)
 exact h _ k E M (hs.left (L:=_::rwM M)) hin hE
theorem mk_226 {t:Tk} (kt:TkOk t):MkV 226 t (dPw t) (evF t (yG t)):=by
 intro H b c i R hd gr gw h;refine avN call226 func226 ntmps226 ?_;refine qo (HS.start H none') (fun H1 b1 e1 l1 hs=>?_);refine qo hs (fun H2 b2 e2 l2 hs=>?_);refine qg (fun _ hKs=>hKs _ _ ?_);clear hKs;clear e1 l1 e2 l2
 repeat' first|refine zRw ?_|intro _ _ hs|intro K0 hK0|(refine hK0 _ _ ?_;clear hK0)
 refine c207 kt.pr (mk:=fun r=>yG t i r) (fun H3 R' r hr hn hk=>m227 kt hd hr ((gr.up (qc hs)).up hn) ((gw.up (qc hs)).up hn) (vz hn (hs.get 1 rfl)) (vz hn (hs.get 0 rfl)) hk) (fun H3 k E M hn hin hE=>?_);have hs:=hs.call hn (zO rfl _);clear hn
 repeat' first|refine zRw ?_|intro _ _ hs|intro K0 hK0|(refine hK0 _ _ ?_;clear hK0)
 exact h _ k E M (hs.left (L:=_::rwM M)) hin hE
theorem mk_242 {t:Tk} (kt:TkOk t):MkV 242 t (dPw t) (evF t (Qn t)):=by
 intro H b c i R hd gr gw h;refine avN call242 func242 ntmps242 ?_;refine qo (HS.start H none') (fun H1 b1 e1 l1 hs=>?_);refine qo hs (fun H2 b2 e2 l2 hs=>?_);refine qg (fun _ hKs=>hKs _ _ ?_);clear hKs;clear e1 l1 e2 l2
 repeat' first|refine zRw ?_|intro _ _ hs|intro K0 hK0|(refine hK0 _ _ ?_;clear hK0)
 refine c207 kt.pr (mk:=fun r=>Qn t i r) (fun H3 R' r hr hn hk=>m243 kt hd hr ((gr.up (qc hs)).up hn) ((gw.up (qc hs)).up hn) (vz hn (hs.get 1 rfl)) (vz hn (hs.get 0 rfl)) hk) (fun H3 k E M hn hin hE=>?_);have hs:=hs.call hn (zO rfl _);clear hn
 repeat' first|refine zRw ?_|intro _ _ hs|intro K0 hK0|(refine hK0 _ _ ?_;clear hK0)
 exact h _ k E M (hs.left (L:=_::rwM M)) hin hE
def cycF (t:Tk) (i r:Int) (n:Nat):List Int:=(List.range n).flatMap (fun j:Nat=>spnF t ((r+j) % t.pr) ((r+j) % t.pr+1))
theorem XI (t:Tk) (i r:Int) (n:Nat):cycF t i r (n+1)=cycF t i r n++spnF t ((r+n) % t.pr) ((r+n) % t.pr+1):=by
 unfold cycF;rw[List.range_succ,List.flatMap_append];simp
theorem yS {t:Tk} (hpa:1<=t.pa) (x:Int):(spnF t x (x+1)).length=t.pa.toNat:=by
 rw[yR];have:(x+1)*t.pa-x*t.pa=t.pa:=by rw[Int.add_mul];omega
 rw[this]
theorem Uu {t:Tk} (hpa:1<=t.pa) (i r:Int) : ∀ n:Nat,(cycF t i r n).length=n*t.pa.toNat
 | 0=>by simp[cycF]
 | n+1=>by rw[XI,List.length_append,Uu hpa i r n,yS hpa,Nat.add_mul];omega
def brkN (t:Tk) (i:Int):Nat:=(min i (t.pr-i)).toNat
def yC (t:Tk) (i r:Int):Msg:=⟨r,(r-i) % t.pr,cycF t i r (brkN t i),cycF t i r (brkN t i),0⟩
theorem m229 {t:Tk} (kt:TkOk t):MsC 229 true t (dPw t) (yC t):=by
 intro H b c tb ib wt wi i r R hd hr gr gw hT hI h;have hpr:=kt.pr;have hro:=kt.ro;have hpa:=kt.pa
 have hne:tb≠ib:=fun e=>by
  have e1:=hT;rw[e,hI] at e1;cases e1
 have hs:HS H none' [(false,tb, .cells wt 1 (tkC t b c)),(false,ib, .cells wi 1 [.int .i64 i])] H:=(adH (HS.start H none') hI).add hT (fun i p hi=>by
  match i,hi with
  | 0,hi=>cases hi;exact hne.symm) (fun e=>by cases e)
 change qj prog 229 [.int .i64 r,pM ib,pM tb] H R;refine avN call229 func229 ntmps229 ?_;obtain ⟨hd1,hd2,_⟩:=hd;have hbk:(brkN t i:Int)=min i (t.pr-i):=by unfold brkN;omega
 have hb64:brkN t i<=64:=by omega
 unfold yC at h
 repeat' first|refine zRw ?_|intro _ _ hs|intro K0 hK0|(refine hK0 _ _ ?_;clear hK0)
 rename_i b1 H1 _;rw[<- hbk]
 refine vC (α := List Blk × Nat × Nat) tok (fun z=>HS H none' [(true,z.2.1,rw' (cycF t i r z.2.2)),(true,b1, .cells true 1 [.int .i64 0, .int .i64 0, .slice none 0 0, .slice none 0 0, .int .i64 0]),(false,tb, .cells wt 1 (tkC t b c)),(false,ib, .cells wi 1 [.int .i64 i])] z.1/\z.2.2<=brkN t i)
  (fun | ⟨_,k,j⟩=>[(0, .int .i64 r),(1,pM ib),(2,pM tb),(4,pM b1),(5,sv k (cycF t i r j).length),(12, .int .i64 (brkN t i:Int)),(13, .int .i64 (j:Int))]) (fun | ⟨H',_,_⟩=>H') (fun z=>brkN t i-z.2.2)
  ⟨H1 ++ [rw' []],H1.length,0⟩ ⟨pkH (hs.virt _) [0,1,2,3],Nat.zero_le _⟩ ⟨⟨_,rfl, .rfl⟩,⟨_,rfl, .rfl⟩,⟨_,rfl, .rfl⟩,⟨_,rfl, .rfl⟩,⟨_,rfl, .nil _⟩,⟨_,rfl, .rfl⟩,⟨_,rfl, .rfl⟩,trivial⟩ (WkH.rfl.app _) ?_
 clear hs;rintro ⟨H2,k,j⟩ ⟨hs,hj⟩;dsimp only at hs hj ⊢;have hcl:=Uu hpa.1 i r j;have hjm:j*t.pa.toNat<=64*16:=Nat.mul_le_mul (by omega) (by omega)
 repeat' first|refine zRw ?_|intro _ _ hs|intro K0 hK0|(refine hK0 _ _ ?_;clear hK0)
 refine And.intro (fun hc=>?_) (fun hc=>?_)
 ·have hlt:j<brkN t i:=by simp at hc;omega
  clear hc
  repeat' first|refine zRw ?_|intro _ _ hs|intro K0 hK0|(refine hK0 _ _ ?_;clear hK0)
  have hm:=wO kt (r+j);refine qp tok mx [0,0,0,0,0,24,60,0,0,0,768,2044,4092,8190,16383,32767] [false,false,true,true,true,true,true,true,true,true,true,true,true,false,false,false] (.first 0 (.first 1 (.first 2 (.first 3 (.first 4 (.first 5 (.first 7 (.first 8 (.first 9 (.first 10 (.first 6 (.first 11 (.first 12 (.first 13 (.first 14 (.first 15 .done)))))))))))))))) (by kernel_rfl) ?_;refine qw (fun K0 hK0=>?_)
  repeat' first|refine zRw ?_|intro _ _ hs|intro K0 hK0|(refine hK0 _ _ ?_;clear hK0)
  first
   | refine zq (gr.up (qc hs)) (gw.up (qc hs)) hpr (by omega) ?_
   | refine (zq (gr.up (qc hs)) (gw.up (qc hs)) hpr (by omega) ?_).call
  repeat' first|refine zRw ?_|intro _ _ hs|intro K0 hK0|(refine hK0 _ _ ?_;clear hK0)
  first
   | refine zq (gr.up (qc hs)) (gw.up (qc hs)) hpr (by omega) ?_
   | refine (zq (gr.up (qc hs)) (gw.up (qc hs)) hpr (by omega) ?_).call
  repeat' first|refine zRw ?_|intro _ _ hs|intro K0 hK0|(refine hK0 _ _ ?_;clear hK0)
  have m1:=zg (x:=(r+j) % t.pr+1) hpa (by omega);have hsl:=yS hpa.1 ((r+j) % t.pr);refine c157 (by omega) (by omega) m1 (by omega) (fun H3 k3 hn=>?_);have hs:=hs.call hn rfl;clear hn
  repeat' first|refine zRw ?_|intro _ _ hs|intro K0 hK0|(refine hK0 _ _ ?_;clear hK0)
  refine XN hs 1 (m:=(spnF t ((r+j) % t.pr) ((r+j) % t.pr+1)).length) (n:=(cycF t i r j).length) (us:=ints (spnF t ((r+j) % t.pr) ((r+j) % t.pr+1))) rfl (by decide) (hs.get 0 rfl) (by omega) (by rw[qU];exact (Nat.mul_one _).symm) (qk0 _) (by rw[qU];exact (Nat.mul_one _).symm) (by show (_+_)*(8+1)<=_;omega) (fun H4 k' _ _ hs=>?_);rw[<- zi,<- XI] at hs
  repeat' first|refine zRw ?_|intro _ _ hs|intro K0 hK0|(refine hK0 _ _ ?_;clear hK0)
  refine⟨⟨H4,k',j+1⟩,⟨pkH hs [1,2,3,4],hlt⟩,by dsimp only;omega,Or.inl ⟨⟨rfl,rfl,rfl,rfl,by dsimp only;rw[XI,List.length_append];rfl,rfl,rfl,trivial⟩,rfl⟩⟩
 ·have hie:j=brkN t i:=by simp at hc;omega
  subst hie
  repeat' first|refine zRw ?_|intro _ _ hs|intro K0 hK0|(refine hK0 _ _ ?_;clear hK0)
  first
   | refine zq (gr.up (qc hs)) (gw.up (qc hs)) hpr (by omega) ?_
   | refine (zq (gr.up (qc hs)) (gw.up (qc hs)) hpr (by omega) ?_).call
  repeat' first|refine zRw ?_|intro _ _ hs|intro K0 hK0|(refine hK0 _ _ ?_;clear hK0)|refine c200 rfl (kNo hs (fun H3 hs=>?_))
  change resK T _ _ _ _;refine vV (by rfl) (by rfl) (hs.get 1 rfl) (by rfl) ?_;refine⟨_,rfl,_,rfl,_,rfl,_,rfl,_,rfl, ?_⟩;exact h _ k k [(k,_)] (pkH hs [0]) (List.mem_singleton.2 rfl) (List.mem_singleton.2 rfl)
theorem mk_228 {t:Tk} (kt:TkOk t):MkV 228 t (dPw t) (evF t (yC t)):=by
 intro H b c i R hd gr gw h;refine avN call228 func228 ntmps228 ?_;refine qo (HS.start H none') (fun H1 b1 e1 l1 hs=>?_);refine qo hs (fun H2 b2 e2 l2 hs=>?_);refine qg (fun _ hKs=>hKs _ _ ?_);clear hKs;clear e1 l1 e2 l2
 repeat' first|refine zRw ?_|intro _ _ hs|intro K0 hK0|(refine hK0 _ _ ?_;clear hK0)
 refine c207 kt.pr (mk:=fun r=>yC t i r) (fun H3 R' r hr hn hk=>m229 kt hd hr ((gr.up (qc hs)).up hn) ((gw.up (qc hs)).up hn) (vz hn (hs.get 1 rfl)) (vz hn (hs.get 0 rfl)) hk) (fun H3 k E M hn hin hE=>?_);have hs:=hs.call hn (zO rfl _);clear hn
 repeat' first|refine zRw ?_|intro _ _ hs|intro K0 hK0|(refine hK0 _ _ ?_;clear hK0)
 exact h _ k E M (hs.left (L:=_::rwM M)) hin hE
end Go.Af.Tryz
