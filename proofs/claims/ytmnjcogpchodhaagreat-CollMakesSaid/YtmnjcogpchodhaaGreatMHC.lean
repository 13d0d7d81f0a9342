/- A part of the proof. -/
import Derived.Test.YtmnjcogpchodhaaGreatMHB
import Derived.Test.YtmnjcogpchodhaaGreatMCA
set_option linter.all false
set_option maxHeartbeats 4000000
set_option maxRecDepth 100000
namespace Go.Af.Tryz
open Go Go.Proofs Tryz
attribute [local irreducible] awp qj qI qK qE qm isCells ql qi qB qx qh roundEnd

def lpF:Nat->Int->Int->Int->List Int
 | 0,_,_,_=>[]
 | n+1,v,d,hi=>if v<hi then v::lpF n (v+d) d hi else []
theorem lp_f {n:Nat} {v d hi:Int} (h:hi<=v):lpF n v d hi = []:=by
 cases n with
 | zero=>rfl
 | succ n=>rw[lpF,if_neg (by omega)]
theorem lp_t {n:Nat} {v d hi:Int} (h:v<hi) (hn:hi-v<=n) (hd:1<=d) : ∃ m,n=m+1/\lpF n v d hi=v::lpF m (v+d) d hi/\hi-(v+d)<=m:=by
 cases n with
 | zero=>omega
 | succ n=>exact⟨n,rfl,by rw[lpF,if_pos h],by omega⟩
structure LS where
 H:List Blk
 k:Nat
 E:List Mg
 M:List (Nat × List Int)
 v:Int
 n:Nat
structure LOk (H0:List Blk) (L:List (Bool × Nat × Blk)) (d hi:Int) (f:Int->Msg) (tot:List Msg) (lo:Int) (z:LS):Prop where
 hs:HS H0 none' ((true,z.k,mgB z.E)::(L++rwM z.M)) z.H
 inn:MgIn z.E z.M
 eq:z.E.map (·.1)++(lpF z.n z.v d hi).map f=tot
 fuel:hi-z.v<=z.n
 lo:lo<=z.v
 le:z.E.length<=tot.length
theorem LOk.stop {H0:List Blk} {L:List (Bool × Nat × Blk)} {d hi lo:Int} {f:Int->Msg} {tot:List Msg} {z:LS} (h:LOk H0 L d hi f tot lo z) (hv:hi<=z.v):z.E.map (·.1)=tot:=by
 have:=h.eq;rw[lp_f hv,List.map_nil,List.append_nil] at this;exact this
theorem LOk.step {H0:List Blk} {L:List (Bool × Nat × Blk)} {d hi lo:Int} {f:Int->Msg} {tot:List Msg} {z:LS} (h:LOk H0 L d hi f tot lo z) (hv:z.v<hi) (hd:1<=d) :
 ∃ m,z.n=m+1/\z.E.length<tot.length/\∀ H' k' x y M',HS H0 none' ((true,k',mgB (z.E ++ [(f z.v,x,y)]))::(L++rwM M')) H' -> (∀ q∈z.M,q∈M')->(x,(f z.v).sr)∈M' -> (y,(f z.v).ds)∈M' -> LOk H0 L d hi f tot lo ⟨H',k',z.E ++ [(f z.v,x,y)],M',z.v+d,m⟩:=by
 obtain ⟨m,hm,he,hf⟩:=lp_t hv h.fuel hd;have e:=h.eq;rw[he,List.map_cons] at e;have hl:=congrArg List.length e;simp only[List.length_append,List.length_cons,List.length_map] at hl;refine⟨m,hm,by omega,fun H' k' x y M' hs hM hx hy=>⟨hs,(h.inn.mono hM).snoc hx hy,by rw[<- e];simp,hf,by have:=h.lo;dsimp only;omega,by rw[List.length_append,List.length_singleton];omega⟩⟩
theorem wY (E:List Mg) (m:Msg) (x y:Nat):mgsC (E ++ [(m,x,y)])=mgsC E++mgC m x y:=by rw[qh0];simp[mgsC]
def bcM (t:Tk) (h v:Int):Msg:=smM t (relF t v) (relF t (v+h)) 0
def bcT (t:Tk) (h:Int):List Msg:=(lpF 64 0 1 (min h (t.pr-h))).map (bcM t h)
theorem xY : ∀ (n:Nat) (v d hi:Int),(lpF n v d hi).length<=n
 | 0,_,_,_=>Nat.le_refl _
 | n+1,v,d,hi=>by
   rw[lpF];split
   ·have:=xY n (v+d) d hi
    rw[List.length_cons];omega
   ·simp
theorem yA0 {t:Tk} (kt:TkOk t):MkV 204 t (dPw t) (bcT t):=by
 intro H b c i R hd gr gw h;obtain ⟨hd1,hd2,hd3⟩:=hd;have hpr:=kt.pr;have hro:=kt.ro;have hpa:=kt.pa;refine avN call204 func204 ntmps204 ?_;refine qo (HS.start H none') (fun H1 b1 e1 l1 hs=>?_);refine qg (fun _ hKs=>hKs _ _ ?_);clear hKs;clear e1 l1;have htl:(bcT t i).length<=64:=by unfold bcT;rw[List.length_map];exact xY _ _ _ _
 repeat' first|refine zPw ?_|intro _ _ hs|intro K0 hK0
 refine vC (α := LS) tok (LOk H [(true,b1, .cells true 1 (tkC t b c))] 1 (min i (t.pr-i)) (bcM t i) (bcT t i) 0)
  (fun z=>[(1, .int .i64 i),(2,pM b1),(5,sv z.k z.E.length),(6, .int .i64 z.v)]) (fun z=>z.H) (fun z=>z.n)
  ⟨H1 ++ [mgB []],H1.length,[],[],0,64⟩ ⟨hs.virt _,MgIn.nil _,rfl,by dsimp only;omega,Int.le_refl _,Nat.zero_le _⟩ ⟨⟨_,rfl, .rfl⟩,⟨_,rfl, .rfl⟩,⟨_,rfl, .nil _⟩,⟨_,rfl, .rfl⟩,trivial⟩ (WkH.rfl.app _) ?_
 clear hs;rintro ⟨H2,k,E,M,v,n⟩ hz;have hs:=hz.hs;have hlo:=hz.lo;dsimp only[List.cons_append,List.nil_append] at hs hlo ⊢;by_cases hv:v<min i (t.pr-i)
 ·obtain ⟨m,hm,hlt,hstep⟩:=hz.step hv (by decide)
  dsimp only[List.cons_append,List.nil_append] at hm hlt hstep
  repeat' first|refine zQw ?_|intro _ _ hs|intro K0 hK0|intro hc|refine dI ?_ ?_
  refine qp tok mx [0,0,0,6,0,0,0,96,254,0,1022,2046,4094,8191,16383] [false,false,true,true,true,true,true,true,true,true,false,false,false,false,false] (.first 0 (.first 1 (.first 2 (.first 4 (.first 5 (.first 6 (.first 7 (.first 9 (.first 3 (.first 8 (.first 10 (.first 11 (.first 12 (.first 13 (.first 14 .done))))))))))))))) (by kernel_rfl) ?_;refine qw (fun K0 hK0=>?_)
  repeat' first|refine zPw ?_|intro _ _ hs|intro K0 hK0
  first
   | refine wz (gr.up (qc hs)) (gw.up (qc hs)) hpr hro (by omega) ?_
   | refine (wz (gr.up (qc hs)) (gw.up (qc hs)) hpr hro (by omega) ?_).call
  repeat' first|refine zPw ?_|intro _ _ hs|intro K0 hK0
  first
   | refine wz (gr.up (qc hs)) (gw.up (qc hs)) hpr hro (by omega) ?_
   | refine (wz (gr.up (qc hs)) (gw.up (qc hs)) hpr hro (by omega) ?_).call
  repeat' first|refine zPw ?_|intro _ _ hs|intro K0 hK0|(refine c202 hpa (fun H3 k2 hn=>?_);have hs:=hs.call hn rfl;clear hn)|refine c200 rfl (kNo hs (fun H4 hs=>?_))
  refine vZ hs 2 (us:=mgC (bcM t i v) k2 k2) rfl (by decide) (hs.get 0 rfl) rfl rfl (by rw[wP]) (by dsimp only;omega) (fun H5 k' _ _ hs=>?_);rw[<- wY] at hs
  repeat' first|refine zPw ?_|intro _ _ hs|intro K0 hK0
  refine⟨_,hstep H5 k' k2 k2 ((k2,spnF t 0 1)::M) (hs.pickR (A := [_,_,_,_]) [2,3,1] (by decide) (A' := [_,_,_]) rfl) (fun q hq=>List.mem_cons_of_mem _ hq) List.mem_cons_self List.mem_cons_self,by dsimp only;omega,Or.inl ⟨⟨rfl,rfl,by dsimp only;rw[List.length_append];rfl,rfl,trivial⟩,rfl⟩⟩
 ·have he:=hz.stop (by dsimp only;omega)
  dsimp only at he
  repeat' first|refine zQw ?_|intro _ _ hs|intro K0 hK0|intro hc|refine dI ?_ ?_
  all_goals exact h H2 k E M (hs.pickR (A := [_,_]) [0] (by decide) (A' := [_]) rfl) hz.inn he
def rdM (t:Tk) (h v:Int):Msg:=smM t (relF t v) (relF t (v-h)) 2
def rdT (t:Tk) (h:Int):List Msg:=(lpF 64 h (2*h) t.pr).map (rdM t h)
theorem yz0 {t:Tk} (kt:TkOk t):MkV 213 t (dPw t) (rdT t):=by
 intro H b c i R hd gr gw h;obtain ⟨hd1,hd2,hd3⟩:=hd;have hpr:=kt.pr;have hro:=kt.ro;have hpa:=kt.pa;refine avN call213 func213 ntmps213 ?_;refine qo (HS.start H none') (fun H1 b1 e1 l1 hs=>?_);refine qg (fun _ hKs=>hKs _ _ ?_);clear hKs;clear e1 l1;have htl:(rdT t i).length<=64:=by unfold rdT;rw[List.length_map];exact xY _ _ _ _
 repeat' first|refine zPw ?_|intro _ _ hs|intro K0 hK0
 refine vC (α := LS) tok (LOk H [(true,b1, .cells true 1 (tkC t b c))] (2*i) t.pr (rdM t i) (rdT t i) i)
  (fun z=>[(1, .int .i64 i),(2,pM b1),(5,sv z.k z.E.length),(6, .int .i64 z.v)]) (fun z=>z.H) (fun z=>z.n)
  ⟨H1 ++ [mgB []],H1.length,[],[],i,64⟩ ⟨hs.virt _,MgIn.nil _,rfl,by dsimp only;omega,Int.le_refl _,Nat.zero_le _⟩ ⟨⟨_,rfl, .rfl⟩,⟨_,rfl, .rfl⟩,⟨_,rfl, .nil _⟩,⟨_,rfl, .rfl⟩,trivial⟩ (WkH.rfl.app _) ?_
 clear hs;rintro ⟨H2,k,E,M,v,n⟩ hz;have hs:=hz.hs;have hlo:=hz.lo;dsimp only[List.cons_append,List.nil_append] at hs hlo ⊢;by_cases hv:v<t.pr
 ·obtain ⟨m,hm,hlt,hstep⟩:=hz.step hv (by omega)
  dsimp only[List.cons_append,List.nil_append] at hm hlt hstep
  repeat' first|refine zQw ?_|intro _ _ hs|intro K0 hK0|intro hc|refine dI ?_ ?_
  refine qp tok mx [0,0,0,6,0,0,0,96,254,0,1022,2046,4094,8191,16383] [false,false,true,true,true,true,true,true,true,true,false,false,false,false,false] (.first 0 (.first 1 (.first 2 (.first 4 (.first 5 (.first 6 (.first 7 (.first 9 (.first 3 (.first 8 (.first 10 (.first 11 (.first 12 (.first 13 (.first 14 .done))))))))))))))) (by kernel_rfl) ?_;refine qw (fun K0 hK0=>?_)
  repeat' first|refine zPw ?_|intro _ _ hs|intro K0 hK0
  first
   | refine wz (gr.up (qc hs)) (gw.up (qc hs)) hpr hro (by omega) ?_
   | refine (wz (gr.up (qc hs)) (gw.up (qc hs)) hpr hro (by omega) ?_).call
  repeat' first|refine zPw ?_|intro _ _ hs|intro K0 hK0
  first
   | refine wz (gr.up (qc hs)) (gw.up (qc hs)) hpr hro (by omega) ?_
   | refine (wz (gr.up (qc hs)) (gw.up (qc hs)) hpr hro (by omega) ?_).call
  repeat' first|refine zPw ?_|intro _ _ hs|intro K0 hK0|(refine c202 hpa (fun H3 k2 hn=>?_);have hs:=hs.call hn rfl;clear hn)|refine c200 rfl (kNo hs (fun H4 hs=>?_))
  refine vZ hs 2 (us:=mgC (rdM t i v) k2 k2) rfl (by decide) (hs.get 0 rfl) rfl rfl (by rw[wP]) (by dsimp only;omega) (fun H5 k' _ _ hs=>?_);rw[<- wY] at hs
  repeat' first|refine zPw ?_|intro _ _ hs|intro K0 hK0
  refine⟨_,hstep H5 k' k2 k2 ((k2,spnF t 0 1)::M) (hs.pickR (A := [_,_,_,_]) [2,3,1] (by decide) (A' := [_,_,_]) rfl) (fun q hq=>List.mem_cons_of_mem _ hq) List.mem_cons_self List.mem_cons_self,by dsimp only;omega,Or.inl ⟨⟨rfl,rfl,by dsimp only;rw[List.length_append];rfl,rfl,trivial⟩,rfl⟩⟩
 ·have he:=hz.stop (by dsimp only;omega)
  dsimp only at he
  repeat' first|refine zQw ?_|intro _ _ hs|intro K0 hK0|intro hc|refine dI ?_ ?_
  all_goals exact h H2 k E M (hs.pickR (A := [_,_]) [0] (by decide) (A' := [_]) rfl) hz.inn he
def scM (t:Tk) (h v:Int):Msg:=smM t v (v+h) 1
def scD (t:Tk) (h:Int):List Msg:=(lpF 64 0 1 (t.pr-h)).map (scM t h)
theorem mk_221 {t:Tk} (kt:TkOk t):MkV 221 t (dPw t) (scD t):=by
 intro H b c i R hd gr gw h;obtain ⟨hd1,hd2,hd3⟩:=hd;have hpr:=kt.pr;have hro:=kt.ro;have hpa:=kt.pa;refine avN call221 func221 ntmps221 ?_;refine qo (HS.start H none') (fun H1 b1 e1 l1 hs=>?_);refine qg (fun _ hKs=>hKs _ _ ?_);clear hKs;clear e1 l1;have htl:(scD t i).length<=64:=by unfold scD;rw[List.length_map];exact xY _ _ _ _
 repeat' first|refine zPw ?_|intro _ _ hs|intro K0 hK0
 refine vC (α := LS) tok (LOk H [(true,b1, .cells true 1 (tkC t b c))] 1 (t.pr-i) (scM t i) (scD t i) 0)
  (fun z=>[(1, .int .i64 i),(2,pM b1),(5,sv z.k z.E.length),(10, .int .i64 (t.pr-i)),(11, .int .i64 z.v)]) (fun z=>z.H) (fun z=>z.n)
  ⟨H1 ++ [mgB []],H1.length,[],[],0,64⟩ ⟨hs.virt _,MgIn.nil _,rfl,by dsimp only;omega,Int.le_refl _,Nat.zero_le _⟩ ⟨⟨_,rfl, .rfl⟩,⟨_,rfl, .rfl⟩,⟨_,rfl, .nil _⟩,⟨_,rfl, .rfl⟩,⟨_,rfl, .rfl⟩,trivial⟩ (WkH.rfl.app _) ?_
 clear hs;rintro ⟨H2,k,E,M,v,n⟩ hz;have hs:=hz.hs;have hlo:=hz.lo;dsimp only[List.cons_append,List.nil_append] at hs hlo ⊢;by_cases hv:v<t.pr-i
 ·obtain ⟨m,hm,hlt,hstep⟩:=hz.step hv (by decide)
  dsimp only[List.cons_append,List.nil_append] at hm hlt hstep
  repeat' first|refine zQw ?_|intro _ _ hs|intro K0 hK0|intro hc|refine dI ?_ ?_
  refine c202 hpa (fun H3 k2 hn=>?_);have hs:=hs.call hn rfl;clear hn
  repeat' first|refine zPw ?_|intro _ _ hs|intro K0 hK0|refine c200 rfl (kNo hs (fun H4 hs=>?_))
  refine vZ hs 2 (us:=mgC (scM t i v) k2 k2) rfl (by decide) (hs.get 0 rfl) rfl rfl (by rw[wP]) (by dsimp only;omega) (fun H5 k' _ _ hs=>?_);rw[<- wY] at hs
  repeat' first|refine zPw ?_|intro _ _ hs|intro K0 hK0
  refine⟨_,hstep H5 k' k2 k2 ((k2,spnF t 0 1)::M) (hs.pickR (A := [_,_,_,_]) [2,3,1] (by decide) (A' := [_,_,_]) rfl) (fun q hq=>List.mem_cons_of_mem _ hq) List.mem_cons_self List.mem_cons_self,by dsimp only;omega,Or.inl ⟨⟨rfl,rfl,by dsimp only;rw[List.length_append];rfl,rfl,rfl,trivial⟩,rfl⟩⟩
 ·have he:=hz.stop (by dsimp only;omega)
  dsimp only at he
  repeat' first|refine zQw ?_|intro _ _ hs|intro K0 hK0|intro hc|refine dI ?_ ?_
  all_goals exact h H2 k E M (hs.pickR (A := [_,_]) [0] (by decide) (A' := [_]) rfl) hz.inn he
structure LOk2 (H0:List Blk) (L:List (Bool × Nat × Blk)) (d hi:Int) (g:Int->List Msg) (tot:List Msg) (lo:Int) (z:LS):Prop where
 hs:HS H0 none' ((true,z.k,mgB z.E)::(L++rwM z.M)) z.H
 inn:MgIn z.E z.M
 eq:z.E.map (·.1)++(lpF z.n z.v d hi).flatMap g=tot
 fuel:hi-z.v<=z.n
 lo:lo<=z.v
 le:z.E.length<=tot.length
theorem LOk2.stop {H0:List Blk} {L:List (Bool × Nat × Blk)} {d hi lo:Int} {g:Int->List Msg} {tot:List Msg} {z:LS} (h:LOk2 H0 L d hi g tot lo z) (hv:hi<=z.v):z.E.map (·.1)=tot:=by
 have:=h.eq;rw[lp_f hv,List.flatMap_nil,List.append_nil] at this;exact this
theorem LOk2.step {H0:List Blk} {L:List (Bool × Nat × Blk)} {d hi lo d2 hi2 w:Int} {n2:Nat} {g:Int->List Msg} {f:Int->Msg} {tot:List Msg} {z:LS} (h:LOk2 H0 L d hi g tot lo z) (hv:z.v<hi) (hd:1<=d) (hg:g z.v=(lpF n2 w d2 hi2).map f) (hn2:hi2-w<=n2) :
 ∃ m,z.n=m+1/\(z.E.map (·.1)++g z.v).length<=tot.length/\LOk H0 L d2 hi2 f (z.E.map (·.1)++g z.v) w ⟨z.H,z.k,z.E,z.M,w,n2⟩ /\
   ∀ z2:LS,LOk H0 L d2 hi2 f (z.E.map (·.1)++g z.v) w z2->hi2<=z2.v->LOk2 H0 L d hi g tot lo ⟨z2.H,z2.k,z2.E,z2.M,z.v+d,m⟩:=by
 obtain ⟨m,hm,he,hf⟩:=lp_t hv h.fuel hd;have e:=h.eq;rw[he,List.flatMap_cons,<- List.append_assoc] at e;have hl:=congrArg List.length e;rw[List.length_append] at hl;refine⟨m,hm,by omega,⟨h.hs,h.inn,by rw[hg],hn2,Int.le_refl _,by simp⟩,fun z2 h2 hs=>?_⟩;have e2:=h2.stop hs;exact⟨h2.hs,h2.inn,by rw[<- e,<- e2],hf,by have:=h.lo;dsimp only;omega,Nat.le_trans h2.le (by omega)⟩
theorem QF {d hi:Int} {g:Int->List Msg} {N:Nat} (hg : ∀ v,(g v).length<=N) : ∀ (n:Nat) (v:Int),((lpF n v d hi).flatMap g).length<=n*N
 | 0,_=>by simp[lpF]
 | n+1,v=>by
   rw[lpF];split
   ·have:=QF (d:=d) (hi:=hi) hg n (v+d)
    have:=hg v;rw[List.flatMap_cons,List.length_append,Nat.add_mul];omega
   ·simp
def gaM (t:Tk) (h v w:Int):Msg:=blM t (relF t v) (relF t (v-h)) (relF t w) (relF t w) 0
def gaG (t:Tk) (h v:Int):List Msg:=(lpF 64 v 1 (min (v+h) t.pr)).map (gaM t h v)
def gaT (t:Tk) (h:Int):List Msg:=(lpF 64 h (2*h) t.pr).flatMap (gaG t h)
theorem mk_223 {t:Tk} (kt:TkOk t):MkV 223 t (dPw t) (gaT t):=by
 intro H b c i R hd gr gw h;obtain ⟨hd1,hd2,hd3⟩:=hd;have hpr:=kt.pr;have hro:=kt.ro;have hpa:=kt.pa;refine avN call223 func223 ntmps223 ?_;refine qo (HS.start H none') (fun H1 b1 e1 l1 hs=>?_);refine qg (fun _ hKs=>hKs _ _ ?_);clear hKs;clear e1 l1;have htl:(gaT t i).length<=64*64:=QF (fun v=>by unfold gaG;rw[List.length_map];exact xY _ _ _ _) _ _
 repeat' first|refine zPw ?_|intro _ _ hs|intro K0 hK0
 refine vC (α := LS) tok (LOk2 H [(true,b1, .cells true 1 (tkC t b c))] (2*i) t.pr (gaG t i) (gaT t i) i)
  (fun z=>[(1, .int .i64 i),(2,pM b1),(5,sv z.k z.E.length),(6, .int .i64 z.v)]) (fun z=>z.H) (fun z=>z.n)
  ⟨H1 ++ [mgB []],H1.length,[],[],i,64⟩ ⟨hs.virt _,MgIn.nil _,rfl,by dsimp only;omega,Int.le_refl _,Nat.zero_le _⟩ ⟨⟨_,rfl, .rfl⟩,⟨_,rfl, .rfl⟩,⟨_,rfl, .nil _⟩,⟨_,rfl, .rfl⟩,trivial⟩ (WkH.rfl.app _) ?_
 clear hs;rintro ⟨H2,k,E,M,v,n⟩ hz;have hs:=hz.hs;have hlo:=hz.lo;dsimp only[List.cons_append,List.nil_append] at hs hlo ⊢;by_cases hv:v<t.pr
 ·obtain ⟨m,hm,hlt,hz2,hstep⟩:=hz.step (w:=v) (n2:=64) (d2:=1) hv (by omega) rfl (by omega)
  dsimp only at hm hlt hz2 hstep
  repeat' first|refine zQw ?_|intro _ _ hs|intro K0 hK0|intro hc|refine dI ?_ ?_
  clear hs hz
  refine qf (α := LS) tok (LOk H [(true,b1, .cells true 1 (tkC t b c))] 1 (min (v+i) t.pr) (gaM t i v) (E.map (·.1)++gaG t i v) v)
   (fun z=>[(1, .int .i64 i),(2,pM b1),(5,sv z.k z.E.length),(6, .int .i64 v),(7, .int .i64 z.v)]) (fun z=>z.H) (fun z=>z.n)
   _ hz2 (Or.inl ⟨⟨rfl,rfl,rfl,rfl,rfl,trivial⟩,rfl⟩) ?_
  clear hz2;rintro ⟨H3,k3,E3,M3,w,n3⟩ hz;have hs:=hz.hs;have hlo3:=hz.lo;dsimp only[List.cons_append,List.nil_append] at hs hlo3 ⊢;by_cases hw:w<min (v+i) t.pr
  ·obtain ⟨m3,hm3,hlt3,hstep3⟩:=hz.step hw (by decide)
   dsimp only[List.cons_append,List.nil_append] at hm3 hlt3 hstep3;have hr:=QA kt w
   repeat' first|refine zQw ?_|intro _ _ hs|intro K0 hK0|intro hc|refine dI ?_ ?_
   refine qp tok mx [0,0,0,0,12,0,0,0,192,508,0,0,4092,0,0,32764,65534,131070,262143,524287] [false,false,true,true,true,true,true,true,true,true,true,true,true,true,true,true,false,false,false,false] (.first 0 (.first 1 (.first 2 (.first 3 (.first 5 (.first 6 (.first 7 (.first 8 (.first 10 (.first 11 (.first 13 (.first 14 (.first 4 (.first 9 (.first 12 (.first 15 (.first 16 (.first 17 (.first 18 (.first 19 .done)))))))))))))))))))) (by kernel_rfl) ?_;refine qw (fun K0 hK0=>?_)
   repeat' first|refine zPw ?_|intro _ _ hs|intro K0 hK0
   first
    | refine wz (gr.up (qc hs)) (gw.up (qc hs)) hpr hro (by omega) ?_
    | refine (wz (gr.up (qc hs)) (gw.up (qc hs)) hpr hro (by omega) ?_).call
   repeat' first|refine zPw ?_|intro _ _ hs|intro K0 hK0
   first
    | refine wz (gr.up (qc hs)) (gw.up (qc hs)) hpr hro (by omega) ?_
    | refine (wz (gr.up (qc hs)) (gw.up (qc hs)) hpr hro (by omega) ?_).call
   repeat' first|refine zPw ?_|intro _ _ hs|intro K0 hK0
   first
    | refine wz (gr.up (qc hs)) (gw.up (qc hs)) hpr hro (by omega) ?_
    | refine (wz (gr.up (qc hs)) (gw.up (qc hs)) hpr hro (by omega) ?_).call
   repeat' first|refine zPw ?_|intro _ _ hs|intro K0 hK0
   first
    | refine wz (gr.up (qc hs)) (gw.up (qc hs)) hpr hro (by omega) ?_
    | refine (wz (gr.up (qc hs)) (gw.up (qc hs)) hpr hro (by omega) ?_).call
   repeat' first|refine zPw ?_|intro _ _ hs|intro K0 hK0|(refine c222 hpa (by omega) (by omega) (fun H4 x y hn=>?_);have hs:=hs.call hn rfl;clear hn)
   refine vZ hs 3 (us:=mgC (gaM t i v w) x y) rfl (by decide) (hs.get 0 rfl) rfl rfl (by rw[wP]) (by dsimp only;omega) (fun H5 k' _ _ hs=>?_);rw[<- wY] at hs
   repeat' first|refine zPw ?_|intro _ _ hs|intro K0 hK0
   refine⟨_,hstep3 H5 k' x y ((y,_)::(x,_)::M3) (hs.pickR (A := [_,_,_,_,_]) [3,4,1,2] (by decide) (A' := [_,_,_,_]) rfl) (fun q hq=>List.mem_cons_of_mem _ (List.mem_cons_of_mem _ hq)) (List.mem_cons_of_mem _ List.mem_cons_self) List.mem_cons_self,by dsimp only;omega,Or.inl ⟨⟨rfl,rfl,by dsimp only;rw[List.length_append];rfl,rfl,rfl,trivial⟩,rfl⟩⟩
  ·have he:=hstep _ hz (by dsimp only;omega)
   dsimp only at he
   repeat' first|refine zQw ?_|intro _ _ hs|intro K0 hK0|intro hc|refine dI ?_ ?_
   refine⟨_,he,by dsimp only;omega,Or.inl ⟨⟨rfl,rfl,rfl,rfl,trivial⟩,rfl⟩⟩
 ·have he:=hz.stop (by dsimp only;omega)
  dsimp only at he
  repeat' first|refine zQw ?_|intro _ _ hs|intro K0 hK0|intro hc|refine dI ?_ ?_
  all_goals exact h H2 k E M (hs.pickR (A := [_,_]) [0] (by decide) (A' := [_]) rfl) hz.inn he
end Go.Af.Tryz
namespace Go.Af.Tryz
open Go Go.Proofs Tryz
attribute [local irreducible] awp qj qI qK qE qm isCells ql qi qB qx qh roundEnd
variable {H:List Blk}
variable {R:Value->List Blk->Prop}

def PtV (p:Nat) (t:Tk) (pf:Int->Int->Int):Prop :=
 ∀ {H:List Blk} {b c:Nat} {r i:Int} {R:Value->List Blk->Prop},0<=r/\r<t.pr->0<=i/\i<t.pr->(0<=pf r i/\pf r i<64->∀ H',HS H none' [] H' -> R (.int .i64 (pf r i)) H')->qj prog p [tkV t b c, .int .i64 r, .int .i64 i] H R
def pwF (t:Tk) (r i:Int):Int:=(r+i) % t.pr
theorem pt_231 {t:Tk} (kt:TkOk t):PtV 231 t (pwF t):=by
 intro H b c r i R hr hi h;have hpr:=kt.pr;have hm:=wO kt (r+i);refine avN call231 func231 ntmps231 ?_;refine qo (HS.start H none') (fun H1 b1 e1 l1 hs=>?_);refine qg (fun _ hKs=>hKs _ _ ?_);clear hKs;clear e1 l1
 repeat' first|refine zPw ?_|intro _ _ hs|intro K0 hK0|(refine c210 hpr (by omega) (fun H2 hn=>?_);have hs:=qL hs hn)
 exact h (by unfold pwF;omega) _ (qc hs)
theorem pt_232 {t:Tk} (kt:TkOk t):PtV 232 t xorF:=by
 intro H b c r i R hr hi h;have hpr:=kt.pr;have hx:=xx (a:=r) (b:=i) (by omega) (by omega);refine avN call232 func232 ntmps232 ?_;refine qo (HS.start H none') (fun H1 b1 e1 l1 hs=>?_);refine qg (fun _ hKs=>hKs _ _ ?_);clear hKs;clear e1 l1
 repeat' first|refine zPw ?_|intro _ _ hs|intro K0 hK0
 exact h hx.2 _ (qc hs)
def prM (t:Tk) (pf:Int->Int->Int) (i r:Int):Msg:=blM t r (pf r i) (pf r i) (t.pr+r) 0
theorem m299 {t:Tk} (kt:TkOk t) {p:Nat} {pf:Int->Int->Int} (hp:PtV p t pf) {b c xb pb ib:Nat} {wx wp wi:Bool} {i r:Int} (hi:0<=i/\i<t.pr) (hr:0<=r/\r<t.pr)
 (hT:bget H xb=some (.cells wx 1 (tkC t b c))) (hP:bget H pb=some (.cells wp 1 [fnV p])) (hI:bget H ib=some (.cells wi 1 [.int .i64 i]))
 (h : ∀ H' x y M,HS H none' (rwM M) H' -> (x,(prM t pf i r).sr)∈M->(y,(prM t pf i r).ds)∈M->R (mgV (prM t pf i r) x y) H'):qj prog 299 [.int .i64 r,pM pb,pM xb,pM ib] H R:=by
 have hpr:=kt.pr;have hpa:=kt.pa
 have n1:xb≠ib:=fun e=>by
  have e1:=hT;rw[e,hI] at e1;cases e1
 have n2:xb≠pb:=fun e=>by
  have e1:=hT;rw[e,hP] at e1;cases e1
 have n3:ib≠pb:=fun e=>by
  have e1:=hI;rw[e,hP] at e1;cases e1
 have hs:HS H none' [(false,xb, .cells wx 1 (tkC t b c)),(false,ib, .cells wi 1 [.int .i64 i]),(false,pb, .cells wp 1 [fnV p])] H:=((adH (HS.start H none') hP).add hI (fun i p hi=>by
  match i,hi with
  | 0,hi=>cases hi;exact n3.symm) (fun e=>by cases e)).add hT (fun i p hi=>by
  match i,hi with
  | 0,hi=>cases hi;exact n1.symm
  | 1,hi=>cases hi;exact n2.symm) (fun e=>by cases e)
 refine avN call299 func299 ntmps299 ?_
 repeat' first|refine zPw ?_|intro _ _ hs|intro K0 hK0
 refine hp hr hi (fun hpf H2 hn=>?_);have hs:=qL hs hn;clear hn
 repeat' first|refine zPw ?_|intro _ _ hs|intro K0 hK0|(refine c222 hpa (by omega) (by omega) (fun H3 x y hn=>?_);have hs:=hs.call hn rfl;clear hn)
 change resK T _ _ _ _;refine vV (by rfl) (by rfl) (hs.get 2 rfl) (by rfl) ?_;refine⟨_,rfl,_,rfl,_,rfl,_,rfl,_,rfl, ?_⟩;exact h _ x y [(y,_),(x,_)] (pkH hs [0,1]) (List.mem_cons_of_mem _ List.mem_cons_self) List.mem_cons_self
def prsF (t:Tk) (pf:Int->Int->Int):List (List Msg):=(List.range t.pr.toNat).map (fun i:Nat=>evF t (prM t pf) (i:Int))
theorem e298 {l xb pb b c p:Nat} {wx wp:Bool} {t:Tk} {pf:Int->Int->Int} {o:Nat->Prop} {I:List (List Msg)->(Nat->Prop)->List Blk->Prop} {R:List Blk->Prop} (kt:TkOk t) (hp:PtV p t pf) (hx:Own o H xb (.cells wx 1 (tkC t b c))) (hm:Own o H pb (.cells wp 1 [fnV p]))
 (hR:RoundsM l H.length (prsF t pf) I) (h0:I [] o H) (h : ∀ o' H',I (prsF t pf) o' H' -> R H'):qj prog 298 [yM l,pM xb,pM pb] H (fun _ H' => R H'):=by
 have hpr:=kt.pr;have hrl:(prsF t pf).length=t.pr.toNat:=by simp[prsF]
 refine avN call298 func298 ntmps298 ?_
 have hne:xb≠pb:=fun e=>by
  have e1:=hx.1;rw[e,hm.1] at e1;cases e1
 have hs:HS H none' [(false,xb, .cells wx 1 (tkC t b c)),(false,pb, .cells wp 1 [fnV p])] H:=((HS.start H none').add hm.1 (fun i p hi=>by simp at hi) (fun e=>by cases e)).add hx.1 (fun i p hi=>by
  match i,hi with
  | 0,hi=>cases hi;exact hne.symm) (fun e=>by cases e)
 repeat' first|refine zPw ?_|intro _ _ hs|intro K0 hK0
 refine qf (α := YS) tok (fun z=>H.length<=z.H.length/\I ((prsF t pf).take z.i) z.o z.H/\Own z.o z.H xb (.cells wx 1 (tkC t b c))/\Own z.o z.H pb (.cells wp 1 [fnV p])/\z.i<=t.pr.toNat)
  (fun z=>[(0,yM l),(1,pM xb),(2,pM pb),(7, .int .i64 t.pr),(8, .int .i64 (z.i:Int))]) (fun z=>z.H) (fun z=>t.pr.toNat-z.i)
  ⟨H,o,0⟩ ⟨Nat.le_refl _,h0,hx,hm,Nat.zero_le _⟩ (Or.inl ⟨⟨rfl,rfl,rfl,rfl,rfl,trivial⟩,rfl⟩) ?_
 clear hs hx hm h0;rintro ⟨H2,o2,i⟩ ⟨hl,hI,hx,hm,hi⟩;dsimp only at hl hI hx hm hi ⊢
 have hs:HS H2 none' [(false,xb, .cells wx 1 (tkC t b c)),(false,pb, .cells wp 1 [fnV p])] H2:=((HS.start H2 none').add hm.1 (fun i p hi=>by simp at hi) (fun e=>by cases e)).add hx.1 (fun i p hi=>by
  match i,hi with
  | 0,hi=>cases hi;exact hne.symm) (fun e=>by cases e)
 repeat' first|refine zPw ?_|intro _ _ hs|intro K0 hK0
 refine And.intro (fun hc=>?_) (fun hc=>?_)
 ·have hlt:i<(prsF t pf).length:=by simp at hc;omega
  clear hc;have hms:(prsF t pf)[i]! = evF t (prM t pf) (i:Int):=by rw[getElem!_pos _ i hlt];simp[prsF]
  repeat' first|refine zPw ?_|intro _ _ hs|intro K0 hK0
  refine c207 kt.pr (mk:=fun r=>prM t pf i r) (fun H3 R' r hr hn hk=>m299 kt hp ⟨by omega,by omega⟩ hr (vz hn (hs.get 1 rfl)) (vz hn (hs.get 2 rfl)) (vz hn (hs.get 0 rfl)) hk) (fun H3 k E M hn hin hE=>?_);have hs:=hs.call hn (zO rfl _);clear hn;have hn:HS H2 none' ((true,k,mgB E)::rwM M) H3:=hs.left (L:=_::rwM M);have hI3:=hR.pure hI hl hn;have hO:=MsO.of (hR.own hI) hn hin hE;have hx3:=hx.ext (fun j hj=>hn.u.2 j hj id);have hm3:=hm.ext (fun j hj=>hn.u.2 j hj id);have hle:=hn.le;clear hI hx hm hn
  repeat' first|refine zPw ?_|intro _ _ hs|intro K0 hK0
  have hel:E.length=(evF t (prM t pf) (i:Int)).length:=by have:=congrArg List.length hE;simpa [evF] using this
  rw[hel];have hev:List.map (fun r:Nat=>prM t pf (i:Int) (r:Int)) (List.range t.pr.toNat)=evF t (prM t pf) (i:Int):=rfl;rw[hev,<- hms] at hO;rw[<- hms];refine (hR.step (yP hlt) (by omega) hI3 hO).mono ?_;rintro v H4 ⟨rfl,u,o4,hI4,ho4⟩;rw[xK hlt] at hI4;clear hs;have hs:=HS.start H4 none'
  repeat' first|refine zPw ?_|intro _ _ hs|intro K0 hK0
  exact⟨⟨H4,o4,i+1⟩,⟨Nat.le_trans hl (Nat.le_trans hle u.1),hI4,hx3.upd u ho4,hm3.upd u ho4,by dsimp only;omega⟩,by dsimp only;omega,Or.inl ⟨⟨rfl,rfl,rfl,rfl,rfl,trivial⟩,rfl⟩⟩
 ·have hie:i=(prsF t pf).length:=by simp at hc;omega
  subst hie;rw[List.take_length] at hI
  repeat' first|refine zPw ?_|intro _ _ hs|intro K0 hK0
  exact h _ _ hI
theorem c230 {p:Nat} (h : ∀ H' k,HS H none' [(true,k, .cells true 1 [fnV p])] H' -> R (cloV 297 [pM k]) H'):qj prog 230 [fnV p] H R:=by
 refine avN call230 func230 ntmps230 ?_;refine qo (HS.start H none') (fun H1 b1 e1 l1 hs=>?_);refine qg (fun _ hKs=>hKs _ _ ?_);clear hKs;clear e1 l1
 repeat' first|refine zPw ?_|intro _ _ hs|intro K0 hK0
 exact h _ _ hs
theorem c297 {H2:List Blk} {N0 pb b c p:Nat} {wp:Bool} {t:Tk} {pf:Int->Int->Int} (kt:TkOk t) (hN:N0<=H2.length) (hp:PtV p t pf) (hpb:N0<=pb) (hP:bget H2 pb=some (.cells wp 1 [fnV p]))
 (h : ∀ v' H3,HS H2 none' [] H3->ItV (DN N0 b c) H3 v' (prsF t pf)->R v' H3):qj prog 297 [tkV t b c,pM pb] H2 R:=by
 refine avN call297 func297 ntmps297 ?_;refine qo (HS.start H2 none') (fun H3 xb e1 l1 hs=>?_);have hm3:bget H3 pb=some (.cells wp 1 [fnV p]):=(hs.u.2 pb (qJ hP) id).trans hP;have hx3:=hs.get 0 rfl;have hnn:=qc hs;have hxb:H2.length<=xb:=((hs.g (i:=0) rfl).2 rfl).elim (fun h=>h.elim) id;refine qg (fun _ hKs=>hKs _ _ ?_);clear hKs;clear e1 l1
 repeat' first|refine zPw ?_|intro _ _ hs|intro K0 hK0
 refine h _ _ hnn ⟨_,[pM xb,pM pb],rfl,fun {H4 l o I R'} hl4 hD hR h0 hr=>?_⟩;exact e298 kt hp (zh hD (.inl (by omega)) hx3) (zh hD (.inl hpb) hm3) hR h0 hr
theorem QE0 {N0:Nat} {HA:List Blk} {t:Tk} (kt:TkOk t) (hN:N0<=HA.length):AlgV N0 HA (fnV 128) t (prsF t (pwF t)):=by
 refine⟨_,[],rfl,fun {H2 b c R} hl hsame gr gw h=>?_⟩;refine avN call128 func128 ntmps128 ?_;refine qo (HS.start H2 none') (fun H3 tb e1 l1 hs=>?_);have hle2:=hs.le;refine qg (fun _ hKs=>hKs _ _ ?_);clear hKs;clear e1 l1;refine qp tok mx [0,0,3,7] [false,false,false,false] (.alt 0 (.first 1 (.first 2 (.first 3 .done))) (.alt 1 (.first 0 (.first 2 (.first 3 .done))) .no)) (by kernel_rfl) ?_;refine qw (fun K0 hK0=>?_)
 repeat' first|refine zPw ?_|intro _ _ hs|intro K0 hK0
 all_goals try refine And.intro ?_ (And.intro ?_ trivial)
 all_goals (
  repeat' first|refine zPw ?_|intro _ _ hs|intro K0 hK0
  refine c230 (fun H4 mb hn=>?_);have hmb:H3.length<=mb:=((hn.g (i:=0) rfl).2 rfl).elim (fun h=>h.elim) id;have hs:=hs.call hn rfl;have hm:=hs.get 0 rfl;have hle:=hn.le;clear hn
  repeat' first|refine zPw ?_|intro _ _ hs|intro K0 hK0|(refine c297 (N0:=N0) kt (by omega) (pt_231 kt) (by omega) hm (fun v' H5 hn hit=>?_);have hs:=qL hs hn)
  exact h _ _ (qc hs) hit
  )
theorem QD0 {N0:Nat} {HA:List Blk} {t:Tk} (kt:TkOk t) (hN:N0<=HA.length):AlgV N0 HA (fnV 129) t (prsF t (xorF)):=by
 refine⟨_,[],rfl,fun {H2 b c R} hl hsame gr gw h=>?_⟩;refine avN call129 func129 ntmps129 ?_;refine qo (HS.start H2 none') (fun H3 tb e1 l1 hs=>?_);have hle2:=hs.le;refine qg (fun _ hKs=>hKs _ _ ?_);clear hKs;clear e1 l1;refine qp tok mx [0,0,3,7] [false,false,false,false] (.alt 0 (.first 1 (.first 2 (.first 3 .done))) (.alt 1 (.first 0 (.first 2 (.first 3 .done))) .no)) (by kernel_rfl) ?_;refine qw (fun K0 hK0=>?_)
 repeat' first|refine zPw ?_|intro _ _ hs|intro K0 hK0
 all_goals try refine And.intro ?_ (And.intro ?_ trivial)
 all_goals (
  repeat' first|refine zPw ?_|intro _ _ hs|intro K0 hK0
  refine c230 (fun H4 mb hn=>?_);have hmb:H3.length<=mb:=((hn.g (i:=0) rfl).2 rfl).elim (fun h=>h.elim) id;have hs:=hs.call hn rfl;have hm:=hs.get 0 rfl;have hle:=hn.le;clear hn
  repeat' first|refine zPw ?_|intro _ _ hs|intro K0 hK0|(refine c297 (N0:=N0) kt (by omega) (pt_232 kt) (by omega) hm (fun v' H5 hn hit=>?_);have hs:=qL hs hn)
  exact h _ _ (qc hs) hit
  )
end Go.Af.Tryz
