/- A part of the proof. -/
import Derived.Test.YtmnjcogpchodhaaGreatMHD
import Derived.Test.YtmnjcogpchodhaaGreatMCA
set_option linter.all false
set_option maxHeartbeats 4000000
set_option maxRecDepth 100000
namespace Go.Af.Tryz
open Go Go.Proofs Tryz
attribute [local irreducible] awp qj qI qK qE qm isCells ql qi qB qx qh roundEnd

def SrV (N0:Nat) (HA:List Blk) (g:Nat) (cs:List Value) (t:Tk) (b c:Nat) (pf:Int->Int->Int):Prop :=
 ∀ {H:List Blk} {r i:Int} {R:Value->List Blk->Prop},HA.length<=H.length->(∀ j,N0<=j->j<HA.length->bget H j=bget HA j)->0<=r/\r<t.pr->0<=i/\i<t.pr->(0<=pf r i/\pf r i<=128->∀ H',HS H none' [] H' -> R (.int .i64 (pf r i)) H')->qj prog g (.int .i64 r :: .int .i64 i::cs) H R
def b1F (t:Tk) (r i:Int):Int:=(r+i) % t.pr
def b2F (t:Tk) (r i:Int):Int:=t.pr+(r-i) % t.pr
theorem sr_236 {N0 xb b c:Nat} {HA:List Blk} {w:Bool} {t:Tk} (kt:TkOk t) (hN:N0<=xb) (hx:bget HA xb=some (.cells w 1 (tkC t b c))):SrV N0 HA 236 [pM xb] t b c (b1F t):=by
 intro H r i R hl hsame hr hi h;have hpr:=kt.pr;have hm:=wO kt (r+i);have hs:HS H none' [(false,xb, .cells w 1 (tkC t b c))] H:=(HS.start H none').add ((hsame xb hN (qJ hx)).trans hx) (fun i p hi=>by simp at hi) (fun e=>by cases e);refine avN call236 func236 ntmps236 ?_;refine qg (fun _ hKs=>hKs _ _ ?_);clear hKs
 repeat' first|refine zRw ?_|intro _ _ hs|intro K0 hK0|(refine hK0 _ _ ?_;clear hK0)|(refine c210 hpr (by omega) (fun H2 hn=>?_);have hs:=qL hs hn)
 exact h (by unfold b1F;omega) _ (qc hs)
theorem sr_237 {N0 xb pb b c:Nat} {HA:List Blk} {w w2:Bool} {t:Tk} (kt:TkOk t) (hN:N0<=xb) (hP:N0<=pb) (hx:bget HA xb=some (.cells w 1 (tkC t b c))) (hp:bget HA pb=some (.cells w2 1 [.int .i64 t.pr])):SrV N0 HA 237 [pM pb,pM xb] t b c (b2F t):=by
 intro H r i R hl hsame hr hi h;have hpr:=kt.pr;have hm:=wO kt (r-i)
 have hne:xb≠pb:=fun e=>by
  have e1:=hx;rw[e,hp] at e1;injection e1 with e1
  injection e1 with _ _ e1
  exact absurd (congrArg List.length e1) (by simp)
 have gx:=(hsame xb hN (qJ hx)).trans hx;have gp:=(hsame pb hP (qJ hp)).trans hp
 have hs:HS H none' [(false,xb, .cells w 1 (tkC t b c)),(false,pb, .cells w2 1 [.int .i64 t.pr])] H:=(adH (HS.start H none') gp).add gx (fun i p hi=>by
  match i,hi with
  | 0,hi=>cases hi;exact hne.symm) (fun e=>by cases e)
 refine avN call237 func237 ntmps237 ?_;refine qg (fun _ hKs=>hKs _ _ ?_);clear hKs;refine qp tok mx [0,0,0,0,12,30,63,127] [true,false,true,true,true,false,false,false] (.first 1 (.first 2 (.first 3 (.first 4 (.alt 0 (.first 5 (.first 6 (.first 7 .done))) (.alt 5 (.first 0 (.first 6 (.first 7 .done))) .no)))))) (by kernel_rfl) ?_;refine qw (fun K0 hK0=>?_)
 repeat' first|refine zRw ?_|intro _ _ hs|intro K0 hK0|(refine hK0 _ _ ?_;clear hK0)
 iterate 3 (
  all_goals try (first | refine And.intro ?_ trivial | refine And.intro ?_ (And.intro ?_ trivial) | refine And.intro ?_ (And.intro ?_ (And.intro ?_ trivial)))
  all_goals try (
   repeat' first|refine zRw ?_|intro _ _ hs|intro K0 hK0|(refine hK0 _ _ ?_;clear hK0)
   )
  all_goals try (
   refine c210 hpr (by omega) (fun H2 hn=>?_);have hs:=qL hs hn
   repeat' first|refine zRw ?_|intro _ _ hs|intro K0 hK0|(refine hK0 _ _ ?_;clear hK0)
   )
  )
 all_goals exact h (by unfold b2F;omega) _ (qc hs)
def buM (t:Tk) (pf:Int->Int->Int) (r i:Int):Msg:=blM t r r (pf r i) (t.pr+i) 0
def buG (t:Tk) (pf:Int->Int->Int) (r:Int):List Msg:=(lpF 64 0 1 t.pr).map (buM t pf r)
def buT (t:Tk) (pf:Int->Int->Int):List Msg:=(lpF 64 0 1 t.pr).flatMap (buG t pf)
theorem c233 {H HA:List Blk} {N0 xb pb b c fg:Nat} {cs:List Value} {wx wp:Bool} {t:Tk} {pf:Int->Int->Int} {R:Value->List Blk->Prop} (kt:TkOk t) (hA:HA.length<=H.length) (hN:N0<=H.length) (hsame : ∀ j,N0<=j->j<HA.length->bget H j=bget HA j)
 (hf:SrV N0 HA fg cs t b c pf) (hx:bget H xb=some (.cells wx 1 (tkC t b c))) (hp:bget H pb=some (.cells wp 1 [.int .i64 t.pr])) (h : ∀ v' H3,HS H none' [] H3->ItV (DN N0 b c) H3 v' [buT t pf]->R v' H3):qj prog 233 [cloV fg cs,pM pb,pM xb] H R:=by
 have hpr:=kt.pr;have hpa:=kt.pa;have htl:(buT t pf).length<=64*64:=QF (fun v=>by unfold buG;rw[List.length_map];exact xY _ _ _ _) _ _
 have hne:xb≠pb:=fun e=>by
  have e1:=hx;rw[e,hp] at e1;injection e1 with e1
  injection e1 with _ _ e1
  exact absurd (congrArg List.length e1) (by simp)
 have hs:HS H none' [(false,xb, .cells wx 1 (tkC t b c)),(false,pb, .cells wp 1 [.int .i64 t.pr])] H:=(adH (HS.start H none') hp).add hx (fun i p hi=>by
  match i,hi with
  | 0,hi=>cases hi;exact hne.symm) (fun e=>by cases e)
 refine avN call233 func233 ntmps233 ?_
 repeat' first|refine zRw ?_|intro _ _ hs|intro K0 hK0|(refine hK0 _ _ ?_;clear hK0)
 refine vC (α := LS) tok (LOk2 H [(false,xb, .cells wx 1 (tkC t b c)),(false,pb, .cells wp 1 [.int .i64 t.pr])] 1 t.pr (buG t pf) (buT t pf) 0)
  (fun z=>[(0,cloV fg cs),(1,pM pb),(2,pM xb),(5,sv z.k z.E.length),(8, .int .i64 t.pr),(9, .int .i64 z.v)]) (fun z=>z.H) (fun z=>z.n)
  ⟨H ++ [mgB []],H.length,[],[],0,64⟩ ⟨hs.virt _,MgIn.nil _,rfl,by dsimp only;omega,Int.le_refl _,Nat.zero_le _⟩ ⟨⟨_,rfl, .rfl⟩,⟨_,rfl, .rfl⟩,⟨_,rfl, .rfl⟩,⟨_,rfl, .nil _⟩,⟨_,rfl, .rfl⟩,⟨_,rfl, .rfl⟩,trivial⟩ (WkH.rfl.app _) ?_
 clear hs;rintro ⟨H2,k,E,M,v,n⟩ hz;have hs:=hz.hs;have hlo:=hz.lo;dsimp only[List.cons_append,List.nil_append] at hs hlo ⊢;by_cases hv:v<t.pr
 ·obtain ⟨m,hm,hlt,hz2,hstep⟩:=hz.step (w:=0) (n2:=64) (d2:=1) hv (by decide) rfl (by omega)
  dsimp only at hm hlt hz2 hstep
  repeat' first|refine zTw ?_|intro _ _ hs|intro K0 hK0|intro hc|refine dI ?_ ?_|(refine hK0 _ _ ?_;clear hK0)
  clear hs hz
  refine qf (α := LS) tok (LOk H [(false,xb, .cells wx 1 (tkC t b c)),(false,pb, .cells wp 1 [.int .i64 t.pr])] 1 t.pr (buM t pf v) (E.map (·.1)++buG t pf v) 0)
   (fun z=>[(0,cloV fg cs),(1,pM pb),(2,pM xb),(5,sv z.k z.E.length),(6, .int .i64 v),(8, .int .i64 t.pr),(9, .int .i64 v),(12, .int .i64 t.pr),(13, .int .i64 z.v)]) (fun z=>z.H) (fun z=>z.n)
   _ hz2 (Or.inl ⟨⟨rfl,rfl,rfl,rfl,rfl,rfl,rfl,rfl,rfl,trivial⟩,rfl⟩) ?_
  clear hz2;rintro ⟨H3,k3,E3,M3,w,n3⟩ hz;have hs:=hz.hs;have hlo3:=hz.lo;dsimp only[List.cons_append,List.nil_append] at hs hlo3 ⊢;by_cases hw:w<t.pr
  ·obtain ⟨m3,hm3,hlt3,hstep3⟩:=hz.step hw (by decide)
   dsimp only[List.cons_append,List.nil_append] at hm3 hlt3 hstep3
   repeat' first|refine zTw ?_|intro _ _ hs|intro K0 hK0|intro hc|refine dI ?_ ?_|(refine hK0 _ _ ?_;clear hK0)
   refine qp tok mx [0,0,0,0,0,0,0,112,0,0,768,2046,4094,8191,16383] [false,false,false,false,false,false,false,false,true,false,true,false,false,false,false] (.first 0 (.first 2 (.first 3 (.first 4 (.first 5 (.first 6 (.first 9 (.alt 1 (.alt 7 (.first 8 (.first 10 (.first 11 (.first 12 (.first 13 (.first 14 .done)))))) (.alt 8 (.first 10 (.first 7 (.first 11 (.first 12 (.first 13 (.first 14 .done)))))) .no)) (.alt 7 (.first 1 (.first 8 (.first 10 (.first 11 (.first 12 (.first 13 (.first 14 .done))))))) (.alt 8 (.first 10 (.alt 1 (.first 7 (.first 11 (.first 12 (.first 13 (.first 14 .done))))) (.alt 7 (.first 1 (.first 11 (.first 12 (.first 13 (.first 14 .done))))) .no))) .no)))))))))) (by kernel_rfl) ?_;refine qw (fun K0 hK0=>?_)
   repeat' first|refine zRw ?_|intro _ _ hs|intro K0 hK0|(refine hK0 _ _ ?_;clear hK0)
   iterate 3 (
    all_goals try (first | refine And.intro ?_ trivial | refine And.intro ?_ (And.intro ?_ trivial) | refine And.intro ?_ (And.intro ?_ (And.intro ?_ trivial)))
    all_goals try (
     repeat' first|refine zRw ?_|intro _ _ hs|intro K0 hK0|(refine hK0 _ _ ?_;clear hK0)
     )
    )
   all_goals (
    refine hf (by have:=hs.le;omega) (fun j hj hlt=>(hs.u.2 j (by omega) id).trans (hsame j hj hlt)) ⟨hlo,hv⟩ ⟨hlo3,hw⟩ (fun hpf H4 hn=>?_);have hs:=qL hs hn;clear hn
    repeat' first|refine zRw ?_|intro _ _ hs|intro K0 hK0|(refine hK0 _ _ ?_;clear hK0)|(refine c222 hpa (by omega) (by omega) (fun H5 x y hn=>?_);have hs:=hs.call hn rfl;clear hn)
    refine vZ hs 3 (us:=mgC (buM t pf v w) x y) rfl (by decide) (hs.get 0 rfl) rfl rfl (by rw[wP]) (by dsimp only;omega) (fun H6 k' _ _ hs=>?_);rw[<- wY] at hs
    repeat' first|refine zRw ?_|intro _ _ hs|intro K0 hK0|(refine hK0 _ _ ?_;clear hK0)
    exact⟨_,hstep3 H6 k' x y ((y,_)::(x,_)::M3) (hs.pickR (A := [_,_,_,_,_,_]) [3,4,5,1,2] (by decide) (A' := [_,_,_,_,_]) rfl) (fun q hq=>List.mem_cons_of_mem _ (List.mem_cons_of_mem _ hq)) (List.mem_cons_of_mem _ List.mem_cons_self) List.mem_cons_self,by dsimp only;omega,Or.inl ⟨⟨rfl,rfl,rfl,by dsimp only;rw[List.length_append];rfl,rfl,rfl,rfl,rfl,rfl,trivial⟩,rfl⟩⟩
    )
  ·have he:=hstep _ hz (by dsimp only;omega)
   dsimp only at he
   repeat' first|refine zTw ?_|intro _ _ hs|intro K0 hK0|intro hc|refine dI ?_ ?_|(refine hK0 _ _ ?_;clear hK0)
   exact⟨_,he,by dsimp only;omega,Or.inl ⟨⟨rfl,rfl,rfl,rfl,rfl,rfl,trivial⟩,rfl⟩⟩
 ·have he:=hz.stop (by dsimp only;omega)
  dsimp only at he
  repeat' first|refine zTw ?_|intro _ _ hs|intro K0 hK0|intro hc|refine dI ?_ ?_|(refine hK0 _ _ ?_;clear hK0)
  have hn:HS H none' ((true,k,mgB E)::rwM M) H2:=hs.pickR (A := [_,_,_]) [0] (by decide) (A' := [_]) rfl;have hM:=MsN.of hN hn hz.inn he;have hel:E.length=(buT t pf).length:=by rw[<- he,List.length_map]
  rw[hel];have hle:=hn.le;refine c215 (N0:=N0) (b:=b) (c:=c) (by omega) hM (fun H3 v' hn2 hit=>?_);have hs:=qL hs hn2
  repeat' first|refine zRw ?_|intro _ _ hs|intro K0 hK0|(refine hK0 _ _ ?_;clear hK0)
  exact h _ _ (qc hs) hit
def andF (a b:Int):Int:=IntKind.i64.wrap ((BitVec.ofInt IntKind.i64.bits a &&& BitVec.ofInt IntKind.i64.bits b).toNat:Int)
def brG (t:Tk) (h i:Int):List Int:=if andF i h=0 then [] else spnF t (t.pr+i) (t.pr+i+1)
def brL (t:Tk) (h:Int):List Int:=(lpF 64 0 1 t.pr).flatMap (brG t h)
def xn (t:Tk) (h r:Int):Msg:=⟨r,(r+h) % t.pr,brL t h,brL t h,0⟩
structure BrS where
 H:List Blk
 k:Nat
 xs:List Int
 v:Int
 n:Nat
theorem Uo {d hi:Int} {g:Int->List Int} {N:Nat} (hg : ∀ v,(g v).length<=N) : ∀ (n:Nat) (v:Int),((lpF n v d hi).flatMap g).length<=n*N
 | 0,_=>by simp[lpF]
 | n+1,v=>by
   rw[lpF];split
   ·have:=Uo (d:=d) (hi:=hi) hg n (v+d)
    have:=hg v;rw[List.flatMap_cons,List.length_append,Nat.add_mul];omega
   ·simp
theorem m235 {t:Tk} (kt:TkOk t) {H:List Blk} {b c pb hb tb:Nat} {wp wh wt:Bool} {i r:Int} {R:Value->List Blk->Prop} (hd:1<=i/\i<t.pr) (hr:0<=r/\r<t.pr)
 (hP:bget H pb=some (.cells wp 1 [.int .i64 t.pr])) (hI:bget H hb=some (.cells wh 1 [.int .i64 i])) (hT:bget H tb=some (.cells wt 1 (tkC t b c))) (hph:pb≠hb) (gr:Gr H t.sz b) (gw:Gw H t.ws b c)
 (h : ∀ H' x y M,HS H none' (rwM M) H' -> (x,(xn t i r).sr)∈M->(y,(xn t i r).ds)∈M->R (mgV (xn t i r) x y) H'):qj prog 235 [.int .i64 r,pM pb,pM hb,pM tb] H R:=by
 have hpr:=kt.pr;have hpa:=kt.pa
 have n1:tb≠pb:=fun e=>by
  have e1:=hT;rw[e,hP] at e1;injection e1 with e1
  injection e1 with _ _ e1
  exact absurd (congrArg List.length e1) (by simp)
 have n2:tb≠hb:=fun e=>by
  have e1:=hT;rw[e,hI] at e1;injection e1 with e1
  injection e1 with _ _ e1
  exact absurd (congrArg List.length e1) (by simp)
 have hs:HS H none' [(false,tb, .cells wt 1 (tkC t b c)),(false,hb, .cells wh 1 [.int .i64 i]),(false,pb, .cells wp 1 [.int .i64 t.pr])] H:=((adH (HS.start H none') hP).add hI (fun i p hi=>by
  match i,hi with
  | 0,hi=>cases hi;exact hph) (fun e=>by cases e)).add hT (fun i p hi=>by
  match i,hi with
  | 0,hi=>cases hi;exact n2.symm
  | 1,hi=>cases hi;exact n1.symm) (fun e=>by cases e)
 have htl:(brL t i).length<=64*16:=Uo (fun v=>by
  unfold brG;split
  ·simp
  ·rw[yS hpa.1];omega) _ _
 refine avN call235 func235 ntmps235 ?_
 repeat' first|refine zRw ?_|intro _ _ hs|intro K0 hK0|(refine hK0 _ _ ?_;clear hK0)
 rename_i b1 H1 _
 refine vC (α := BrS) tok (fun z=>HS H none' [(true,z.k,rw' z.xs),(true,b1, .cells true 1 [.int .i64 0, .int .i64 0, .slice none 0 0, .slice none 0 0, .int .i64 0]),(false,tb, .cells wt 1 (tkC t b c)),(false,hb, .cells wh 1 [.int .i64 i]),(false,pb, .cells wp 1 [.int .i64 t.pr])] z.H/\z.xs++(lpF z.n z.v 1 t.pr).flatMap (brG t i)=brL t i/\t.pr-z.v<=z.n/\0<=z.v)
  (fun z=>[(0, .int .i64 r),(1,pM pb),(2,pM hb),(3,pM tb),(5,pM b1),(6,sv z.k z.xs.length),(8, .int .i64 t.pr),(9, .int .i64 z.v)]) (fun z=>z.H) (fun z=>z.n)
  ⟨H1 ++ [rw' []],H1.length,[],0,64⟩ ⟨pkH (hs.virt _) [0,1,2,3,4],rfl,by dsimp only;omega,Int.le_refl _⟩ ⟨⟨_,rfl, .rfl⟩,⟨_,rfl, .rfl⟩,⟨_,rfl, .rfl⟩,⟨_,rfl, .rfl⟩,⟨_,rfl, .rfl⟩,⟨_,rfl, .nil _⟩,⟨_,rfl, .rfl⟩,⟨_,rfl, .rfl⟩,trivial⟩ (WkH.rfl.app _) ?_
 clear hs;rintro ⟨H2,k,xs,v,n⟩ ⟨hs,he,hf,hv0⟩;dsimp only at hs he hf hv0 ⊢;have hxl:xs.length<=(brL t i).length:=by rw[<- he,List.length_append];omega
 by_cases hv:v<t.pr
 ·obtain ⟨m,hm,hl,hf2⟩:=lp_t (d:=1) hv hf (by decide)
  rw[hl,List.flatMap_cons,<- List.append_assoc] at he;have hband:brG t i v=if andF v i=0 then [] else spnF t (t.pr+v) (t.pr+v+1):=rfl
  by_cases ha:andF v i=0
  ·rw[if_pos ha] at hband
   rw[hband,List.append_nil] at he;unfold andF at ha
   repeat' first|refine zRw ?_|intro _ _ hs|intro K0 hK0|(refine hK0 _ _ ?_;clear hK0)
   refine And.intro (fun hc=>?_) (fun hc=>absurd hv (by simpa using hc))
   repeat' first|refine zRw ?_|intro _ _ hs|intro K0 hK0|(refine hK0 _ _ ?_;clear hK0)
   rw[ha]
   repeat' first|refine zTw ?_|intro _ _ hs|intro K0 hK0|intro hc|refine dI ?_ ?_|(refine hK0 _ _ ?_;clear hK0)
   exact⟨⟨H2,k,xs,v+1,m⟩,⟨hs,he,hf2,by dsimp only;omega⟩,by dsimp only;omega,Or.inl ⟨⟨rfl,rfl,rfl,rfl,rfl,rfl,rfl,rfl,trivial⟩,rfl⟩⟩
  ·rw[if_neg ha] at hband
   rw[hband] at he;have hne0:=ha;unfold andF at hne0;have hsl:=yS hpa.1 (t.pr+v);have m1:=zg (x:=t.pr+v+1) hpa (by omega)
   repeat' first|refine zRw ?_|intro _ _ hs|intro K0 hK0|(refine hK0 _ _ ?_;clear hK0)
   refine And.intro (fun hc=>?_) (fun hc=>absurd hv (by simpa using hc))
   repeat' first|refine zRw ?_|intro _ _ hs|intro K0 hK0|(refine hK0 _ _ ?_;clear hK0)
   refine And.intro (fun hc=>?_) (fun hc=>absurd hne0 (by simpa using hc))
   repeat' first|refine zRw ?_|intro _ _ hs|intro K0 hK0|(refine hK0 _ _ ?_;clear hK0)|(refine c157 (by omega) (by omega) m1 (by omega) (fun H3 k3 hn=>?_);have hs:=hs.call hn rfl;clear hn)
   refine XN hs 1 (m:=(spnF t (t.pr+v) (t.pr+v+1)).length) (n:=xs.length) (us:=ints (spnF t (t.pr+v) (t.pr+v+1))) rfl (by decide) (hs.get 0 rfl) (by omega) (by rw[qU];exact (Nat.mul_one _).symm) (qk0 _) (by rw[qU];exact (Nat.mul_one _).symm) (by show (_+_)*(8+1)<=_;omega) (fun H4 k' _ _ hs=>?_);rw[<- zi] at hs
   repeat' first|refine zRw ?_|intro _ _ hs|intro K0 hK0|(refine hK0 _ _ ?_;clear hK0)
   exact⟨⟨H4,k',_,v+1,m⟩,⟨pkH hs [1,2,3,4,5],he,hf2,by dsimp only;omega⟩,by dsimp only;omega,Or.inl ⟨⟨rfl,rfl,rfl,rfl,rfl,by dsimp only;rw[List.length_append];rfl,rfl,rfl,trivial⟩,rfl⟩⟩
 ·rw[lp_f (by omega),List.flatMap_nil,List.append_nil] at he
  repeat' first|refine zTw ?_|intro _ _ hs|intro K0 hK0|intro hc|refine dI ?_ ?_|(refine hK0 _ _ ?_;clear hK0)
  first
   | refine zq (gr.up (qc hs)) (gw.up (qc hs)) hpr (by omega) ?_
   | refine (zq (gr.up (qc hs)) (gw.up (qc hs)) hpr (by omega) ?_).call
  repeat' first|refine zRw ?_|intro _ _ hs|intro K0 hK0|(refine hK0 _ _ ?_;clear hK0)|refine c200 rfl (kNo hs (fun H3 hs=>?_))
  change resK T _ _ _ _;refine vV (by rfl) (by rfl) (hs.get 1 rfl) (by rfl) ?_;refine⟨_,rfl,_,rfl,_,rfl,_,rfl,_,rfl, ?_⟩;subst he;exact h _ k k [(k,_)] (pkH hs [0]) (List.mem_singleton.2 rfl) (List.mem_singleton.2 rfl)
theorem mk_234 {N0 pb:Nat} {HA:List Blk} {w:Bool} {t:Tk} (kt:TkOk t) (hN:N0<=pb) (hp:bget HA pb=some (.cells w 1 [.int .i64 t.pr])):MkC N0 HA 234 [pM pb] t (dPw t) (evF t (xn t)):=by
 intro H b c i R hl hsame hd gr gw h;obtain ⟨hd1,hd2,_⟩:=hd;have hp2:=(hsame pb hN (qJ hp)).trans hp;refine avN call234 func234 ntmps234 ?_;refine qo (HS.start H none') (fun H1 b1 e1 l1 hs=>?_);refine qo hs (fun H2 b2 e2 l2 hs=>?_);have hp3:=vz (qc hs) hp2;have hne:pb≠b2:=fun e=>by have:=qJ hp2;omega
 refine qg (fun _ hKs=>hKs _ _ ?_);clear hKs;clear e1 l1 e2 l2
 repeat' first|refine zRw ?_|intro _ _ hs|intro K0 hK0|(refine hK0 _ _ ?_;clear hK0)
 refine c207 kt.pr (mk:=fun r=>xn t i r) (fun H3 R' r hr hn hk=>m235 kt ⟨hd1,hd2⟩ hr (vz hn hp3) (vz hn (hs.get 0 rfl)) (vz hn (hs.get 1 rfl)) hne ((gr.up (qc hs)).up hn) ((gw.up (qc hs)).up hn) hk) (fun H3 k E M hn hin hE=>?_);have hs:=hs.call hn (zO rfl _);clear hn
 repeat' first|refine zRw ?_|intro _ _ hs|intro K0 hK0|(refine hK0 _ _ ?_;clear hK0)
 exact h _ k E M (hs.left (L:=_::rwM M)) hin hE
end Go.Af.Tryz
namespace Go.Af.Tryz
open Go Go.Proofs
attribute [local irreducible] awp qj qI qK qE qm isCells ql qi qB qx qh roundEnd

theorem QC0 {N0:Nat} {HA:List Blk} {t:Tk} (kt:TkOk t) (hN:N0<=HA.length):AlgV N0 HA (fnV 130) t ([buT t (b1F t)]++(powF (evF t (xn t)) t.pr ++ [buT t (b2F t)])):=by
 refine⟨_,[],rfl,fun {H2 b c R} hl hsame gr gw h=>?_⟩;refine avN Tryz.call130 Tryz.func130 Tryz.ntmps130 ?_;refine qo (HS.start H2 none') (fun H3 xb e1 l1 hs=>?_);have hxb:H2.length<=xb:=((hs.g (i:=0) rfl).2 rfl).elim (fun h=>h.elim) id;refine qg (fun _ hKs=>hKs _ _ ?_);clear hKs;clear e1 l1
 repeat' first|refine sX hs (fun _ hs=>?_)|refine zRw ?_|intro _ _ hs|intro K0 hK0|(refine hK0 _ _ ?_;clear hK0)
 rename_i pb _ _ H4 _;have hpb:H2.length<=pb:=((hs.g (i:=0) rfl).2 rfl).elim (fun h=>h.elim) id;refine c203 (f:=234) (cs := [pM pb]) (fun H5 mb hn=>?_);have hmb:H4.length<=mb:=((hn.g (i:=0) rfl).2 rfl).elim (fun h=>h.elim) id;have hle4:=hs.le;have hs:=hs.call hn rfl;have hle5:=hn.le;clear hn
 repeat' first|refine sX hs (fun _ hs=>?_)|refine zRw ?_|intro _ _ hs|intro K0 hK0|(refine hK0 _ _ ?_;clear hK0)
 refine qp tok mx [0,0,3,0,0,31,0,0,255,511,1023,2047] [false,false,false,false,false,false,false,false,false,false,false,false] (.first 0 (.first 1 (.first 3 (.first 6 (.first 7 (.alt 2 (.first 4 (.first 5 (.first 8 (.first 9 (.first 10 (.first 11 .done)))))) (.alt 4 (.first 2 (.first 5 (.first 8 (.first 9 (.first 10 (.first 11 .done)))))) .no))))))) (by kernel_rfl) ?_;refine qw (fun K0 hK0=>?_)
 repeat' first|refine sX hs (fun _ hs=>?_)|refine zRw ?_|intro _ _ hs|intro K0 hK0|(refine hK0 _ _ ?_;clear hK0)
 iterate 3 (
  all_goals try (first | refine And.intro ?_ trivial | refine And.intro ?_ (And.intro ?_ trivial) | refine And.intro ?_ (And.intro ?_ (And.intro ?_ trivial)))
  all_goals try (
   repeat' first|refine sX hs (fun _ hs=>?_)|refine zRw ?_|intro _ _ hs|intro K0 hK0|(refine hK0 _ _ ?_;clear hK0)
   )
  )
 all_goals (
  refine c233 (N0:=N0) (HA:=H5) (fg:=236) (cs := [pM xb]) kt (Nat.le_refl _) (by omega) (fun _ _ _=>rfl) (sr_236 kt (by omega) (hs.get 2 rfl)) (hs.get 2 rfl) (hs.get 1 rfl) (fun v1 H6 hn hit1=>?_);have hs:=qL hs hn;have hle6:=hn.le;clear hn
  repeat' first|refine sX hs (fun _ hs=>?_)|refine zRw ?_|intro _ _ hs|intro K0 hK0|(refine hK0 _ _ ?_;clear hK0)
  iterate 2 (
   all_goals try (first | refine And.intro ?_ trivial | refine And.intro ?_ (And.intro ?_ trivial) | refine And.intro ?_ (And.intro ?_ (And.intro ?_ trivial)))
   all_goals try (
    repeat' first|refine sX hs (fun _ hs=>?_)|refine zRw ?_|intro _ _ hs|intro K0 hK0|(refine hK0 _ _ ?_;clear hK0)
    )
   )
  all_goals (
   refine c292 (N0:=N0) (HA:=H6) (f:=234) (cs := [pM pb]) kt (Nat.le_refl _) (by omega) (by omega) (hs.get 0 rfl) (fun _ _ _=>rfl) (mk_234 kt (by omega) (hs.get 1 rfl)) (gr.up (qc hs)) (gw.up (qc hs)) (fun v2 H7 hn hit2=>?_);have hit1:=hit1.keep hn;have hs:=qL hs hn;have hle7:=hn.le;clear hn
   repeat' first|refine sX hs (fun _ hs=>?_)|refine zRw ?_|intro _ _ hs|intro K0 hK0|(refine hK0 _ _ ?_;clear hK0)
   iterate 2 (
    all_goals try (first | refine And.intro ?_ trivial | refine And.intro ?_ (And.intro ?_ trivial) | refine And.intro ?_ (And.intro ?_ (And.intro ?_ trivial)))
    all_goals try (
     repeat' first|refine sX hs (fun _ hs=>?_)|refine zRw ?_|intro _ _ hs|intro K0 hK0|(refine hK0 _ _ ?_;clear hK0)
     )
    )
   all_goals (
    refine c233 (N0:=N0) (HA:=H7) (fg:=237) (cs := [pM pb,pM xb]) kt (Nat.le_refl _) (by omega) (fun _ _ _=>rfl) (sr_237 kt (by omega) (by omega) (hs.get 2 rfl) (hs.get 1 rfl)) (hs.get 2 rfl) (hs.get 1 rfl) (fun v3 H8 hn hit3=>?_);have hit1:=hit1.keep hn;have hit2:=hit2.keep hn;have hs:=qL hs hn;have hle8:=hn.le;clear hn;obtain ⟨g1,cs1,rfl⟩:=hit1.form;obtain ⟨g2,cs2,rfl⟩:=hit2.form;obtain ⟨g3,cs3,rfl⟩:=hit3.form;have hs0:=hs;have hle0:=hs.le;clear hs;have hs:=HS.start H8 none'
    repeat' first|refine sX hs (fun _ hs=>?_)|refine zRw ?_|intro _ _ hs|intro K0 hK0|(refine hK0 _ _ ?_;clear hK0)
    rename_i k9 H9;have hk9:=((hs.g (i:=0) rfl).2 rfl).elim (fun h=>h.elim) id;have hb9:=hs.get 0 rfl;have hle9:=hs.le;refine c211 (N0:=N0) (b:=b) (c:=c) (k:=k9) (its := [cloV g1 cs1,cloV g2 cs2,cloV g3 cs3]) (rss := [_,_,_]) (by omega) (by omega) hb9 rfl (by simp) (its3 (hit1.keep (qc hs)) (hit2.keep (qc hs)) (hit3.keep (qc hs))) (fun H10 v9 hn hit=>?_);have hs:=qL (hs0.call hs rfl) hn;clear hn hs0;rw[List.flatten_cons,List.flatten_cons,List.flatten_cons,List.flatten_nil,List.append_nil] at hit
    repeat' first|refine sX hs (fun _ hs=>?_)|refine zRw ?_|intro _ _ hs|intro K0 hK0|(refine hK0 _ _ ?_;clear hK0)
    exact h _ _ (qc hs) hit
    )
   )
  )
end Go.Af.Tryz
