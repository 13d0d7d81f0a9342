/- A part of the proof. -/
import Derived.Test.YtmnjcogpchodhaaGreatMHC
import Derived.Test.YtmnjcogpchodhaaGreatMGH
import Derived.Test.YtmnjcogpchodhaaGreatMCA
set_option linter.all false
set_option maxHeartbeats 4000000
set_option maxRecDepth 100000
namespace Go.Af.Tryz
open Go Go.Proofs Tryz
attribute [local irreducible] awp qj qI qK qE qm isCells ql qi qB qx qh roundEnd
variable {H:List Blk}

theorem AlgV.clo {N0 f:Nat} {cs:List Value} {HA:List Blk} {t:Tk} {rs:List (List Msg)} (h:AlgV N0 HA (cloV f cs) t rs) {H2:List Blk} {b c:Nat} {R:Value->List Blk->Prop} (hl:HA.length<=H2.length) (hs : ∀ j,N0<=j->j<HA.length->bget H2 j=bget HA j) (gr:Gr H2 t.sz b) (gw:Gw H2 t.ws b c)
 (hk : ∀ v' H3,HS H2 none' [] H3->ItV (DN N0 b c) H3 v' rs->R v' H3):qj prog f (tkV t b c::cs) H2 R:=by
 obtain ⟨g,ds,e,k⟩:=h;injection e with e1 e2 e3
 injection e1 with e1
 injection e3 with e3
 subst e1 e3;exact k hl hs gr gw hk
theorem ItV.keep {D:Nat->Prop} {H H' : List Blk} {v:Value} {rs:List (List Msg)} (h:ItV D H v rs) (hn:HS H none' [] H'):ItV D H' v rs:=h.hs hn.le (fun j _ hlt=>hn.u.2 j hlt id)
theorem its2 {D:Nat->Prop} {v1 v2:Value} {r1 r2:List (List Msg)} (h1:ItV D H v1 r1) (h2:ItV D H v2 r2) : ∀ i (h:i < [v1,v2].length) (h2:i < [r1,r2].length),ItV D H [v1,v2][i] [r1,r2][i]:=fun i h _=>by
 match i,h with
 | 0,_=>exact h1
 | 1,_=>exact h2
theorem its3 {D:Nat->Prop} {v1 v2 v3:Value} {r1 r2 r3:List (List Msg)} (h1:ItV D H v1 r1) (h2:ItV D H v2 r2) (h3:ItV D H v3 r3) : ∀ i (h:i < [v1,v2,v3].length) (h2:i < [r1,r2,r3].length),ItV D H [v1,v2,v3][i] [r1,r2,r3][i]:=fun i h _=>by
 match i,h with
 | 0,_=>exact h1
 | 1,_=>exact h2
 | 2,_=>exact h3
theorem ItV.form {D:Nat->Prop} {v:Value} {rs:List (List Msg)} (h:ItV D H v rs) : ∃ g cs,v=cloV g cs:=by
 obtain ⟨g,cs,e,_⟩:=h;exact⟨g,cs,e⟩
theorem zp0 {N0:Nat} {HA:List Blk} {t:Tk} (kt:TkOk t) (hN:N0<=HA.length):AlgV N0 HA (fnV 116) t (powF (rdT t) t.pr++powF (bcT t) t.pr):=by
 refine⟨_,[],rfl,fun {H2 b c R} hl hsame gr gw h=>?_⟩;refine avN call116 func116 ntmps116 ?_;refine qo (HS.start H2 none') (fun H3 tb e1 l1 hs=>?_);have hle2:=hs.le;refine qg (fun _ hKs=>hKs _ _ ?_);clear hKs;clear e1 l1;refine qp tok mx [0,1,0,7,15,31,63] [false,false,true,false,false,false,false] (.first 0 (.alt 1 (.first 2 (.first 3 (.first 4 (.first 5 (.first 6 .done))))) (.alt 2 (.first 1 (.first 3 (.first 4 (.first 5 (.first 6 .done))))) .no))) (by kernel_rfl) ?_;refine qw (fun K0 hK0=>?_)
 repeat' first|refine zRw ?_|intro _ _ hs|intro K0 hK0|(refine hK0 _ _ ?_;clear hK0)
 all_goals try refine And.intro ?_ (And.intro ?_ trivial)
 all_goals (
  repeat' first|refine zRw ?_|intro _ _ hs|intro K0 hK0|(refine hK0 _ _ ?_;clear hK0)
  refine (zq0 (N0:=N0) (HA:=H3) kt (by omega) (yz0 kt)).clo (Nat.le_refl _) (fun _ _ _=>rfl) (gr.up (qc hs)) (gw.up (qc hs)) (fun v1 H4 hn hit1=>?_);have hs:=qL hs hn;have hle:=hn.le;clear hn
  repeat' first|refine zRw ?_|intro _ _ hs|intro K0 hK0|(refine hK0 _ _ ?_;clear hK0)
  refine (zt0 (N0:=N0) (HA:=H4) kt (by omega) (yA0 kt)).clo (Nat.le_refl _) (fun _ _ _=>rfl) (gr.up (qc hs)) (gw.up (qc hs)) (fun v2 H5 hn hit2=>?_);have hit1:=hit1.keep hn;have hs:=qL hs hn;have hle:=hn.le;clear hn;obtain ⟨g1,cs1,rfl⟩:=hit1.form;obtain ⟨g2,cs2,rfl⟩:=hit2.form;have hs0:=hs;have hle0:=hs.le;clear hs;have hs:=HS.start H5 none'
  repeat' first|refine zRw ?_|intro _ _ hs|intro K0 hK0|(refine hK0 _ _ ?_;clear hK0)
  rename_i k9 H9;have hk9:=((hs.g (i:=0) rfl).2 rfl).elim (fun h=>h.elim) id;have hb9:=hs.get 0 rfl;have hle9:=hs.le;refine c211 (N0:=N0) (b:=b) (c:=c) (k:=k9) (its := [cloV g1 cs1,cloV g2 cs2]) (rss := [_,_]) (by omega) (by omega) hb9 rfl (by simp) (its2 (hit1.keep (qc hs)) (hit2.keep (qc hs))) (fun H10 v9 hn hit=>?_);have hs:=qL (hs0.call hs rfl) hn;clear hn hs0;rw[List.flatten_cons,List.flatten_cons,List.flatten_nil,List.append_nil] at hit
  repeat' first|refine zRw ?_|intro _ _ hs|intro K0 hK0|(refine hK0 _ _ ?_;clear hK0)
  exact h _ _ (qc hs) hit
  )
theorem c198 {H2:List Blk} {N0 mb f b c:Nat} {w:Bool} {t:Tk} {ms:Int->List Msg} {R:Value->List Blk->Prop} (kt:TkOk t) (hN:N0<=H2.length) (hmb:N0<=mb) (hm:bget H2 mb=some (.cells w 1 [fnV f])) (hf:MkV f t (fun i=>0<=i/\i<t.pr-1) ms) (gr:Gr H2 t.sz b) (gw:Gw H2 t.ws b c)
 (h : ∀ v' H3,HS H2 none' [] H3->ItV (DN N0 b c) H3 v' (qM ms t.pr)->R v' H3):qj prog 198 [tkV t b c,pM mb] H2 R :=
 (xI kt hN hmb hm hf).clo (Nat.le_refl _) (fun _ _ _=>rfl) gr gw h
theorem QK0 {N0:Nat} {HA:List Blk} {t:Tk} (kt:TkOk t) (hN:N0<=HA.length):AlgV N0 HA (fnV 118) t (qM (evF t (yH t)) t.pr++qM (evF t (yD t)) t.pr):=by
 refine⟨_,[],rfl,fun {H2 b c R} hl hsame gr gw h=>?_⟩;refine avN call118 func118 ntmps118 ?_;refine qo (HS.start H2 none') (fun H3 tb e1 l1 hs=>?_);have hle2:=hs.le;refine qg (fun _ hKs=>hKs _ _ ?_);clear hKs;clear e1 l1
 repeat' first|refine zRw ?_|intro _ _ hs|intro K0 hK0|(refine hK0 _ _ ?_;clear hK0)
 refine c109 (fun H4 mb hn=>?_);have hmb:H3.length<=mb:=((hn.g (i:=0) rfl).2 rfl).elim (fun h=>h.elim) id;have hs:=hs.call hn rfl;have hle:=hn.le;clear hn
 repeat' first|refine zRw ?_|intro _ _ hs|intro K0 hK0|(refine hK0 _ _ ?_;clear hK0)
 refine c109 (fun H5 mb2 hn=>?_);have hmb2:H4.length<=mb2:=((hn.g (i:=0) rfl).2 rfl).elim (fun h=>h.elim) id;have hs:=hs.call hn rfl;have hle4:=hn.le;clear hn
 repeat' first|refine zRw ?_|intro _ _ hs|intro K0 hK0|(refine hK0 _ _ ?_;clear hK0)
 refine qp tok mx [0,0,3,0,0,31,63,127,255] [false,false,false,true,true,false,false,false,false] (.first 0 (.first 1 (.first 3 (.alt 2 (.first 4 (.first 5 (.first 6 (.first 7 (.first 8 .done))))) (.alt 4 (.first 2 (.first 5 (.first 6 (.first 7 (.first 8 .done))))) .no))))) (by kernel_rfl) ?_;refine qw (fun K0 hK0=>?_)
 repeat' first|refine zRw ?_|intro _ _ hs|intro K0 hK0|(refine hK0 _ _ ?_;clear hK0)
 all_goals try refine And.intro ?_ (And.intro ?_ trivial)
 all_goals (
  repeat' first|refine zRw ?_|intro _ _ hs|intro K0 hK0|(refine hK0 _ _ ?_;clear hK0)
  refine c198 (N0:=N0) kt (by omega) (by omega) (hs.get 1 rfl) (mk_217 kt) (gr.up (qc hs)) (gw.up (qc hs)) (fun v1 H6 hn hit1=>?_);have hs:=qL hs hn;have hle6:=hn.le;clear hn
  repeat' first|refine zRw ?_|intro _ _ hs|intro K0 hK0|(refine hK0 _ _ ?_;clear hK0)
  refine c198 (N0:=N0) kt (by omega) (by omega) (hs.get 0 rfl) (mk_219 kt) (gr.up (qc hs)) (gw.up (qc hs)) (fun v2 H7 hn hit2=>?_);have hit1:=hit1.keep hn;have hs:=qL hs hn;have hle7:=hn.le;clear hn;obtain ⟨g1,cs1,rfl⟩:=hit1.form;obtain ⟨g2,cs2,rfl⟩:=hit2.form;have hs0:=hs;have hle0:=hs.le;clear hs;have hs:=HS.start H7 none'
  repeat' first|refine zRw ?_|intro _ _ hs|intro K0 hK0|(refine hK0 _ _ ?_;clear hK0)
  rename_i k9 H9;have hk9:=((hs.g (i:=0) rfl).2 rfl).elim (fun h=>h.elim) id;have hb9:=hs.get 0 rfl;have hle9:=hs.le;refine c211 (N0:=N0) (b:=b) (c:=c) (k:=k9) (its := [cloV g1 cs1,cloV g2 cs2]) (rss := [_,_]) (by omega) (by omega) hb9 rfl (by simp) (its2 (hit1.keep (qc hs)) (hit2.keep (qc hs))) (fun H10 v9 hn hit=>?_);have hs:=qL (hs0.call hs rfl) hn;clear hn hs0;rw[List.flatten_cons,List.flatten_cons,List.flatten_nil,List.append_nil] at hit
  repeat' first|refine zRw ?_|intro _ _ hs|intro K0 hK0|(refine hK0 _ _ ?_;clear hK0)
  exact h _ _ (qc hs) hit
  )
end Go.Af.Tryz
namespace Go.Af.Tryz
open Go Go.Proofs Tryz
attribute [local irreducible] awp qj qI qK qE qm isCells ql qi qB qx qh roundEnd

def OfV (N0:Nat) (HA:List Blk) (g:Nat) (fs cs:List Value) (t:Tk) (b c:Nat) (of:Int->List Int):Prop :=
 ∀ {H:List Blk} {v:Int} {R:Value->List Blk->Prop},HA.length<=H.length->(∀ j,N0<=j->j<HA.length->bget H j=bget HA j)->0<=v/\v<t.pr->Gr H t.sz b->Gw H t.ws b c->(∀ H' k,HS H none' [(true,k,rw' (of v))] H' -> R (sv k (of v).length) H')->qj prog g (fs ++ .int .i64 v::cs) H R
abbrev fvV (g:Nat) (fs cs:List Value):Value := .func (.func g) ⟨fs⟩ ⟨cs⟩
def hgF (lg i:Nat):Int:=if i<lg then (2:Int) ^ (lg-1-i) else 0
theorem VI : ∀ lg,lg<7->∀ i,i<lg->(hgF lg i).tdiv 2=hgF lg (i+1)/\1<=hgF lg i/\hgF lg i<=32/\0<=(hgF lg i).tdiv 2/\(hgF lg i).tdiv 2<=32:=by decide
theorem XF : ∀ lg,lg<7->((2:Int) ^ lg).tdiv 2=hgF lg 0/\0<=hgF lg 0/\hgF lg 0<=32:=by decide
def deM (t:Tk) (of:Int->List Int) (h v i:Int):Msg:=⟨relF t v,relF t (v+h),of i,of i,0⟩
def deG (t:Tk) (of:Int->List Int) (h v:Int):List Msg:=(lpF 64 (v+h) 1 (min (v+2*h) t.pr)).map (deM t of h v)
def deR (t:Tk) (of:Int->List Int) (h:Int):List Msg:=(lpF 64 0 (2*h) (t.pr-h)).flatMap (deG t of h)
def wC (t:Tk) (of:Int->List Int):List (List Msg):=(List.range (lgF t.pr)).map (fun i=>deR t of (hgF (lgF t.pr) i))
theorem e295 {H HA:List Blk} {N0 l xb fb b c fg:Nat} {fs cs:List Value} {wx wm:Bool} {t:Tk} {o:Nat->Prop} {of:Int->List Int} {I:List (List Msg)->(Nat->Prop)->List Blk->Prop} {R:List Blk->Prop} (kt:TkOk t) (hx:Own o H xb (.cells wx 1 (tkC t b c))) (hm:Own o H fb (.cells wm 1 [fvV fg fs cs])) (g:Tb o H t b c) (hA:HA.length<=H.length) (hk:Kp (fun j=>N0<=j) HA o H)
 (hof:OfV N0 HA fg fs cs t b c of) (hR:RoundsM l H.length (wC t of) I) (h0:I [] o H) (h : ∀ o' H',I (wC t of) o' H' -> R H'):qj prog 295 [yM l,pM xb,pM fb] H (fun _ H' => R H'):=by
 have hpr:=kt.pr;have hro:=kt.ro;have hrl:(wC t of).length=lgF t.pr:=by simp[wC]
 have hlg:=wL t.pr;refine avN call295 func295 ntmps295 ?_
 have hne:xb≠fb:=fun e=>by
  have e1:=hx.1;rw[e,hm.1] at e1;cases e1
 have hs:HS H none' [(false,xb, .cells wx 1 (tkC t b c)),(false,fb, .cells wm 1 [fvV fg fs cs])] H:=((HS.start H none').add hm.1 (fun i p hi=>by simp at hi) (fun e=>by cases e)).add hx.1 (fun i p hi=>by
  match i,hi with
  | 0,hi=>cases hi;exact hne.symm) (fun e=>by cases e)
 refine qg (fun _ hKs=>hKs _ _ ?_);clear hKs
 refine qf (α := Nat) tok (fun i=>i<=lgF t.pr) (fun i=>[(0,yM l),(1,pM xb),(2,pM fb),(4, .int .i64 ((2:Int) ^ i))]) (fun _=>H) (fun i=>lgF t.pr-i)
  0 (Nat.zero_le _) (Or.inl ⟨⟨rfl,rfl,rfl,rfl,trivial⟩,rfl⟩) ?_
 intro i hi;have hi6:i<=6:=by omega
 have hpw:=zL hi6;have hlt2:=Wp hpr.2 hi6;have hsu:(2:Int) ^ (i+1)=2 ^ i*2:=Int.pow_succ 2 i;have hex:i=lgF t.pr->((2:Int) ^ i).tdiv 2=hgF (lgF t.pr) 0/\0<=hgF (lgF t.pr) 0/\hgF (lgF t.pr) 0<=32:=fun e=>by rw[e];exact XF _ (by omega)
 generalize hhh:(2:Int) ^ i=hh at hpw hlt2 hsu hex ⊢
 repeat' first|refine zRw ?_|intro _ _ hs|intro K0 hK0|(refine hK0 _ _ ?_;clear hK0)
 refine And.intro (fun hc=>?_) (fun hc=>?_)
 ·have hpl:hh<t.pr:=by simpa using hc
  have hlg2:i<lgF t.pr:=hlt2.1 hpl;clear hc
  repeat' first|refine zRw ?_|intro _ _ hs|intro K0 hK0|(refine hK0 _ _ ?_;clear hK0)
  exact⟨i+1,hlg2,by omega,Or.inl ⟨⟨rfl,rfl,rfl,by rw[hsu];rfl,trivial⟩,rfl⟩⟩
 ·have hie : ¬ hh<t.pr:=by simpa using hc
  have hie2:i=lgF t.pr:=by
   have : ¬ i<lgF t.pr:=fun h=>hie (hlt2.2 h)
   omega
  obtain ⟨hex,hex2⟩:=hex hie2;rw[<- hex] at hex2;clear hc
  repeat' first|refine zRw ?_|intro _ _ hs|intro K0 hK0|(refine hK0 _ _ ?_;clear hK0)
  rw[hex];clear hs
  refine qf (α := YS) tok (fun z=>H.length<=z.H.length/\I ((wC t of).take z.i) z.o z.H/\Own z.o z.H xb (.cells wx 1 (tkC t b c))/\Own z.o z.H fb (.cells wm 1 [fvV fg fs cs])/\Tb z.o z.H t b c/\Kp (fun j=>N0<=j) HA z.o z.H/\z.i<=lgF t.pr)
   (fun z=>[(0,yM l),(1,pM xb),(2,pM fb),(4, .int .i64 (hgF (lgF t.pr) z.i))]) (fun z=>z.H) (fun z=>lgF t.pr-z.i)
   ⟨H,o,0⟩ ⟨Nat.le_refl _,h0,hx,hm,g,hk,Nat.zero_le _⟩ (Or.inl ⟨⟨rfl,rfl,rfl,rfl,trivial⟩,rfl⟩) ?_
  clear hx hm g h0 hk;rintro ⟨H2,o2,j⟩ ⟨hl,hI,hx,hm,g,hk,hj⟩;dsimp only at hl hI hx hm g hk hj ⊢
  have hs:HS H2 none' [(false,xb, .cells wx 1 (tkC t b c)),(false,fb, .cells wm 1 [fvV fg fs cs])] H2:=((HS.start H2 none').add hm.1 (fun i p hi=>by simp at hi) (fun e=>by cases e)).add hx.1 (fun i p hi=>by
   match i,hi with
   | 0,hi=>cases hi;exact hne.symm) (fun e=>by cases e)
  by_cases hjl:j<lgF t.pr
  ·obtain ⟨hn1,hn2,hn3,hn4,hn5⟩:=VI (lgF t.pr) (by omega) j hjl
   have hlt:j<(wC t of).length:=by omega
   have hms:(wC t of)[j]! = deR t of (hgF (lgF t.pr) j):=by rw[getElem!_pos _ j hlt];simp[wC]
   generalize hhg:hgF (lgF t.pr) j=hg at hn1 hn2 hn3 hn4 hn5 hms ⊢;have gr:=g.r;have gw:=g.w;have htl:(deR t of hg).length<=64*64:=QF (fun v=>by unfold deG;rw[List.length_map];exact xY _ _ _ _) _ _
   repeat' first|refine zTw ?_|intro _ _ hs|intro K0 hK0|intro hc|refine dI ?_ ?_|(refine hK0 _ _ ?_;clear hK0)
   refine vC (α := LS) tok (fun z=>LOk2 H2 [(false,xb, .cells wx 1 (tkC t b c)),(false,fb, .cells wm 1 [fvV fg fs cs])] (2*hg) (t.pr-hg) (deG t of hg) (deR t of hg) 0 z/\z.v<=1000)
    (fun z=>[(0,yM l),(1,pM xb),(2,pM fb),(4, .int .i64 hg),(5,sv z.k z.E.length),(6, .int .i64 z.v)]) (fun z=>z.H) (fun z=>z.n)
    ⟨H2 ++ [mgB []],H2.length,[],[],0,64⟩ ⟨⟨hs.virt _,MgIn.nil _,rfl,by dsimp only;omega,Int.le_refl _,Nat.zero_le _⟩,by dsimp only;omega⟩ ⟨⟨_,rfl, .rfl⟩,⟨_,rfl, .rfl⟩,⟨_,rfl, .rfl⟩,⟨_,rfl, .rfl⟩,⟨_,rfl, .nil _⟩,⟨_,rfl, .rfl⟩,trivial⟩ (WkH.rfl.app _) ?_
   clear hs;rintro ⟨H3,k,E,M,v,n⟩ ⟨hz,hvm⟩;have hs:=hz.hs;have hlo:=hz.lo;dsimp only[List.cons_append,List.nil_append] at hs hlo hvm ⊢;by_cases hv:v<t.pr-hg
   ·obtain ⟨m,hmm,hlt2,hz2,hstep⟩:=hz.step (w:=v+hg) (n2:=64) (d2:=1) hv (by omega) rfl (by omega)
    dsimp only at hmm hlt2 hz2 hstep
    repeat' first|refine zTw ?_|intro _ _ hs|intro K0 hK0|intro hc|refine dI ?_ ?_|(refine hK0 _ _ ?_;clear hK0)
    clear hs hz
    refine qf (α := LS) tok (LOk H2 [(false,xb, .cells wx 1 (tkC t b c)),(false,fb, .cells wm 1 [fvV fg fs cs])] 1 (min (v+2*hg) t.pr) (deM t of hg v) (E.map (·.1)++deG t of hg v) (v+hg))
     (fun z=>[(0,yM l),(1,pM xb),(2,pM fb),(4, .int .i64 hg),(5,sv z.k z.E.length),(6, .int .i64 v),(7, .int .i64 z.v)]) (fun z=>z.H) (fun z=>z.n)
     _ hz2 (Or.inl ⟨⟨rfl,rfl,rfl,rfl,rfl,rfl,rfl,trivial⟩,rfl⟩) ?_
    clear hz2;rintro ⟨H4,k3,E3,M3,w,n3⟩ hz;have hs:=hz.hs;have hlo3:=hz.lo;dsimp only[List.cons_append,List.nil_append] at hs hlo3 ⊢;by_cases hw:w<min (v+2*hg) t.pr
    ·obtain ⟨m3,hm3,hlt3,hstep3⟩:=hz.step hw (by decide)
     dsimp only[List.cons_append,List.nil_append] at hm3 hlt3 hstep3
     repeat' first|refine zTw ?_|intro _ _ hs|intro K0 hK0|intro hc|refine dI ?_ ?_|(refine hK0 _ _ ?_;clear hK0)
     refine qp tok mx [0,0,0,6,0,0,0,96,254,0,0,2046,4094,8190,16383,32767] [false,false,true,true,true,true,true,true,true,true,true,false,false,false,false,false] (.first 0 (.first 1 (.first 2 (.first 4 (.first 5 (.first 6 (.first 7 (.first 9 (.first 10 (.first 3 (.first 8 (.first 11 (.first 12 (.first 13 (.first 14 (.first 15 .done)))))))))))))))) (by kernel_rfl) ?_;refine qw (fun K0 hK0=>?_)
     repeat' first|refine zRw ?_|intro _ _ hs|intro K0 hK0|(refine hK0 _ _ ?_;clear hK0)
     first
      | refine wz (gr.up (qc hs)) (gw.up (qc hs)) hpr hro (by omega) ?_
      | refine (wz (gr.up (qc hs)) (gw.up (qc hs)) hpr hro (by omega) ?_).call
     repeat' first|refine zRw ?_|intro _ _ hs|intro K0 hK0|(refine hK0 _ _ ?_;clear hK0)
     first
      | refine wz (gr.up (qc hs)) (gw.up (qc hs)) hpr hro (by omega) ?_
      | refine (wz (gr.up (qc hs)) (gw.up (qc hs)) hpr hro (by omega) ?_).call
     repeat' first|refine zRw ?_|intro _ _ hs|intro K0 hK0|(refine hK0 _ _ ?_;clear hK0)
     refine hof (by have:=hs.le;omega) (fun j hj hlt=>(hs.u.2 j (by omega) id).trans (hk j hj hlt).2) ⟨by omega,by omega⟩ (gr.up (qc hs)) (gw.up (qc hs)) (fun H5 k2 hn=>?_);have hs:=hs.call hn rfl;clear hn
     repeat' first|refine zRw ?_|intro _ _ hs|intro K0 hK0|(refine hK0 _ _ ?_;clear hK0)|refine c200 rfl (kNo hs (fun H6 hs=>?_))
     refine vZ hs 2 (us:=mgC (deM t of hg v w) k2 k2) rfl (by decide) (hs.get 0 rfl) rfl rfl (by rw[wP]) (by dsimp only;omega) (fun H7 k' _ _ hs=>?_);rw[<- wY] at hs
     repeat' first|refine zRw ?_|intro _ _ hs|intro K0 hK0|(refine hK0 _ _ ?_;clear hK0)
     refine⟨_,hstep3 H7 k' k2 k2 ((k2,of w)::M3) (hs.pickR (A := [_,_,_,_,_]) [2,3,4,1] (by decide) (A' := [_,_,_,_]) rfl) (fun q hq=>List.mem_cons_of_mem _ hq) List.mem_cons_self List.mem_cons_self,by dsimp only;omega,Or.inl ⟨⟨rfl,rfl,rfl,rfl,by dsimp only;rw[List.length_append];rfl,rfl,rfl,trivial⟩,rfl⟩⟩
    ·have he:=hstep _ hz (by dsimp only;omega)
     dsimp only at he
     repeat' first|refine zTw ?_|intro _ _ hs|intro K0 hK0|intro hc|refine dI ?_ ?_|(refine hK0 _ _ ?_;clear hK0)
     refine⟨_,⟨he,by dsimp only;omega⟩,by dsimp only;omega,Or.inl ⟨⟨rfl,rfl,rfl,rfl,rfl,rfl,trivial⟩,rfl⟩⟩
   ·have he:=hz.stop (by dsimp only;omega)
    dsimp only at he
    repeat' first|refine zTw ?_|intro _ _ hs|intro K0 hK0|intro hc|refine dI ?_ ?_|(refine hK0 _ _ ?_;clear hK0)
    have hn:HS H2 none' ((true,k,mgB E)::rwM M) H3:=hs.pickR (A := [_,_,_]) [0] (by decide) (A' := [_]) rfl;have hI3:=hR.pure hI hl hn;have hO:=MsO.of (hR.own hI) hn hz.inn he;have hx3:=hx.ext (fun j hj=>hn.u.2 j hj id);have hm3:=hm.ext (fun j hj=>hn.u.2 j hj id);have g3:=g.hs (qc hn);have hk3:=hk.up (by omega) (fun b hb hn2=>⟨hn2,hn.u.2 b hb id⟩);have hle:=hn.le;clear hI hx hm g hs hn hk hz;have hel:E.length=(deR t of hg).length:=by rw[<- he,List.length_map]
    rw[hel];rw[<- hms] at hO ⊢;refine (hR.step (yP hlt) (by omega) hI3 hO).mono ?_;rintro v H4 ⟨rfl,u,o4,hI4,ho4⟩;rw[xK hlt] at hI4;have hk4:Kp (fun j=>N0<=j) HA o4 H4:=hk3.up (by omega) (fun b hb hn2=>⟨fun hh=>(ho4 b hh).elim hn2 (fun h=>by omega),u.2 b hb hn2⟩);have hu:=u.1;have hs:=HS.start H4 none'
    repeat' first|refine zRw ?_|intro _ _ hs|intro K0 hK0|(refine hK0 _ _ ?_;clear hK0)
    exact⟨⟨H4,o4,j+1⟩,⟨Nat.le_trans hl (Nat.le_trans hle u.1),hI4,hx3.upd u ho4,hm3.upd u ho4,g3.upd u ho4,hk4,hjl⟩,by dsimp only;omega,Or.inl ⟨⟨rfl,rfl,rfl,by rw[<- hn1];rfl,trivial⟩,rfl⟩⟩
  ·have hie:j=(wC t of).length:=by omega
   subst hie;have hz0:hgF (lgF t.pr) (wC t of).length=0:=by unfold hgF;rw[if_neg (by omega)]
   rw[List.take_length] at hI;rw[hz0]
   repeat' first|refine zTw ?_|intro _ _ hs|intro K0 hK0|intro hc|refine dI ?_ ?_|(refine hK0 _ _ ?_;clear hK0)
   exact h _ _ hI
theorem c212 {H2 HA:List Blk} {N0 b c fg:Nat} {fs cs:List Value} {t:Tk} {of:Int->List Int} {R:Value->List Blk->Prop} (kt:TkOk t) (hA:HA.length<=H2.length) (hN:N0<=H2.length) (hsame : ∀ j,N0<=j->j<HA.length->bget H2 j=bget HA j)
 (hof:OfV N0 HA fg fs cs t b c of) (gr:Gr H2 t.sz b) (gw:Gw H2 t.ws b c) (h : ∀ v' H3,HS H2 none' [] H3->ItV (DN N0 b c) H3 v' (wC t of)->R v' H3):qj prog 212 [tkV t b c,fvV fg fs cs] H2 R:=by
 refine avN call212 func212 ntmps212 ?_;refine qo (HS.start H2 none') (fun H3 xb e1 l1 hs=>?_);refine qo hs (fun H4 fb e2 l2 hs=>?_);have gr3:=gr.up (qc hs);have gw3:=gw.up (qc hs);have hx3:=hs.get 1 rfl;have hm3:=hs.get 0 rfl;have hnn:=qc hs;have hxb:H2.length<=xb:=((hs.g (i:=1) rfl).2 rfl).elim (fun h=>h.elim) id;have hmb:H2.length<=fb:=((hs.g (i:=0) rfl).2 rfl).elim (fun h=>h.elim) id;have hsame3 : ∀ j,N0<=j->j<HA.length->bget H4 j=bget HA j:=fun j h1 h2=>(hs.u.2 j (by omega) id).trans (hsame j h1 h2)
 have hle3:=hs.le;refine qg (fun _ hKs=>hKs _ _ ?_);clear hKs;clear e1 l1 e2 l2
 repeat' first|refine zRw ?_|intro _ _ hs|intro K0 hK0|(refine hK0 _ _ ?_;clear hK0)
 refine h _ _ hnn ⟨_,[pM xb,pM fb],rfl,fun {H4 l o I R'} hl4 hD hR h0 hr=>?_⟩
 have hkp:Kp (fun j=>N0<=j) HA o H4:=fun j hj hlt=>by
  have a:=hD j (.inl hj) (by omega);exact⟨a.1,a.2.trans (hsame3 j hj hlt)⟩
 exact e295 kt (zh hD (.inl (by omega)) hx3) (zh hD (.inl (by omega)) hm3) (qQ0 hD (.inr (.inl rfl)) (.inr (.inr rfl)) gr3 gw3) (by omega) hkp hof hR h0 hr
theorem uF0 {N0:Nat} {HA:List Blk} {t:Tk} {b c:Nat} (kt:TkOk t):OfV N0 HA 209 [tkV t b c] [] t b c (parF t):=fun _ _ hv _ _ h=>c209 kt hv h
def stF (t:Tk) (v:Int):List Int:=spnF t (relF t v) (relF t v+1)
theorem of_224 {N0 xb:Nat} {HA:List Blk} {w:Bool} {t:Tk} {b c:Nat} (kt:TkOk t) (hN:N0<=xb) (hx:bget HA xb=some (.cells w 1 (tkC t b c))):OfV N0 HA 224 [] [pM xb] t b c (stF t):=by
 intro H v R hl hsame hv gr gw h;have hpr:=kt.pr;have hro:=kt.ro;have hpa:=kt.pa;have hr:=QA kt v;have m1:=zg (x:=relF t v+1) hpa (by omega);have hs:HS H none' [(false,xb, .cells w 1 (tkC t b c))] H:=(HS.start H none').add ((hsame xb hN (qJ hx)).trans hx) (fun i p hi=>by simp at hi) (fun e=>by cases e);change qj prog 224 [.int .i64 v,pM xb] H R;refine avN call224 func224 ntmps224 ?_;refine qg (fun _ hKs=>hKs _ _ ?_);clear hKs;refine qp tok mx [0,0,0,6,0,0,62,126,255,511] [false,true,true,true,true,true,true,true,false,false] (.first 0 (.first 1 (.first 2 (.first 4 (.first 5 (.first 3 (.first 6 (.first 7 (.first 8 (.first 9 .done)))))))))) (by kernel_rfl) ?_;refine qw (fun K0 hK0=>?_)
 repeat' first|refine zRw ?_|intro _ _ hs|intro K0 hK0|(refine hK0 _ _ ?_;clear hK0)
 first
  | refine wz (gr.up (qc hs)) (gw.up (qc hs)) hpr hro (by omega) ?_
  | refine (wz (gr.up (qc hs)) (gw.up (qc hs)) hpr hro (by omega) ?_).call
 repeat' first|refine zRw ?_|intro _ _ hs|intro K0 hK0|(refine hK0 _ _ ?_;clear hK0)
 first
  | refine wz (gr.up (qc hs)) (gw.up (qc hs)) hpr hro (by omega) ?_
  | refine (wz (gr.up (qc hs)) (gw.up (qc hs)) hpr hro (by omega) ?_).call
 repeat' first|refine zRw ?_|intro _ _ hs|intro K0 hK0|(refine hK0 _ _ ?_;clear hK0)|(refine c157 (by omega) (by omega) m1 (by omega) (fun H2 k hn=>?_);have hs:=hs.call hn rfl;clear hn)
 exact h _ k (pkH hs [0])
theorem QH0 {N0:Nat} {HA:List Blk} {t:Tk} (kt:TkOk t) (hN:N0<=HA.length):AlgV N0 HA (fnV 124) t (wC t (stF t)):=by
 refine⟨_,[],rfl,fun {H2 b c R} hl hsame gr gw h=>?_⟩;refine avN call124 func124 ntmps124 ?_;refine qo (HS.start H2 none') (fun H3 tb e1 l1 hs=>?_);have hle2:=hs.le;have htb:H2.length<=tb:=((hs.g (i:=0) rfl).2 rfl).elim (fun h=>h.elim) id;refine qg (fun _ hKs=>hKs _ _ ?_);clear hKs;clear e1 l1
 repeat' first|refine zRw ?_|intro _ _ hs|intro K0 hK0|(refine hK0 _ _ ?_;clear hK0)|(refine c212 (N0:=N0) (HA:=H3) kt (Nat.le_refl _) (by omega) (fun _ _ _=>rfl) (of_224 (xb:=tb) kt (by omega) (hs.get 0 rfl)) (gr.up (qc hs)) (gw.up (qc hs)) (fun v1 H4 hn hit=>?_);have hs:=qL hs hn;clear hn)
 exact h _ _ (qc hs) hit
theorem QM0 {N0:Nat} {HA:List Blk} {t:Tk} (kt:TkOk t) (hN:N0<=HA.length):AlgV N0 HA (fnV 113) t (wC t (parF t)++qM (evF t (uP t)) t.pr):=by
 refine⟨_,[],rfl,fun {H2 b c R} hl hsame gr gw h=>?_⟩;refine avN call113 func113 ntmps113 ?_;refine qo (HS.start H2 none') (fun H3 tb e1 l1 hs=>?_);have hle2:=hs.le;refine qg (fun _ hKs=>hKs _ _ ?_);clear hKs;clear e1 l1
 repeat' first|refine zRw ?_|intro _ _ hs|intro K0 hK0|(refine hK0 _ _ ?_;clear hK0)
 refine c109 (fun H4 mb hn=>?_);have hmb:H3.length<=mb:=((hn.g (i:=0) rfl).2 rfl).elim (fun h=>h.elim) id;have hs:=hs.call hn rfl;have hle:=hn.le;clear hn
 repeat' first|refine zRw ?_|intro _ _ hs|intro K0 hK0|(refine hK0 _ _ ?_;clear hK0)
 refine qp tok mx [0,0,2,7,0,0,63,127,255,511] [false,true,true,false,true,true,false,false,false,false] (.first 0 (.first 1 (.first 2 (.first 4 (.alt 3 (.first 5 (.first 6 (.first 7 (.first 8 (.first 9 .done))))) (.alt 5 (.first 3 (.first 6 (.first 7 (.first 8 (.first 9 .done))))) .no)))))) (by kernel_rfl) ?_;refine qw (fun K0 hK0=>?_)
 repeat' first|refine zRw ?_|intro _ _ hs|intro K0 hK0|(refine hK0 _ _ ?_;clear hK0)
 all_goals try refine And.intro ?_ (And.intro ?_ trivial)
 all_goals (
  repeat' first|refine zRw ?_|intro _ _ hs|intro K0 hK0|(refine hK0 _ _ ?_;clear hK0)
  refine c212 (N0:=N0) (HA:=H4) (fg:=209) (fs := [tkV t b c]) (cs := []) kt (Nat.le_refl _) (by omega) (fun _ _ _=>rfl) (uF0 kt) (gr.up (qc hs)) (gw.up (qc hs)) (fun v1 H6 hn hit1=>?_);have hs:=qL hs hn;have hle6:=hn.le;clear hn
  repeat' first|refine zRw ?_|intro _ _ hs|intro K0 hK0|(refine hK0 _ _ ?_;clear hK0)
  refine c198 (N0:=N0) kt (by omega) (by omega) (hs.get 0 rfl) (mk_206 kt) (gr.up (qc hs)) (gw.up (qc hs)) (fun v2 H7 hn hit2=>?_);have hit1:=hit1.keep hn;have hs:=qL hs hn;have hle7:=hn.le;clear hn;obtain ⟨g1,cs1,rfl⟩:=hit1.form;obtain ⟨g2,cs2,rfl⟩:=hit2.form;have hs0:=hs;have hle0:=hs.le;clear hs;have hs:=HS.start H7 none'
  repeat' first|refine zRw ?_|intro _ _ hs|intro K0 hK0|(refine hK0 _ _ ?_;clear hK0)
  rename_i k9 H9;have hk9:=((hs.g (i:=0) rfl).2 rfl).elim (fun h=>h.elim) id;have hb9:=hs.get 0 rfl;have hle9:=hs.le;refine c211 (N0:=N0) (b:=b) (c:=c) (k:=k9) (its := [cloV g1 cs1,cloV g2 cs2]) (rss := [_,_]) (by omega) (by omega) hb9 rfl (by simp) (its2 (hit1.keep (qc hs)) (hit2.keep (qc hs))) (fun H10 v9 hn hit=>?_);have hs:=qL (hs0.call hs rfl) hn;clear hn hs0;rw[List.flatten_cons,List.flatten_cons,List.flatten_nil,List.append_nil] at hit
  repeat' first|refine zRw ?_|intro _ _ hs|intro K0 hK0|(refine hK0 _ _ ?_;clear hK0)
  exact h _ _ (qc hs) hit
  )
end Go.Af.Tryz
namespace Go.Af.Tryz
open Go Go.Proofs Tryz
attribute [local irreducible] awp qj qI qK qE qm isCells ql qi qB qx qh roundEnd

def hlF:Nat->Int->List Int
 | 0,_=>[]
 | n+1,h=>if 1<=h then h::hlF n (h / 2) else []
def hlvF (t:Tk):List (List Msg):=(hlF 7 (t.pr / 2)).map (evF t (Qo t))
theorem drop_cons {α : Type} [Inhabited α] {l r:List α} {i:Nat} {x : α} (h:l.drop i=x::r):i<l.length/\l[i]! = x/\l.drop (i+1)=r:=by
 have hl:i<l.length:=by
  have:=congrArg List.length h;simp at this;omega
 rw[List.drop_eq_getElem_cons hl] at h;injection h with h1 h2
 exact⟨hl,by rw[getElem!_pos l i hl,h1],h2⟩
theorem hl_t {n:Nat} {h:Int} (h1:1<=h) (hf:h<(2:Int) ^ n) : ∃ m,n=m+1/\hlF n h=h::hlF m (h / 2)/\h / 2<(2:Int) ^ m:=by
 cases n with
 | zero=>simp at hf;omega
 | succ n=>exact⟨n,rfl,by rw[hlF,if_pos h1],by rw[Int.pow_succ] at hf;omega⟩
theorem hl_f {n:Nat} {h:Int} (h1:h<1):hlF n h = []:=by
 cases n with
 | zero=>rfl
 | succ n=>rw[hlF,if_neg (by omega)]
structure HlS where
 H:List Blk
 o:Nat->Prop
 i:Nat
 n:Nat
 h:Int
 ib:Nat
theorem e240 {H:List Blk} {l xb b c:Nat} {wx:Bool} {t:Tk} {o:Nat->Prop} {I:List (List Msg)->(Nat->Prop)->List Blk->Prop} {R:List Blk->Prop} (kt:TkOk t) (hx:Own o H xb (.cells wx 1 (tkC t b c))) (g:Tb o H t b c)
 (hR:RoundsM l H.length (hlvF t) I) (h0:I [] o H) (h : ∀ o' H',I (hlvF t) o' H' -> R H'):qj prog 240 [yM l,pM xb] H (fun _ H' => R H'):=by
 have hpr:=kt.pr;have hq:t.pr.tdiv 2=t.pr / 2:=Int.tdiv_eq_ediv_of_nonneg (by omega);have hq2:0<=t.pr.tdiv 2/\t.pr.tdiv 2<=32:=by rw[hq];omega
 refine avN call240 func240 ntmps240 ?_;have hs:HS H none' [(false,xb, .cells wx 1 (tkC t b c))] H:=(HS.start H none').add hx.1 (fun i p hi=>by simp at hi) (fun e=>by cases e)
 repeat' first|refine sX hs (fun _ hs=>?_)|refine zRw ?_|intro _ _ hs|intro K0 hK0|(refine hK0 _ _ ?_;clear hK0)
 rename_i ib H1 _ H1';have hl1:H.length<=H1'.length:=hs.le;have hib:H.length<=ib:=((hs.g (i:=0) rfl).2 rfl).elim (fun h=>h.elim) id;have hown:=hR.own h0
 refine qf (α := HlS) tok (fun z=>H.length<=z.H.length/\I ((hlvF t).take z.i) z.o z.H/\Own z.o z.H xb (.cells wx 1 (tkC t b c))/\Tb z.o z.H t b c/\Own z.o z.H z.ib (.cells true 1 [.int .i64 z.h])/\(hlvF t).drop z.i=(hlF z.n z.h).map (evF t (Qo t))/\0<=z.h/\z.h<(2:Int) ^ z.n/\z.h<64/\H.length<=z.ib)
  (fun z=>[(0,yM l),(1,pM xb),(3,pM z.ib)]) (fun z=>z.H) (fun z=>z.n)
  ⟨H1',o,0,7,t.pr.tdiv 2,ib⟩ ⟨hl1,hR.pure h0 (Nat.le_refl _) hs,hx.ext (fun j hj=>hs.u.2 j hj id),g.hs (qc hs),⟨hs.get 0 rfl,fun hh=>by have:=hown _ hh;dsimp only at this;omega⟩,by rw[hq];rfl,hq2.1,by dsimp only;rw[show (2:Int) ^ 7=128 from rfl];omega,by dsimp only;omega,hib⟩ (Or.inl ⟨⟨rfl,rfl,rfl,trivial⟩,rfl⟩) ?_
 clear hs hx g h0 hown;rintro ⟨H2,o2,i,n,h',ib'⟩ ⟨hl,hI,hx,g,hi,hd,hh0,hhn,hh64,hib'⟩;dsimp only at hl hI hx g hi hd hh0 hhn hh64 hib' ⊢
 have hne:xb≠ib' := fun e=>by
  have e1:=hx.1;rw[e,hi.1] at e1;cases e1
 have hs:HS H2 none' [(false,xb, .cells wx 1 (tkC t b c)),(false,ib', .cells true 1 [.int .i64 h'])] H2:=((HS.start H2 none').add hi.1 (fun i p hi=>by simp at hi) (fun e=>by cases e)).add hx.1 (fun i p hi=>by
  match i,hi with
  | 0,hi=>cases hi;exact hne.symm) (fun e=>by cases e)
 by_cases hh1:1<=h'
 ·obtain ⟨m,hm,he,hf⟩:=hl_t hh1 hhn
  rw[he,List.map_cons] at hd;obtain ⟨hlt,hms,hd2⟩:=drop_cons hd
  repeat' first|refine sX hs (fun _ hs=>?_)|refine zTw ?_|intro _ _ hs|intro K0 hK0|intro hc|refine dI ?_ ?_|(refine hK0 _ _ ?_;clear hK0)
  refine c207 kt.pr (mk:=fun r=>Qo t h' r) (fun H3 R' r hr hn hk=>m241 kt ⟨hh1,hh64⟩ hr (g.r.up hn) (g.w.up hn) (vz hn (hs.get 0 rfl)) (vz hn (hs.get 1 rfl)) hk) (fun H3 k E M hn hin hE=>?_);have hI3:=hR.pure hI hl hn;have hO:=MsO.of (hR.own hI) hn hin hE;have hx3:=hx.ext (fun j hj=>hn.u.2 j hj id);have hi3:=hi.ext (fun j hj=>hn.u.2 j hj id);have g3:=g.hs (qc hn);have hle:=hn.le;clear hI hx g hs hn hi;have hs:=HS.start H3 none'
  repeat' first|refine sX hs (fun _ hs=>?_)|refine zRw ?_|intro _ _ hs|intro K0 hK0|(refine hK0 _ _ ?_;clear hK0)
  have hel:E.length=(evF t (Qo t) h').length:=by have:=congrArg List.length hE;simpa [evF] using this
  rw[hel];have hev:List.map (fun r:Nat=>Qo t h' (r:Int)) (List.range t.pr.toNat)=evF t (Qo t) h' := rfl;rw[hev,<- hms] at hO;rw[<- hms];refine (hR.step (yP hlt) (by omega) hI3 hO).mono ?_;rintro v H4 ⟨rfl,u,o4,hI4,ho4⟩;rw[xK hlt] at hI4;have hx4:=hx3.upd u ho4;have hi4:=hi3.upd u ho4;have g4:=g3.upd u ho4;have hu:=u.1;have hown:=hR.own hI4;have hdq:h'.tdiv 2=h' / 2:=Int.tdiv_eq_ediv_of_nonneg hh0;have hdb:0<=h'.tdiv 2/\h'.tdiv 2<64:=by rw[hdq];omega
  clear hs;have hs:HS H4 none' [(false,ib', .cells true 1 [.int .i64 h'])] H4:=(HS.start H4 none').add hi4.1 (fun i p hi=>by simp at hi) (fun e=>by cases e)
  repeat' first|refine sX hs (fun _ hs=>?_)|refine zRw ?_|intro _ _ hs|intro K0 hK0|(refine hK0 _ _ ?_;clear hK0)
  rename_i ib2 _ _ _ _ H5;have hib2:H4.length<=ib2:=((hs.g (i:=0) rfl).2 rfl).elim (fun h=>h.elim) id;have hnn:=qc hs;have hg0:=hs.get 0 rfl;have hle5:=hs.le;exact⟨⟨H5,o4,i+1,m,h'.tdiv 2,ib2⟩,⟨by dsimp only;omega,hR.pure hI4 (by omega) hnn,hx4.ext (fun j hj=>hnn.u.2 j hj id),g4.hs hnn,⟨hg0,fun hh=>by have:=hown _ hh;dsimp only at this;omega⟩,by rw[hdq];exact hd2,hdb.1,by rw[hdq];exact hf,hdb.2,by dsimp only;omega⟩,by dsimp only;omega,Or.inl ⟨⟨rfl,rfl,rfl,trivial⟩,rfl⟩⟩
 ·rw[hl_f (by omega),List.map_nil] at hd
  have hie:i ≥ (hlvF t).length:=List.drop_eq_nil_iff.1 hd;rw[List.take_of_length_le hie] at hI
  repeat' first|refine sX hs (fun _ hs=>?_)|refine zTw ?_|intro _ _ hs|intro K0 hK0|intro hc|refine dI ?_ ?_|(refine hK0 _ _ ?_;clear hK0)
  exact h _ _ hI
theorem QB0 {N0:Nat} {HA:List Blk} {t:Tk} (kt:TkOk t) (hN:N0<=HA.length)  : AlgV N0 HA (fnV 133) t (hlvF t):=by
 refine⟨_,[],rfl,fun {H2 b c R} hl hsame gr gw h=>?_⟩;refine avN call133 func133 ntmps133 ?_;refine qo (HS.start H2 none') (fun H3 xb e1 l1 hs=>?_);have gr3:=gr.up (qc hs);have gw3:=gw.up (qc hs);have hx3:=hs.get 0 rfl;have hnn:=qc hs;have hxb:H2.length<=xb:=((hs.g (i:=0) rfl).2 rfl).elim (fun h=>h.elim) id;refine qg (fun _ hKs=>hKs _ _ ?_);clear hKs;clear e1 l1
 repeat' first|refine sX hs (fun _ hs=>?_)|refine zRw ?_|intro _ _ hs|intro K0 hK0|(refine hK0 _ _ ?_;clear hK0)
 refine h _ _ hnn ⟨_,[pM xb],rfl,fun {H4 l o I R'} hl4 hD hR h0 hr=>?_⟩;exact e240 kt (zh hD (.inl (by omega)) hx3) (qQ0 hD (.inr (.inl rfl)) (.inr (.inr rfl)) gr3 gw3) hR h0 hr
end Go.Af.Tryz
