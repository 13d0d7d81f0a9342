/- A part of the proof. -/
import Derived.Test.YtmnjcogpchodhaaGreatMGD
import Derived.Test.YtmnjcogpchodhaaGreatMGH
import Derived.Test.YtmnjcogpchodhaaGreatMCA
import Derived.Test.YtmnjcogpchodhaaGreatMC
set_option linter.all false
set_option maxHeartbeats 4000000
set_option maxRecDepth 100000
namespace Go.Af.Tryz
open Go Go.Proofs Tryz
attribute [local irreducible] awp qj qI qK qE qm isCells ql qi qB qx qh roundEnd

abbrev Mg:=Msg × Nat × Nat
def mgsC (E:List Mg):List Value:=E.flatMap (fun e=>mgC e.1 e.2.1 e.2.2)
abbrev mgB (E:List Mg):Blk := .cells true 5 (mgsC E)
def rwM (M:List (Nat × List Int)):List (Bool × Nat × Blk):=M.map (fun q=>(true,q.1,rw' q.2))
def MgIn (E:List Mg) (M:List (Nat × List Int)):Prop := ∀ e∈E,(e.2.1,e.1.sr)∈M/\(e.2.2,e.1.ds)∈M
theorem uy0 (M:List (Nat × List Int)):(rwM M).all (fun p=>p.1)=true:=by simp[rwM]
theorem ux0 (M M' : List (Nat × List Int)):rwM (M++M')=rwM M++rwM M' := by simp[rwM]
theorem Xq {M:List (Nat × List Int)} {q:Nat × List Int} (h:q∈M):(true,q.1,rw' q.2)∈rwM M:=List.mem_map.2 ⟨q,h,rfl⟩
theorem wP (E:List Mg):(mgsC E).length=E.length*5:=by
 induction E with
 | nil=>rfl
 | cons e E ih=>rw[show mgsC (e::E)=mgC e.1 e.2.1 e.2.2++mgsC E from rfl,List.length_append,ih];simp;omega
theorem qh0 (E E' : List Mg):mgsC (E++E')=mgsC E++mgsC E' := List.flatMap_append
theorem qg0 : ∀ {E:List Mg} {i k:Nat},i<E.length->k<5->(mgsC E)[i*5+k]? = (mgC E[i]!.1 E[i]!.2.1 E[i]!.2.2)[k]?
 | e::E,0,k,_,hk=>by
   rw[show mgsC (e::E)=mgC e.1 e.2.1 e.2.2++mgsC E from rfl,List.getElem?_append_left (by simp;omega)];simp
 | e::E,i+1,k,hi,hk=>by
   rw[show mgsC (e::E)=mgC e.1 e.2.1 e.2.2++mgsC E from rfl,List.getElem?_append_right (by simp;omega)];rw[show (i+1)*5+k-(mgC e.1 e.2.1 e.2.2).length=i*5+k by simp;omega,qg0 (E:=E) (i:=i) (by simpa using hi) hk];simp
theorem seg_mg {E:List Mg} {i:Nat} {K:List Value->Prop} (hi:i<E.length) (h:K (mgC E[i]!.1 E[i]!.2.1 E[i]!.2.2)):segK (mgsC E) (0+i*5) 5 K:=by
 have g:=fun k (hk:k<5)=>qg0 (E:=E) (i:=i) hi hk
 rw[Nat.zero_add];exact⟨_,g 0 (by decide),_,g 1 (by decide),_,g 2 (by decide),_,g 3 (by decide),_,g 4 (by decide),h⟩
theorem MgIn.mono {E:List Mg} {M M' : List (Nat × List Int)} (h:MgIn E M) (hs : ∀ x∈M,x∈M'):MgIn E M' := fun e he=>⟨hs _ (h e he).1,hs _ (h e he).2⟩
theorem MgIn.nil (M:List (Nat × List Int)):MgIn [] M:=fun _ h=>by cases h
theorem MgIn.snoc {E:List Mg} {M:List (Nat × List Int)} (h:MgIn E M) {m:Msg} {x y:Nat} (hx:(x,m.sr)∈M) (hy:(y,m.ds)∈M):MgIn (E ++ [(m,x,y)]) M:=fun e he=>by
 rcases List.mem_append.1 he with he | he
 ·exact h e he
 ·rcases List.mem_singleton.1 he with rfl
  exact⟨hx,hy⟩
theorem HS.front {H0 H:List Blk} {o:Nat->Prop} {A L R:List (Bool × Nat × Blk)} (h:HS H0 o (A++(L++R)) H):HS H0 o (L++(A++R)) H:=by
 refine h.perm ?_;rw[<- List.append_assoc,<- List.append_assoc];exact List.perm_append_comm.append_right R
abbrev cloV (g:Nat) (cs:List Value):Value := .func (.func g) #[] ⟨cs⟩
theorem c207 {H:List Blk} {t:Tk} {b c g:Nat} {cs:List Value} {mk:Int->Msg} {R:Value->List Blk->Prop} (hp:1<=t.pr/\t.pr<=64)
 (hf : ∀ (H' : List Blk) (R:Value->List Blk->Prop) (r:Int),0<=r/\r<t.pr->HS H none' [] H' -> (∀ H'' x y M,HS H' none' (rwM M) H'' -> (x,(mk r).sr)∈M->(y,(mk r).ds)∈M->R (mgV (mk r) x y) H'')->qj prog g (.int .i64 r::cs) H' R)
 (h : ∀ H' k E M,HS H none' ((true,k,mgB E)::rwM M) H' -> MgIn E M->E.map (·.1)=(List.range t.pr.toNat).map (fun r:Nat=>mk (r:Int))->R (sv k E.length) H') :
 qj prog 207 [tkV t b c,cloV g cs] H R:=by
 obtain ⟨p,hpp⟩ : ∃ p:Nat,t.pr=p:=⟨t.pr.toNat,by omega⟩;refine avN call207 func207 ntmps207 ?_;refine qo (HS.start H none') (fun H1 b1 e1 l1 hs=>?_);refine qg (fun _ hKs=>hKs _ _ ?_);clear hKs;clear e1 l1
 repeat' first|refine zPw ?_|intro _ _ hs|intro K0 hK0
 refine vC (α := List Blk × Nat × List Mg × List (Nat × List Int) × Nat) tok (fun z=>HS H none' ((true,z.2.1,mgB z.2.2.1)::(true,b1, .cells true 1 (tkC t b c))::rwM z.2.2.2.1) z.1/\MgIn z.2.2.1 z.2.2.2.1/\z.2.2.1.map (·.1)=(List.range z.2.2.2.2).map (fun r:Nat=>mk (r:Int))/\z.2.2.2.2<=p)
  (fun | ⟨_,k,E,_,r⟩=>[(1,cloV g cs),(2, .pointer (some ⟨b1,0,none⟩)),(5,sv k E.length),(8, .int .i64 t.pr),(9, .int .i64 (r:Int))]) (fun | ⟨H',_⟩=>H') (fun z=>p-z.2.2.2.2)
  ⟨H1 ++ [mgB []],H1.length,[],[],0⟩ ⟨(hs.virt _),MgIn.nil _,rfl,Nat.zero_le _⟩ ⟨⟨_,rfl, .rfl⟩,⟨_,rfl, .rfl⟩,⟨_,rfl, .nil _⟩,⟨_,rfl, .rfl⟩,⟨_,rfl, .rfl⟩,trivial⟩ (WkH.rfl.app _) ?_
 clear hs;rintro ⟨H2,k,E,M,r⟩ ⟨hs,hin,hE,hr⟩;dsimp only at hs hin hE hr ⊢;have hel:E.length=r:=by have:=congrArg List.length hE;simpa using this
 repeat' first|refine zPw ?_|intro _ _ hs|intro K0 hK0
 refine And.intro (fun hc=>?_) (fun hc=>?_)
 ·have hrp:r<p:=by simp at hc;omega
  clear hc
  repeat' first|refine zPw ?_|intro _ _ hs|intro K0 hK0
  refine hf _ _ (r:Int) (by omega) (qc hs) (fun H3 x y M2 hn hx hy=>?_);have hs:=HS.front (A:=rwM M2) (L := [_,_]) (R:=rwM M) (hs.call hn (uy0 _));rw[<- ux0] at hs;clear hn
  repeat' first|refine zPw ?_|intro _ _ hs|intro K0 hK0
  refine vZ hs 1 (us:=mgC (mk r) x y) rfl (by decide) (hs.get 0 rfl) rfl rfl (by rw[wP]) (by dsimp only;omega) (fun H4 k' _ _ hs=>?_)
  repeat' first|refine zPw ?_|intro _ _ hs|intro K0 hK0
  refine⟨⟨H4,k',E ++ [(mk r,x,y)],M2++M,r+1⟩,⟨?_,(hin.mono (fun q hq=>List.mem_append_right _ hq)).snoc (List.mem_append_left _ hx) (List.mem_append_left _ hy),by rw[List.map_append,hE,List.range_succ,List.map_append];rfl,hrp⟩,by dsimp only;omega,Or.inl ⟨⟨rfl,rfl,by dsimp only;rw[List.length_append];rfl,rfl,rfl,trivial⟩,rfl⟩⟩;dsimp only;rw[mgB,qh0];exact hs.pickR (A := [_,_,_]) [1,2] (by decide) (A' := [_,_]) rfl
 ·have hre:r=p:=by simp at hc;omega
  subst hre;have e:=h H2 k E M (hs.pickR (A := [_,_]) [0] (by decide) (A' := [_]) rfl) hin (by rw[hE,hpp,Int.toNat_natCast])
  repeat' first|refine zPw ?_|intro _ _ hs|intro K0 hK0
  exact e
end Go.Af.Tryz
namespace Go.Af.Tryz
open Go Go.Proofs Tryz
attribute [local irreducible] awp qj qI qK qE qm isCells ql qi qB qx qh roundEnd

abbrev yM (l:Nat):Value := .func (.yield l) #[] #[]
abbrev pM (b:Nat):Value := .pointer (some ⟨b,0,none⟩)
def MsO (o:Nat->Prop) (H:List Blk) (k:Nat) (ms:List Msg):Prop :=
 ∃ E w,bget H k=some (.cells w 5 (mgsC E))/\¬ o k/\E.map (·.1)=ms/\∀ e∈E,(¬ o e.2.1/\∃ w,bget H e.2.1=some (.cells w 1 (ints e.1.sr)))/\(¬ o e.2.2/\∃ w,bget H e.2.2=some (.cells w 1 (ints e.1.ds)))
structure RoundsM (l N:Nat) (rs:List (List Msg)) (I:List (List Msg)->(Nat->Prop)->List Blk->Prop):Prop where
 own : ∀ {p o H},I p o H->∀ b,o b->b<H.length
 keep : ∀ {p o H H'},I p o H->H.length<=H'.length->(∀ b,b<N\/o b->bget H' b=bget H b)->I p o H'
 step : ∀ {p ms o H k},p ++ [ms] <+: rs->N<=H.length->I p o H->MsO o H k ms->qK prog l [sv k ms.length] H (fun v H' => v = .bool true/\Upd o H H' /\ ∃ o',I (p ++ [ms]) o' H' /\ ∀ b,o' b->o b\/H.length<=b)
theorem RoundsM.pure {l N:Nat} {rs:List (List Msg)} {I:List (List Msg)->(Nat->Prop)->List Blk->Prop} (hR:RoundsM l N rs I) {p:List (List Msg)} {o:Nat->Prop} {H H' : List Blk} {L:List (Bool × Nat × Blk)} (hi:I p o H) (hN:N<=H.length) (hs:HS H none' L H'):I p o H' :=
 hR.keep hi hs.le (fun b hb=>hs.u.2 b (hb.elim (fun h=>by omega) (fun h=>hR.own hi b h)) id)
theorem MsO.of {o:Nat->Prop} {H H' : List Blk} {k:Nat} {E:List Mg} {M:List (Nat × List Int)} {ms:List Msg} (ho : ∀ b,o b->b<H.length) (hs:HS H none' ((true,k,mgB E)::rwM M) H') (hin:MgIn E M) (hE:E.map (·.1)=ms):MsO o H' k ms:=by
 have key : ∀ {b:Nat} {B:Blk},(true,b,B)∈((true,k,mgB E)::rwM M)->¬ o b/\bget H' b=some B:=fun {b B} hm=>by
  obtain ⟨i,hi⟩:=List.getElem?_of_mem hm;have g:=hs.g hi;exact⟨fun h=>(g.2 rfl).elim (fun h1=>h1) (fun h1=>by have:=ho b h;omega),g.1⟩
 refine⟨E,true,(key List.mem_cons_self).2,(key List.mem_cons_self).1,hE,fun e he=>?_⟩;have a:=key (List.mem_cons_of_mem _ (Xq (hin e he).1));have b:=key (List.mem_cons_of_mem _ (Xq (hin e he).2));exact⟨⟨a.1,_,a.2⟩,b.1,_,b.2⟩
structure Tb (o:Nat->Prop) (H:List Blk) (t:Tk) (b c:Nat):Prop where
 r:Gr H t.sz b
 w:Gw H t.ws b c
 b : ¬ o b
 c : ¬ o c
theorem Tb.hs {o:Nat->Prop} {H H' : List Blk} {t:Tk} {b c:Nat} (g:Tb o H t b c) (h:HS H none' [] H'):Tb o H' t b c:=⟨g.r.up h,g.w.up h,g.b,g.c⟩
theorem Tb.upd {o o' : Nat->Prop} {H H' : List Blk} {t:Tk} {b c:Nat} (g:Tb o H t b c) (u:Upd o H H') (ho : ∀ b,o' b->o b\/H.length<=b):Tb o' H' t b c:=by
 obtain ⟨w1,h1⟩:=g.r.s;obtain ⟨w2,h2⟩:=g.w.s;have l1:=qJ h1;have l2:=qJ h2;exact⟨⟨w1,by rw[u.2 b l1 g.b];exact h1⟩,⟨g.w.ne,w2,by rw[u.2 c l2 g.c];exact h2⟩,fun h=>(ho b h).elim g.b (fun h=>by omega),fun h=>(ho c h).elim g.c (fun h=>by omega)⟩
def ItV (D:Nat->Prop) (H1:List Blk) (v:Value) (rs:List (List Msg)):Prop :=
 ∃ g cs,v=cloV g cs/\∀ {H2:List Blk} {l:Nat} {o:Nat->Prop} {I:List (List Msg)->(Nat->Prop)->List Blk->Prop} {R:List Blk->Prop},H1.length<=H2.length->(∀ j,D j->j<H1.length->¬ o j/\bget H2 j=bget H1 j) ->
   RoundsM l H2.length rs I->I [] o H2->(∀ o' H',I rs o' H' -> R H')->qj prog g (yM l::cs) H2 (fun _ H' => R H')
def MkV (f:Nat) (t:Tk) (d:Int->Prop) (ms:Int->List Msg):Prop :=
 ∀ {H:List Blk} {b c:Nat} {i:Int} {R:Value->List Blk->Prop},d i->Gr H t.sz b->Gw H t.ws b c->(∀ H' k E M,HS H none' ((true,k,mgB E)::rwM M) H' -> MgIn E M->E.map (·.1)=ms i->R (sv k E.length) H')->qj prog f [tkV t b c, .int .i64 i] H R
theorem yP {α : Type} [Inhabited α] {rs:List α} {i:Nat} (h:i<rs.length):rs.take i ++ [rs[i]!] <+: rs:=by
 rw[getElem!_pos rs i h,<- List.take_succ_eq_append_getElem h];exact List.take_prefix _ _
theorem xK {α : Type} [Inhabited α] {rs:List α} {i:Nat} (h:i<rs.length):rs.take i ++ [rs[i]!]=rs.take (i+1):=by
 rw[getElem!_pos rs i h,<- List.take_succ_eq_append_getElem h]
def qM (ms:Int->List Msg) (p:Int):List (List Msg):=(List.range (p-1).toNat).map (fun i:Nat=>ms (i:Int))
structure YS where
 H:List Blk
 o:Nat->Prop
 i:Nat
abbrev fnV (f:Nat):Value := .func (.func f) #[] #[]
theorem e199 {H:List Blk} {l xb mb b c f:Nat} {wx wm:Bool} {t:Tk} {o:Nat->Prop} {ms:Int->List Msg} {I:List (List Msg)->(Nat->Prop)->List Blk->Prop} {R:List Blk->Prop} (kt:TkOk t) (hx:Own o H xb (.cells wx 1 (tkC t b c))) (hm:Own o H mb (.cells wm 1 [fnV f])) (g:Tb o H t b c)
 (hf:MkV f t (fun i=>0<=i/\i<t.pr-1) ms) (hR:RoundsM l H.length (qM ms t.pr) I) (h0:I [] o H) (h : ∀ o' H',I (qM ms t.pr) o' H' -> R H'):qj prog 199 [yM l,pM xb,pM mb] H (fun _ H' => R H'):=by
 have hpr:=kt.pr;have hrl:(qM ms t.pr).length=(t.pr-1).toNat:=by simp[qM]
 refine avN call199 func199 ntmps199 ?_
 have hne:xb≠mb:=fun e=>by
  have e1:=hx.1;rw[e,hm.1] at e1;cases e1
 have hs:HS H none' [(false,xb, .cells wx 1 (tkC t b c)),(false,mb, .cells wm 1 [fnV f])] H:=((HS.start H none').add hm.1 (fun i p hi=>by simp at hi) (fun e=>by cases e)).add hx.1 (fun i p hi=>by
  match i,hi with
  | 0,hi=>cases hi;exact hne.symm) (fun e=>by cases e)
 repeat' first|refine zPw ?_|intro _ _ hs|intro K0 hK0
 refine qf (α := YS) tok (fun z=>H.length<=z.H.length/\I ((qM ms t.pr).take z.i) z.o z.H/\Own z.o z.H xb (.cells wx 1 (tkC t b c))/\Own z.o z.H mb (.cells wm 1 [fnV f])/\Tb z.o z.H t b c/\z.i<=(t.pr-1).toNat)
  (fun z=>[(0,yM l),(1,pM xb),(2,pM mb),(7, .int .i64 (t.pr-1)),(8, .int .i64 (z.i:Int))]) (fun z=>z.H) (fun z=>(t.pr-1).toNat-z.i)
  ⟨H,o,0⟩ ⟨Nat.le_refl _,h0,hx,hm,g,Nat.zero_le _⟩ (Or.inl ⟨⟨rfl,rfl,rfl,rfl,rfl,trivial⟩,rfl⟩) ?_
 clear hs hx hm g h0;rintro ⟨H2,o2,i⟩ ⟨hl,hI,hx,hm,g,hi⟩;dsimp only at hl hI hx hm g hi ⊢
 have hs:HS H2 none' [(false,xb, .cells wx 1 (tkC t b c)),(false,mb, .cells wm 1 [fnV f])] H2:=((HS.start H2 none').add hm.1 (fun i p hi=>by simp at hi) (fun e=>by cases e)).add hx.1 (fun i p hi=>by
  match i,hi with
  | 0,hi=>cases hi;exact hne.symm) (fun e=>by cases e)
 repeat' first|refine zPw ?_|intro _ _ hs|intro K0 hK0
 refine And.intro (fun hc=>?_) (fun hc=>?_)
 ·have hlt:i<(qM ms t.pr).length:=by simp at hc;omega
  clear hc;have hms:(qM ms t.pr)[i]! = ms (i:Int):=by rw[getElem!_pos _ i hlt];simp[qM]
  repeat' first|refine zPw ?_|intro _ _ hs|intro K0 hK0
  refine hf ⟨by omega,by omega⟩ g.r g.w (fun H3 k E M hn hin hE=>?_);have hI3:=hR.pure hI hl hn;have hO:=MsO.of (hR.own hI) hn hin hE;have hx3:=hx.ext (fun j hj=>hn.u.2 j hj id);have hm3:=hm.ext (fun j hj=>hn.u.2 j hj id);have g3:=g.hs (qc hn);have hle:=hn.le;clear hI hx hm g hs hn
  repeat' first|refine zPw ?_|intro _ _ hs|intro K0 hK0
  have hel:E.length=(ms (i:Int)).length:=by rw[<- hE,List.length_map]
  rw[hel];rw[<- hms] at hO ⊢;refine (hR.step (yP hlt) (by omega) hI3 hO).mono ?_;rintro v H4 ⟨rfl,u,o4,hI4,ho4⟩;rw[xK hlt] at hI4
  repeat' first|refine zPw ?_|intro _ _ hs|intro K0 hK0
  exact⟨⟨H4,o4,i+1⟩,⟨Nat.le_trans hl (Nat.le_trans hle u.1),hI4,hx3.upd u ho4,hm3.upd u ho4,g3.upd u ho4,by dsimp only;omega⟩,by dsimp only;omega,Or.inl ⟨⟨rfl,rfl,rfl,rfl,rfl,trivial⟩,rfl⟩⟩
 ·have hie:i=(qM ms t.pr).length:=by simp at hc;omega
  subst hie;rw[List.take_length] at hI
  repeat' first|refine zPw ?_|intro _ _ hs|intro K0 hK0
  exact h _ _ hI
end Go.Af.Tryz
namespace Go.Af.Tryz
open Go Go.Proofs Tryz
attribute [local irreducible] awp qj qI qK qE qm isCells ql qi qB qx qh roundEnd

theorem MsO.up {o:Nat->Prop} {H H' : List Blk} {k:Nat} {ms:List Msg} (h:MsO o H k ms) {o' : Nat->Prop} (hb : ∀ b,b<H.length->¬ o b->¬ o' b/\bget H' b=bget H b):MsO o' H' k ms:=by
 obtain ⟨E,w,h1,h2,h3,h4⟩:=h;have k1:=hb _ (qJ h1) h2;refine⟨E,w,k1.2.trans h1,k1.1,h3,fun e he=>?_⟩;obtain ⟨⟨a1,w1,a2⟩,b1,w2,b2⟩:=h4 e he;have c1:=hb _ (qJ a2) a1;have c2:=hb _ (qJ b2) b1;exact⟨⟨c1.1,w1,c1.2.trans a2⟩,c2.1,w2,c2.2.trans b2⟩
theorem qd0 {o o' : Nat->Prop} {H H' : List Blk} {j:Nat} {B:Blk} (h:Own o H j B) (hb : ∀ b,b<H.length->¬ o b->¬ o' b/\bget H' b=bget H b):Own o' H' j B:=by
 have k1:=hb _ (qJ h.1) h.2;exact⟨k1.2.trans h.1,k1.1⟩
theorem e296 {H:List Blk} {l xb k:Nat} {wx:Bool} {o:Nat->Prop} {ms:List Msg} {I:List (List Msg)->(Nat->Prop)->List Blk->Prop} {R:List Blk->Prop} (hx:Own o H xb (.cells wx 1 [sv k ms.length])) (hO:MsO o H k ms) (hR:RoundsM l H.length [ms] I) (h0:I [] o H) (h : ∀ o' H',I [ms] o' H' -> R H') :
 qj prog 296 [yM l,pM xb] H (fun _ H' => R H'):=by
 refine avN call296 func296 ntmps296 ?_;have hs:HS H none' [(false,xb, .cells wx 1 [sv k ms.length])] H:=(HS.start H none').add hx.1 (fun i p hi=>by simp at hi) (fun e=>by cases e)
 repeat' first|refine zRw ?_|intro _ _ hs|intro K0 hK0|(refine hK0 _ _ ?_;clear hK0)
 refine (hR.step (p := []) (List.prefix_refl _) (Nat.le_refl _) h0 hO).mono ?_;rintro v H4 ⟨rfl,u,o4,hI4,ho4⟩
 repeat' first|refine zRw ?_|intro _ _ hs|intro K0 hK0|(refine hK0 _ _ ?_;clear hK0)
 exact h _ _ hI4
structure ThS where
 H:List Blk
 o:Nat->Prop
 i:Nat
def Kp (D:Nat->Prop) (H1:List Blk) (o:Nat->Prop) (H:List Blk):Prop := ∀ j,D j->j<H1.length->¬ o j/\bget H j=bget H1 j
theorem Kp.up {D:Nat->Prop} {H1 H H' : List Blk} {o o' : Nat->Prop} (h:Kp D H1 o H) (hl:H1.length<=H.length) (hb : ∀ b,b<H.length->¬ o b->¬ o' b/\bget H' b=bget H b):Kp D H1 o' H' := fun j hj hl2=>by
 have a:=h j hj hl2;have b:=hb j (by omega) a.1;exact⟨b.1,b.2.trans a.2⟩
theorem xw0 {α : Type} {rss:List (List α)} {i:Nat} {p:List α} (h:i<rss.length) (hp:p <+: rss[i]):(rss.take i).flatten++p <+: rss.flatten:=by
 obtain ⟨q,hq⟩:=hp;refine⟨q++(rss.drop (i+1)).flatten, ?_⟩
 conv=>rhs;rw[<- List.take_append_drop i rss,List.drop_eq_getElem_cons h,List.flatten_append,List.flatten_cons,<- hq]
 simp
theorem wA0 {α : Type} {rss:List (List α)} {i:Nat} (h:i<rss.length):(rss.take i).flatten++rss[i]=(rss.take (i+1)).flatten:=by
 rw[List.take_succ_eq_append_getElem h,List.flatten_append];simp
theorem e294 {H H1:List Blk} {D:Nat->Prop} {l xb k:Nat} {wx wk:Bool} {o:Nat->Prop} {its:List Value} {rss:List (List (List Msg))} {I:List (List Msg)->(Nat->Prop)->List Blk->Prop} {R:List Blk->Prop} (hlen:its.length=rss.length) (hn:its.length<=100)
 (hx:Own o H xb (.cells wx 1 [sv k its.length])) (hk:Own o H k (.cells wk 1 its)) (hl1:H1.length<=H.length) (hD:Kp D H1 o H) (hit : ∀ i (h:i<its.length) (h2:i<rss.length),ItV D H1 its[i] rss[i]) (hR:RoundsM l H.length rss.flatten I) (h0:I [] o H) (h : ∀ o' H',I rss.flatten o' H' -> R H') :
 qj prog 294 [yM l,pM xb] H (fun _ H' => R H'):=by
 refine avN call294 func294 ntmps294 ?_;refine qo (HS.start H none') (fun H2 yb ey ly hs=>?_);have hoy : ¬ o yb:=fun hh=>by have:=hR.own h0 _ hh;omega
 have hI2:=hR.pure h0 (Nat.le_refl _) hs;have up : ∀ b,b<H.length->¬ o b->¬ o b/\bget H2 b=bget H b:=fun b hb hn=>⟨hn,hs.u.2 b hb id⟩
 have hx2:=qd0 hx up;have hk2:=qd0 hk up;have hD2:=hD.up hl1 up;have hy2:Own o H2 yb (.cells true 1 [yM l]):=⟨hs.get 0 rfl,hoy⟩;have hl2:H.length+1=H2.length:=by omega
 clear hs up hx hk hD h0;have hs:HS H2 none' [(false,xb, .cells wx 1 [sv k its.length])] H2:=(HS.start H2 none').add hx2.1 (fun i p hi=>by simp at hi) (fun e=>by cases e);refine qg (fun _ hKs=>hKs _ _ ?_);clear hKs
 repeat' first|refine zRw ?_|intro _ _ hs|intro K0 hK0|(refine hK0 _ _ ?_;clear hK0)
 refine qf (α := ThS) tok (fun z=>H2.length<=z.H.length/\I ((rss.take z.i).flatten) z.o z.H/\Own z.o z.H k (.cells wk 1 its)/\Own z.o z.H yb (.cells true 1 [yM l])/\Kp D H1 z.o z.H/\z.i<=its.length)
  (fun z=>[(1,pM xb),(2,pM yb),(6,sv k its.length),(7, .int .i64 (its.length:Int)),(8, .int .i64 (z.i:Int))]) (fun z=>z.H) (fun z=>its.length-z.i)
  ⟨H2,o,0⟩ ⟨Nat.le_refl _,hI2,hk2,hy2,hD2,Nat.zero_le _⟩ (Or.inl ⟨⟨rfl,rfl,rfl,rfl,rfl,trivial⟩,rfl⟩) ?_
 clear hs hx2 hk2 hy2 hD2 hI2;rintro ⟨H3,o3,i⟩ ⟨hl3,hI,hk,hy,hD,hi⟩;dsimp only at hl3 hI hk hy hD hi ⊢;have hs:HS H3 none' [(false,k, .cells wk 1 its)] H3:=(HS.start H3 none').add hk.1 (fun i p hi=>by simp at hi) (fun e=>by cases e)
 repeat' first|refine zRw ?_|intro _ _ hs|intro K0 hK0|(refine hK0 _ _ ?_;clear hK0)
 refine And.intro (fun hc=>?_) (fun hc=>?_)
 ·have hlt:i<its.length:=by simp at hc;omega
  clear hc;have hlt2:i<rss.length:=by omega
  obtain ⟨g,cs,hv,hgo⟩:=hit i hlt hlt2
  repeat' first|refine zRw ?_|intro _ _ hs|intro K0 hK0|(refine hK0 _ _ ?_;clear hK0)
  refine Ld_of (v:=its[i]) (by rw[List.getElem?_eq_getElem hlt]) ?_;rw[hv]
  repeat' first|refine zRw ?_|intro _ _ hs|intro K0 hK0|(refine hK0 _ _ ?_;clear hK0)
  rename_i lr H4;have hlr:H3.length<=lr:=((hs.g (i:=0) rfl).2 rfl).elim (fun h=>h.elim) id;have hlt4:=hs.lt 0 rfl;have g0:=hs.get 0 rfl;generalize hL:Blk.loop LoopState.ready none _ _ _ _ _=L at g0;have hky:yb<H3.length:=qJ hy.1;have hkk:k<H3.length:=qJ hk.1;have up : ∀ b,b<H3.length->¬ o3 b->¬ o3 b/\bget H4 b=bget H3 b:=fun b hb hn=>⟨hn,hs.u.2 b hb id⟩
  have hI4:=hR.pure hI (by omega) hs;have hle4:=hs.le;have hnl : ¬ o3 lr:=fun hh=>by have:=hR.own hI _ hh;omega
  have hk4:=qd0 hk up;have hy4:=qd0 hy up;have hD4:=hD.up (by omega) up;clear hs up hI hk hy hD
  refine hgo (H2:=H4) (l:=lr) (o:=fun b=>b=lr\/o3 b) (I:=fun ps oo HH => ∃ o1,I ((rss.take i).flatten++ps) o1 HH/\(∀ b,oo b↔b=lr\/o1 b)/\¬ o1 lr/\H4.length<=HH.length/\bget HH lr=some L/\Own o1 HH k (.cells wk 1 its)/\Own o1 HH yb (.cells true 1 [yM l])/\Kp D H1 o1 HH)
   (by omega) (fun j hj hl=>⟨fun hh=>hh.elim (fun e=>by omega) (hD4 j hj hl).1,(hD4 j hj hl).2⟩) ⟨?_, ?_, ?_⟩ ⟨o3,by rw[List.append_nil];exact hI4,fun _=>Iff.rfl,hnl,Nat.le_refl _,g0,hk4,hy4,hD4⟩ ?_
  ·rintro p oo HH ⟨o1,q1,q2,q3,q4,q5,q6,q7,q8⟩ b hb
   rcases (q2 b).1 hb with rfl | hb
   ·exact qJ q5
   ·exact hR.own q1 b hb
  ·rintro p oo HH HH' ⟨o1,q1,q2,q3,q4,q5,q6,q7,q8⟩ hle hsame
   have hs1 : ∀ b,b<H4.length\/o1 b->bget HH' b=bget HH b:=fun b hb=>hsame b (hb.imp_right (fun h=>(q2 b).2 (.inr h)))
   exact⟨o1,hR.keep q1 hle (fun b hb=>hs1 b (hb.imp_left (fun h=>by omega))),q2,q3,by omega,(hs1 lr (.inl hlt4)).trans q5,⟨(hs1 k (.inl (by omega))).trans q6.1,q6.2⟩,⟨(hs1 yb (.inl (by omega))).trans q7.1,q7.2⟩,fun j hj hl=>⟨(q8 j hj hl).1,(hs1 j (.inl (by omega))).trans (q8 j hj hl).2⟩⟩
  ·rintro p ms oo HH km hp hN ⟨o1,q1,q2,q3,q4,q5,q6,q7,q8⟩ hO
   subst hL;refine xE tok q5 ?_
   repeat' first|refine zRw ?_|intro _ _ hs|intro K0 hK0|(refine hK0 _ _ ?_;clear hK0)
   refine yV q5 (fun H8 d1 d2 d3=>?_);have up8 : ∀ b,b<HH.length->¬ oo b->¬ o1 b/\bget H8 b=bget HH b:=fun b hb hn=>⟨fun h=>hn ((q2 b).2 (.inr h)),d3 b (fun e=>hn ((q2 b).2 (.inl e)))⟩
   have hO8:=hO.up up8;have hI8:=hR.keep q1 (by omega) (fun b hb=>d3 b (fun e=>by subst e;exact hb.elim (fun h=>by omega) q3));have hy8:bget H8 yb=some (.cells true 1 [yM l]):=(d3 yb (by omega)).trans q7.1;have hk8:bget H8 k=some (.cells wk 1 its):=(d3 k (by omega)).trans q6.1;have hD8:Kp D H1 o1 H8:=fun j hj hl=>⟨(q8 j hj hl).1,(d3 j (by omega)).trans (q8 j hj hl).2⟩
   have hs:HS H8 none' [(false,yb, .cells true 1 [yM l])] H8:=adH (HS.start H8 none') hy8
   repeat' first|refine zRw ?_|intro _ _ hs|intro K0 hK0|(refine hK0 _ _ ?_;clear hK0)
   have hpre:((rss.take i).flatten++p) ++ [ms] <+: rss.flatten:=by rw[List.append_assoc];exact xw0 hlt2 hp
   refine (hR.step hpre (by omega) hI8 hO8).mono ?_;rintro v H9 ⟨rfl,u,o9,hI9,ho9⟩
   repeat' first|refine zRw ?_|intro _ _ hs|intro K0 hK0|(refine hK0 _ _ ?_;clear hK0)
   have e9:bget H9 lr=bget H8 lr:=u.2 lr (by omega) q3;refine Qz (e9.trans d2) (fun H10 t1 t2 t3=>?_);have up9 : ∀ b,b<H8.length->¬ o1 b->¬ o9 b/\bget H9 b=bget H8 b:=fun b hb hn=>⟨fun h=>(ho9 b h).elim hn (fun h=>by omega),u.2 b hb hn⟩
   have n9 : ¬ o9 lr:=fun h=>(ho9 lr h).elim q3 (fun h=>by omega)
   have up10 : ∀ b,b<H8.length->¬ o1 b->b≠lr->¬ o9 b/\bget H10 b=bget H8 b:=fun b hb hn hne=>⟨(up9 b hb hn).1,(t3 b hne).trans (up9 b hb hn).2⟩
   have hu:=u.1;refine⟨rfl,⟨by omega,fun b hb hn=>?_⟩,fun b=>b=lr\/o9 b,⟨o9, ?_,fun _=>Iff.rfl,n9,by omega,t2, ?_, ?_, ?_⟩,fun b hb=>?_⟩
   ·have hnl:b≠lr:=fun e=>hn ((q2 b).2 (.inl e))
    have hno : ¬ o1 b:=fun h=>hn ((q2 b).2 (.inr h))
    exact ((up10 b (by omega) hno hnl).2).trans (d3 b hnl)
   ·rw[<- List.append_assoc]
    exact hR.keep hI9 (by omega) (fun b hb=>t3 b (fun e=>by subst e;exact hb.elim (fun h=>by omega) n9))
   ·have a:=up10 k (by omega) q6.2 (by omega)
    exact⟨a.2.trans hk8,a.1⟩
   ·have a:=up10 yb (by omega) q7.2 (by omega)
    exact⟨a.2.trans hy8,a.1⟩
   ·intro j hj hl
    have a:=up10 j (by omega) (hD8 j hj hl).1 (by omega);exact⟨a.1,a.2.trans (hD8 j hj hl).2⟩
   ·rcases hb with rfl | hb
    ·exact .inl ((q2 b).2 (.inl rfl))
    ·exact (ho9 b hb).imp (fun h=>(q2 b).2 (.inr h)) (fun h=>by omega)
  ·rintro oo HH ⟨o1,q1,q2,q3,q4,q5,q6,q7,q8⟩
   subst hL;refine QB q5 (by decide) (fun H7 r1 r2=>?_);rw[wA0 hlt2] at q1;have hs:HS H7 none' [] H7:=HS.start H7 none'
   repeat' first|refine zRw ?_|intro _ _ hs|intro K0 hK0|(refine hK0 _ _ ?_;clear hK0)
   have hl7:H2.length<=H7.length:=by omega
   have hI7:I ((rss.take (i+1)).flatten) o1 H7:=hR.keep q1 (by omega) (fun b hb=>r2 b (fun e=>by subst e;exact hb.elim (fun h=>by omega) q3));exact⟨⟨H7,o1,i+1⟩,⟨hl7,hI7,⟨(r2 k (by omega)).trans q6.1,q6.2⟩,⟨(r2 yb (by omega)).trans q7.1,q7.2⟩,fun j hj hl=>⟨(q8 j hj hl).1,(r2 j (by omega)).trans (q8 j hj hl).2⟩,hlt⟩,by dsimp only;omega,Or.inl ⟨⟨rfl,rfl,rfl,rfl,rfl,trivial⟩,rfl⟩⟩
 ·have hie:i=its.length:=by simp at hc;omega
  rw[hie,hlen,List.take_length] at hI
  repeat' first|refine zRw ?_|intro _ _ hs|intro K0 hK0|(refine hK0 _ _ ?_;clear hK0)
  exact h _ _ hI
end Go.Af.Tryz
namespace Go.Af.Tryz
open Go Go.Proofs Tryz
attribute [local irreducible] awp qj qI qK qE qm isCells ql qi qB qx qh roundEnd

def DN (N0 b c:Nat) (j:Nat):Prop:=N0<=j\/j=b\/j=c
theorem ItV.hs {D:Nat->Prop} {H H' : List Blk} {v:Value} {rs:List (List Msg)} (h:ItV D H v rs) (hl:H.length<=H'.length) (he : ∀ j,D j->j<H.length->bget H' j=bget H j):ItV D H' v rs:=by
 obtain ⟨g,cs,hv,hgo⟩:=h;exact⟨g,cs,hv,fun hl2 hD hR h0 hr=>hgo (by omega) (fun j hj hlt=>⟨(hD j hj (by omega)).1,((hD j hj (by omega)).2).trans (he j hj hlt)⟩) hR h0 hr⟩
theorem zh {D:Nat->Prop} {H1 H2:List Blk} {o:Nat->Prop} (h:Kp D H1 o H2) {j:Nat} {B:Blk} (hj:D j) (hb:bget H1 j=some B):Own o H2 j B:=by
 have a:=h j hj (qJ hb);exact⟨a.2.trans hb,a.1⟩
theorem qQ0 {D:Nat->Prop} {H1 H2:List Blk} {o:Nat->Prop} {t:Tk} {b c:Nat} (h:Kp D H1 o H2) (hb:D b) (hc:D c) (gr:Gr H1 t.sz b) (gw:Gw H1 t.ws b c):Tb o H2 t b c:=by
 obtain ⟨w1,h1⟩:=gr.s;obtain ⟨w2,h2⟩:=gw.s;have a:=zh h hb h1;have d:=zh h hc h2;exact⟨⟨w1,a.1⟩,⟨gw.ne,w2,d.1⟩,a.2,d.2⟩
def AlgV (N0:Nat) (HA:List Blk) (a:Value) (t:Tk) (rs:List (List Msg)):Prop :=
 ∃ g cs,a=cloV g cs/\∀ {H2:List Blk} {b c:Nat} {R:Value->List Blk->Prop},HA.length<=H2.length->(∀ j,N0<=j->j<HA.length->bget H2 j=bget HA j)->Gr H2 t.sz b->Gw H2 t.ws b c ->
   (∀ v' H3,HS H2 none' [] H3->ItV (DN N0 b c) H3 v' rs->R v' H3)->qj prog g (tkV t b c::cs) H2 R
theorem xI {N0 mb f:Nat} {HA:List Blk} {w:Bool} {t:Tk} {ms:Int->List Msg} (kt:TkOk t) (hN:N0<=HA.length) (hmb:N0<=mb) (hm:bget HA mb=some (.cells w 1 [fnV f])) (hf:MkV f t (fun i=>0<=i/\i<t.pr-1) ms):AlgV N0 HA (cloV 198 [pM mb]) t (qM ms t.pr):=by
 refine⟨_,[pM mb],rfl,fun {H2 b c R} hl hsame gr gw h=>?_⟩;refine avN call198 func198 ntmps198 ?_;refine qo (HS.start H2 none') (fun H3 xb e1 l1 hs=>?_);have hm3:bget H3 mb=some (.cells w 1 [fnV f]):=(hs.u.2 mb (by have:=qJ hm;omega) id).trans ((hsame mb hmb (qJ hm)).trans hm);have gr3:=gr.up (qc hs);have gw3:=gw.up (qc hs);have hx3:=hs.get 0 rfl;have hnn:=qc hs;refine qg (fun _ hKs=>hKs _ _ ?_);clear hKs;clear e1 l1
 repeat' first|refine zPw ?_|intro _ _ hs|intro K0 hK0
 refine h _ _ hnn ⟨_,[pM xb,pM mb],rfl,fun {H4 l o I R'} hl4 hD hR h0 hr=>?_⟩;have hx:=zh hD (.inl (by have:=(hs.g (i:=0) rfl).2 rfl;exact this.elim (fun h=>h.elim) (fun h=>by omega))) hx3;exact e199 kt hx (zh hD (.inl hmb) hm3) (qQ0 hD (.inr (.inl rfl)) (.inr (.inr rfl)) gr3 gw3) hf hR h0 hr
def MkC (N0:Nat) (HA:List Blk) (f:Nat) (cs:List Value) (t:Tk) (d:Int->Prop) (ms:Int->List Msg):Prop :=
 ∀ {H:List Blk} {b c:Nat} {i:Int} {R:Value->List Blk->Prop},HA.length<=H.length->(∀ j,N0<=j->j<HA.length->bget H j=bget HA j)->d i->Gr H t.sz b->Gw H t.ws b c->(∀ H' k E M,HS H none' ((true,k,mgB E)::rwM M) H' -> MgIn E M->E.map (·.1)=ms i->R (sv k E.length) H')->qj prog f (tkV t b c :: .int .i64 i::cs) H R
theorem MkV.c {N0 f:Nat} {HA:List Blk} {t:Tk} {d:Int->Prop} {ms:Int->List Msg} (h:MkV f t d ms):MkC N0 HA f [] t d ms:=fun _ _ hd gr gw hr=>h hd gr gw hr
def lgF (p:Int):Nat:=if p<=1 then 0 else if p<=2 then 1 else if p<=4 then 2 else if p<=8 then 3 else if p<=16 then 4 else if p<=32 then 5 else 6
theorem Wp {p:Int} {i:Nat} (hp:p<=64) (hi:i<=6):(2:Int) ^ i<p↔i<lgF p:=by
 unfold lgF;obtain rfl | rfl | rfl | rfl | rfl | rfl | rfl:i=0\/i=1\/i=2\/i=3\/i=4\/i=5\/i=6:=by omega
 all_goals (simp only[show (2:Int) ^ 0=1 from rfl,show (2:Int) ^ 1=2 from rfl,show (2:Int) ^ 2=4 from rfl,show (2:Int) ^ 3=8 from rfl,show (2:Int) ^ 4=16 from rfl,show (2:Int) ^ 5=32 from rfl,show (2:Int) ^ 6=64 from rfl];(repeat' split) <;> omega)
theorem zL {i:Nat} (h:i<=6):1<=(2:Int) ^ i/\(2:Int) ^ i<=64:=by
 obtain rfl | rfl | rfl | rfl | rfl | rfl | rfl:i=0\/i=1\/i=2\/i=3\/i=4\/i=5\/i=6:=by omega
 all_goals decide
theorem wL (p:Int):lgF p<=6:=by unfold lgF;(repeat' split) <;> omega
def powF (ms:Int->List Msg) (p:Int):List (List Msg):=(List.range (lgF p)).map (fun i:Nat=>ms ((2:Int) ^ i))
theorem e293 {H HA:List Blk} {N0 l xb mb b c f:Nat} {cs:List Value} {wx wm:Bool} {t:Tk} {o:Nat->Prop} {ms:Int->List Msg} {I:List (List Msg)->(Nat->Prop)->List Blk->Prop} {R:List Blk->Prop} (kt:TkOk t) (hx:Own o H xb (.cells wx 1 (tkC t b c))) (hm:Own o H mb (.cells wm 1 [cloV f cs])) (g:Tb o H t b c) (hA:HA.length<=H.length) (hk:Kp (fun j=>N0<=j) HA o H)
 (hf:MkC N0 HA f cs t (fun h=>1<=h/\h<t.pr/\∃ i,i<6/\h=(2:Int) ^ i) ms) (hR:RoundsM l H.length (powF ms t.pr) I) (h0:I [] o H) (h : ∀ o' H',I (powF ms t.pr) o' H' -> R H'):qj prog 293 [yM l,pM xb,pM mb] H (fun _ H' => R H'):=by
 have hpr:=kt.pr;have hrl:(powF ms t.pr).length=lgF t.pr:=by simp[powF]
 have hlg:=wL t.pr;refine avN call293 func293 ntmps293 ?_
 have hne:xb≠mb:=fun e=>by
  have e1:=hx.1;rw[e,hm.1] at e1;cases e1
 refine qg (fun _ hKs=>hKs _ _ ?_);clear hKs
 refine qf (α := YS) tok (fun z=>H.length<=z.H.length/\I ((powF ms t.pr).take z.i) z.o z.H/\Own z.o z.H xb (.cells wx 1 (tkC t b c))/\Own z.o z.H mb (.cells wm 1 [cloV f cs])/\Tb z.o z.H t b c/\Kp (fun j=>N0<=j) HA z.o z.H/\z.i<=lgF t.pr)
  (fun z=>[(0,yM l),(1,pM xb),(2,pM mb),(4, .int .i64 ((2:Int) ^ z.i))]) (fun z=>z.H) (fun z=>lgF t.pr-z.i)
  ⟨H,o,0⟩ ⟨Nat.le_refl _,h0,hx,hm,g,hk,Nat.zero_le _⟩ (Or.inl ⟨⟨rfl,rfl,rfl,rfl,trivial⟩,rfl⟩) ?_
 clear hx hm g h0 hk;rintro ⟨H2,o2,i⟩ ⟨hl,hI,hx,hm,g,hk,hi⟩;dsimp only at hl hI hx hm g hk hi ⊢;have hi6:i<=6:=by omega
 have hpw:=zL hi6;have hlt2:=Wp hpr.2 hi6;have hsu:(2:Int) ^ (i+1)=2 ^ i*2:=Int.pow_succ 2 i
 have hpi:(powF ms t.pr)[i]! = ms ((2:Int) ^ i)\/¬ i<lgF t.pr:=by
  by_cases h:i<lgF t.pr
  ·left;rw[getElem!_pos _ i (by omega)];simp[powF]
  ·exact .inr h
 have hex : ∀ x:Int,x=2 ^ i->i<6->∃ j,j<6/\x=(2:Int) ^ j:=fun x hx h=>⟨i,h,hx⟩
 generalize hhh:(2:Int) ^ i=hh at hpw hlt2 hsu hpi hex ⊢
 have hs:HS H2 none' [(false,xb, .cells wx 1 (tkC t b c)),(false,mb, .cells wm 1 [cloV f cs])] H2:=((HS.start H2 none').add hm.1 (fun i p hi=>by simp at hi) (fun e=>by cases e)).add hx.1 (fun i p hi=>by
  match i,hi with
  | 0,hi=>cases hi;exact hne.symm) (fun e=>by cases e)
 repeat' first|refine zPw ?_|intro _ _ hs|intro K0 hK0
 refine And.intro (fun hc=>?_) (fun hc=>?_)
 ·have hpl:hh<t.pr:=by simpa using hc
  have hlg2:i<lgF t.pr:=hlt2.1 hpl;have hlt:i<(powF ms t.pr).length:=by omega
  clear hc;have hms:(powF ms t.pr)[i]! = ms hh:=hpi.resolve_right (fun h=>h hlg2)
  repeat' first|refine zPw ?_|intro _ _ hs|intro K0 hK0
  refine hf (by omega) (fun j hj hlt=>(hk j hj hlt).2) ⟨by omega,hpl,hex _ rfl (by omega)⟩ g.r g.w (fun H3 k E M hn hin hE=>?_);have hI3:=hR.pure hI hl hn;have hO:=MsO.of (hR.own hI) hn hin hE;have hx3:=hx.ext (fun j hj=>hn.u.2 j hj id);have hm3:=hm.ext (fun j hj=>hn.u.2 j hj id);have g3:=g.hs (qc hn);have hk3:=hk.up (by omega) (fun b hb hn2=>⟨hn2,hn.u.2 b hb id⟩);have hle:=hn.le;clear hI hx hm g hs hn hk
  repeat' first|refine zPw ?_|intro _ _ hs|intro K0 hK0
  have hel:E.length=(ms hh).length:=by rw[<- hE,List.length_map]
  rw[hel];rw[<- hms] at hO ⊢;refine (hR.step (yP hlt) (by omega) hI3 hO).mono ?_;rintro v H4 ⟨rfl,u,o4,hI4,ho4⟩;rw[xK hlt] at hI4;have hk4:Kp (fun j=>N0<=j) HA o4 H4:=hk3.up (by omega) (fun b hb hn2=>⟨fun hh=>(ho4 b hh).elim hn2 (fun h=>by omega),u.2 b hb hn2⟩);have hu:=u.1
  repeat' first|refine zPw ?_|intro _ _ hs|intro K0 hK0
  exact⟨⟨H4,o4,i+1⟩,⟨Nat.le_trans hl (Nat.le_trans hle u.1),hI4,hx3.upd u ho4,hm3.upd u ho4,g3.upd u ho4,hk4,hlg2⟩,by dsimp only;omega,Or.inl ⟨⟨rfl,rfl,rfl,by rw[hsu];rfl,trivial⟩,rfl⟩⟩
 ·have hie : ¬ hh<t.pr:=by simpa using hc
  have hie2:i=(powF ms t.pr).length:=by
   have : ¬ i<lgF t.pr:=fun h=>hie (hlt2.2 h)
   omega
  rw[hie2,List.take_length] at hI
  repeat' first|refine zPw ?_|intro _ _ hs|intro K0 hK0
  exact h _ _ hI
end Go.Af.Tryz
namespace Go.Af.Tryz
open Go Go.Proofs Tryz
attribute [local irreducible] awp qj qI qK qE qm isCells ql qi qB qx qh roundEnd
variable {H:List Blk}
variable {R:Value->List Blk->Prop}

def dPw (t:Tk) (h:Int):Prop:=1<=h/\h<t.pr/\∃ i,i<6/\h=(2:Int) ^ i
theorem c203 {f:Nat} {cs:List Value} (h : ∀ H' mb,HS H none' [(true,mb, .cells true 1 [cloV f cs])] H' -> R (cloV 292 [pM mb]) H'):qj prog 203 [cloV f cs] H R:=by
 refine avN call203 func203 ntmps203 ?_;refine qo (HS.start H none') (fun H3 xb e1 l1 hs=>?_);refine qg (fun _ hKs=>hKs _ _ ?_);clear hKs;clear e1 l1
 repeat' first|refine zPw ?_|intro _ _ hs|intro K0 hK0
 exact h _ _ hs
theorem c292 {H2 HA:List Blk} {N0 mb b c f:Nat} {cs:List Value} {w:Bool} {t:Tk} {ms:Int->List Msg} (kt:TkOk t) (hA:HA.length<=H2.length) (hN:N0<=H2.length) (hmb:N0<=mb) (hm:bget H2 mb=some (.cells w 1 [cloV f cs])) (hsame : ∀ j,N0<=j->j<HA.length->bget H2 j=bget HA j)
 (hf:MkC N0 HA f cs t (dPw t) ms) (gr:Gr H2 t.sz b) (gw:Gw H2 t.ws b c) (h : ∀ v' H3,HS H2 none' [] H3->ItV (DN N0 b c) H3 v' (powF ms t.pr)->R v' H3):qj prog 292 [tkV t b c,pM mb] H2 R:=by
 refine avN call292 func292 ntmps292 ?_;refine qo (HS.start H2 none') (fun H3 xb e1 l1 hs=>?_);have hm3:bget H3 mb=some (.cells w 1 [cloV f cs]):=(hs.u.2 mb (qJ hm) id).trans hm;have gr3:=gr.up (qc hs);have gw3:=gw.up (qc hs);have hx3:=hs.get 0 rfl;have hnn:=qc hs;have hxb:H2.length<=xb:=((hs.g (i:=0) rfl).2 rfl).elim (fun h=>h.elim) id;have hsame3 : ∀ j,N0<=j->j<HA.length->bget H3 j=bget HA j:=fun j h1 h2=>(hs.u.2 j (by omega) id).trans (hsame j h1 h2)
 have hle3:=hs.le;refine qg (fun _ hKs=>hKs _ _ ?_);clear hKs;clear e1 l1
 repeat' first|refine zPw ?_|intro _ _ hs|intro K0 hK0
 refine h _ _ hnn ⟨_,[pM xb,pM mb],rfl,fun {H4 l o I R'} hl4 hD hR h0 hr=>?_⟩
 have hkp:Kp (fun j=>N0<=j) HA o H4:=fun j hj hlt=>by
  have a:=hD j (.inl hj) (by omega);exact⟨a.1,a.2.trans (hsame3 j hj hlt)⟩
 exact e293 kt (zh hD (.inl (by omega)) hx3) (zh hD (.inl hmb) hm3) (qQ0 hD (.inr (.inl rfl)) (.inr (.inr rfl)) gr3 gw3) (by omega) hkp hf hR h0 hr
def MsN (N0:Nat) (H:List Blk) (k:Nat) (ms:List Msg):Prop :=
 ∃ E w,bget H k=some (.cells w 5 (mgsC E))/\N0<=k/\E.map (·.1)=ms/\∀ e∈E,(N0<=e.2.1/\∃ w,bget H e.2.1=some (.cells w 1 (ints e.1.sr)))/\(N0<=e.2.2/\∃ w,bget H e.2.2=some (.cells w 1 (ints e.1.ds)))
theorem MsN.hs {N0 k:Nat} {H H' : List Blk} {ms:List Msg} (h:MsN N0 H k ms) (hs:HS H none' [] H'):MsN N0 H' k ms:=by
 obtain ⟨E,w,h1,h2,h3,h4⟩:=h;refine⟨E,w,vz hs h1,h2,h3,fun e he=>?_⟩;obtain ⟨⟨a1,w1,a2⟩,b1,w2,b2⟩:=h4 e he;exact⟨⟨a1,w1,vz hs a2⟩,b1,w2,vz hs b2⟩
theorem MsN.own {N0 k:Nat} {H1 H:List Blk} {o:Nat->Prop} {D:Nat->Prop} {ms:List Msg} (h:MsN N0 H1 k ms) (hd : ∀ j,N0<=j->D j) (hk:Kp D H1 o H):MsO o H k ms:=by
 obtain ⟨E,w,h1,h2,h3,h4⟩:=h;have k1:=zh hk (hd _ h2) h1;refine⟨E,w,k1.1,k1.2,h3,fun e he=>?_⟩;obtain ⟨⟨a1,w1,a2⟩,b1,w2,b2⟩:=h4 e he;have c1:=zh hk (hd _ a1) a2;have c2:=zh hk (hd _ b1) b2;exact⟨⟨c1.2,w1,c1.1⟩,c2.2,w2,c2.1⟩
theorem MsN.of {N0 k:Nat} {H H' : List Blk} {E:List Mg} {M:List (Nat × List Int)} {ms:List Msg} (hN:N0<=H.length) (hs:HS H none' ((true,k,mgB E)::rwM M) H') (hin:MgIn E M) (hE:E.map (·.1)=ms):MsN N0 H' k ms:=by
 have key : ∀ {b:Nat} {B:Blk},(true,b,B)∈((true,k,mgB E)::rwM M)->N0<=b/\bget H' b=some B:=fun {b B} hm=>by
  obtain ⟨i,hi⟩:=List.getElem?_of_mem hm;have g:=hs.g hi;exact⟨(g.2 rfl).elim (fun h1=>h1.elim) (fun h1=>by omega),g.1⟩
 refine⟨E,true,(key List.mem_cons_self).2,(key List.mem_cons_self).1,hE,fun e he=>?_⟩;have a:=key (List.mem_cons_of_mem _ (Xq (hin e he).1));have b:=key (List.mem_cons_of_mem _ (Xq (hin e he).2));exact⟨⟨a.1,_,a.2⟩,b.1,_,b.2⟩
theorem c215 {N0 k b c:Nat} {ms:List Msg} (hN:N0<=H.length) (hm:MsN N0 H k ms) (h : ∀ H' v,HS H none' [] H' -> ItV (DN N0 b c) H' v [ms]->R v H'):qj prog 215 [sv k ms.length] H R:=by
 refine avN call215 func215 ntmps215 ?_;refine qo (HS.start H none') (fun H3 xb e1 l1 hs=>?_);have hx3:=hs.get 0 rfl;have hnn:=qc hs;have hxb:H.length<=xb:=((hs.g (i:=0) rfl).2 rfl).elim (fun h=>h.elim) id;refine qg (fun _ hKs=>hKs _ _ ?_);clear hKs;clear e1 l1
 repeat' first|refine zPw ?_|intro _ _ hs|intro K0 hK0
 refine h _ _ hnn ⟨_,[pM xb],rfl,fun {H4 l o I R'} hl4 hD hR h0 hr=>?_⟩;exact e296 (zh hD (.inl (by omega)) hx3) ((hm.hs hnn).own (fun j hj=>.inl hj) hD) hR h0 hr
theorem c211 {N0 k b c:Nat} {w:Bool} {its:List Value} {rss:List (List (List Msg))} {R:Value->List Blk->Prop} (hN:N0<=H.length) (hk:N0<=k) (hb:bget H k=some (.cells w 1 its)) (hlen:its.length=rss.length) (hn:its.length<=100)
 (hit : ∀ i (h:i<its.length) (h2:i<rss.length),ItV (DN N0 b c) H its[i] rss[i]) (h : ∀ H' v,HS H none' [] H' -> ItV (DN N0 b c) H' v rss.flatten->R v H'):qj prog 211 [sv k its.length] H R:=by
 refine avN call211 func211 ntmps211 ?_;refine qo (HS.start H none') (fun H3 xb e1 l1 hs=>?_);have hx3:=hs.get 0 rfl;have hnn:=qc hs;have hxb:H.length<=xb:=((hs.g (i:=0) rfl).2 rfl).elim (fun h=>h.elim) id;have hle:=hs.le;have hk3:=vz hnn hb;refine qg (fun _ hKs=>hKs _ _ ?_);clear hKs;clear e1 l1
 repeat' first|refine zPw ?_|intro _ _ hs|intro K0 hK0
 refine h _ _ hnn ⟨_,[pM xb],rfl,fun {H4 l o I R'} hl4 hD hR h0 hr=>?_⟩;exact e294 hlen hn (zh hD (.inl (by omega)) hx3) (zh hD (.inl hk) hk3) hl4 hD (fun i h1 h2=>(hit i h1 h2).hs hle (fun j _ hlt=>hnn.u.2 j hlt id)) hR h0 hr
theorem zt0 {N0:Nat} {HA:List Blk} {t:Tk} {ms:Int->List Msg} (kt:TkOk t) (hN:N0<=HA.length) (hf:MkV 204 t (dPw t) ms):AlgV N0 HA (fnV 111) t (powF ms t.pr):=by
 refine⟨_,[],rfl,fun {H2 b c R} hl hsame gr gw h=>?_⟩;refine avN call111 func111 ntmps111 ?_;refine qo (HS.start H2 none') (fun H3 tb e1 l1 hs=>?_);have hle2:=hs.le;refine qg (fun _ hKs=>hKs _ _ ?_);clear hKs;clear e1 l1;refine qp tok mx [0,0,3,7] [false,false,false,false] (.alt 0 (.first 1 (.first 2 (.first 3 .done))) (.alt 1 (.first 0 (.first 2 (.first 3 .done))) .no)) (by kernel_rfl) ?_;refine qw (fun K0 hK0=>?_)
 repeat' first|refine zPw ?_|intro _ _ hs|intro K0 hK0
 refine And.intro ?_ (And.intro ?_ trivial)
 all_goals (
  repeat' first|refine zPw ?_|intro _ _ hs|intro K0 hK0
  refine c203 (cs := []) (fun H4 mb hn=>?_);have hmb:H3.length<=mb:=((hn.g (i:=0) rfl).2 rfl).elim (fun h=>h.elim) id;have hs:=hs.call hn rfl;have hm:=hs.get 0 rfl;have hle:=hn.le;have hle3:=hs.le;clear hn
  repeat' first|refine zPw ?_|intro _ _ hs|intro K0 hK0|(refine c292 (HA := []) (N0:=N0) kt (Nat.zero_le _) (by omega) (by omega) hm (fun j _ hj=>by simp at hj) hf.c (gr.up (qc hs)) (gw.up (qc hs)) (fun v' H5 hn hit=>?_);have hs:=qL hs hn)
  exact h _ _ (qc hs) hit
  )
theorem zq0 {N0:Nat} {HA:List Blk} {t:Tk} {ms:Int->List Msg} (kt:TkOk t) (hN:N0<=HA.length) (hf:MkV 213 t (dPw t) ms):AlgV N0 HA (fnV 115) t (powF ms t.pr):=by
 refine⟨_,[],rfl,fun {H2 b c R} hl hsame gr gw h=>?_⟩;refine avN call115 func115 ntmps115 ?_;refine qo (HS.start H2 none') (fun H3 tb e1 l1 hs=>?_);have hle2:=hs.le;refine qg (fun _ hKs=>hKs _ _ ?_);clear hKs;clear e1 l1;refine qp tok mx [0,0,3,7] [false,false,false,false] (.alt 0 (.first 1 (.first 2 (.first 3 .done))) (.alt 1 (.first 0 (.first 2 (.first 3 .done))) .no)) (by kernel_rfl) ?_;refine qw (fun K0 hK0=>?_)
 repeat' first|refine zPw ?_|intro _ _ hs|intro K0 hK0
 refine And.intro ?_ (And.intro ?_ trivial)
 all_goals (
  repeat' first|refine zPw ?_|intro _ _ hs|intro K0 hK0
  refine c203 (cs := []) (fun H4 mb hn=>?_);have hmb:H3.length<=mb:=((hn.g (i:=0) rfl).2 rfl).elim (fun h=>h.elim) id;have hs:=hs.call hn rfl;have hm:=hs.get 0 rfl;have hle:=hn.le;have hle3:=hs.le;clear hn
  repeat' first|refine zPw ?_|intro _ _ hs|intro K0 hK0|(refine c292 (HA := []) (N0:=N0) kt (Nat.zero_le _) (by omega) (by omega) hm (fun j _ hj=>by simp at hj) hf.c (gr.up (qc hs)) (gw.up (qc hs)) (fun v' H5 hn hit=>?_);have hs:=qL hs hn)
  exact h _ _ (qc hs) hit
  )
theorem QJ0 {N0:Nat} {HA:List Blk} {t:Tk} {ms:Int->List Msg} (kt:TkOk t) (hN:N0<=HA.length) (hf:MkV 221 t (dPw t) ms):AlgV N0 HA (fnV 120) t (powF ms t.pr):=by
 refine⟨_,[],rfl,fun {H2 b c R} hl hsame gr gw h=>?_⟩;refine avN call120 func120 ntmps120 ?_;refine qo (HS.start H2 none') (fun H3 tb e1 l1 hs=>?_);have hle2:=hs.le;refine qg (fun _ hKs=>hKs _ _ ?_);clear hKs;clear e1 l1;refine qp tok mx [0,0,3,7] [false,false,false,false] (.alt 0 (.first 1 (.first 2 (.first 3 .done))) (.alt 1 (.first 0 (.first 2 (.first 3 .done))) .no)) (by kernel_rfl) ?_;refine qw (fun K0 hK0=>?_)
 repeat' first|refine zPw ?_|intro _ _ hs|intro K0 hK0
 refine And.intro ?_ (And.intro ?_ trivial)
 all_goals (
  repeat' first|refine zPw ?_|intro _ _ hs|intro K0 hK0
  refine c203 (cs := []) (fun H4 mb hn=>?_);have hmb:H3.length<=mb:=((hn.g (i:=0) rfl).2 rfl).elim (fun h=>h.elim) id;have hs:=hs.call hn rfl;have hm:=hs.get 0 rfl;have hle:=hn.le;have hle3:=hs.le;clear hn
  repeat' first|refine zPw ?_|intro _ _ hs|intro K0 hK0|(refine c292 (HA := []) (N0:=N0) kt (Nat.zero_le _) (by omega) (by omega) hm (fun j _ hj=>by simp at hj) hf.c (gr.up (qc hs)) (gw.up (qc hs)) (fun v' H5 hn hit=>?_);have hs:=qL hs hn)
  exact h _ _ (qc hs) hit
  )
theorem QI0 {N0:Nat} {HA:List Blk} {t:Tk} {ms:Int->List Msg} (kt:TkOk t) (hN:N0<=HA.length) (hf:MkV 223 t (dPw t) ms):AlgV N0 HA (fnV 122) t (powF ms t.pr):=by
 refine⟨_,[],rfl,fun {H2 b c R} hl hsame gr gw h=>?_⟩;refine avN call122 func122 ntmps122 ?_;refine qo (HS.start H2 none') (fun H3 tb e1 l1 hs=>?_);have hle2:=hs.le;refine qg (fun _ hKs=>hKs _ _ ?_);clear hKs;clear e1 l1;refine qp tok mx [0,0,3,7] [false,false,false,false] (.alt 0 (.first 1 (.first 2 (.first 3 .done))) (.alt 1 (.first 0 (.first 2 (.first 3 .done))) .no)) (by kernel_rfl) ?_;refine qw (fun K0 hK0=>?_)
 repeat' first|refine zPw ?_|intro _ _ hs|intro K0 hK0
 refine And.intro ?_ (And.intro ?_ trivial)
 all_goals (
  repeat' first|refine zPw ?_|intro _ _ hs|intro K0 hK0
  refine c203 (cs := []) (fun H4 mb hn=>?_);have hmb:H3.length<=mb:=((hn.g (i:=0) rfl).2 rfl).elim (fun h=>h.elim) id;have hs:=hs.call hn rfl;have hm:=hs.get 0 rfl;have hle:=hn.le;have hle3:=hs.le;clear hn
  repeat' first|refine zPw ?_|intro _ _ hs|intro K0 hK0|(refine c292 (HA := []) (N0:=N0) kt (Nat.zero_le _) (by omega) (by omega) hm (fun j _ hj=>by simp at hj) hf.c (gr.up (qc hs)) (gw.up (qc hs)) (fun v' H5 hn hit=>?_);have hs:=qL hs hn)
  exact h _ _ (qc hs) hit
  )
theorem QG0 {N0:Nat} {HA:List Blk} {t:Tk} {ms:Int->List Msg} (kt:TkOk t) (hN:N0<=HA.length) (hf:MkV 226 t (dPw t) ms):AlgV N0 HA (fnV 126) t (powF ms t.pr):=by
 refine⟨_,[],rfl,fun {H2 b c R} hl hsame gr gw h=>?_⟩;refine avN call126 func126 ntmps126 ?_;refine qo (HS.start H2 none') (fun H3 tb e1 l1 hs=>?_);have hle2:=hs.le;refine qg (fun _ hKs=>hKs _ _ ?_);clear hKs;clear e1 l1;refine qp tok mx [0,0,3,7] [false,false,false,false] (.alt 0 (.first 1 (.first 2 (.first 3 .done))) (.alt 1 (.first 0 (.first 2 (.first 3 .done))) .no)) (by kernel_rfl) ?_;refine qw (fun K0 hK0=>?_)
 repeat' first|refine zPw ?_|intro _ _ hs|intro K0 hK0
 refine And.intro ?_ (And.intro ?_ trivial)
 all_goals (
  repeat' first|refine zPw ?_|intro _ _ hs|intro K0 hK0
  refine c203 (cs := []) (fun H4 mb hn=>?_);have hmb:H3.length<=mb:=((hn.g (i:=0) rfl).2 rfl).elim (fun h=>h.elim) id;have hs:=hs.call hn rfl;have hm:=hs.get 0 rfl;have hle:=hn.le;have hle3:=hs.le;clear hn
  repeat' first|refine zPw ?_|intro _ _ hs|intro K0 hK0|(refine c292 (HA := []) (N0:=N0) kt (Nat.zero_le _) (by omega) (by omega) hm (fun j _ hj=>by simp at hj) hf.c (gr.up (qc hs)) (gw.up (qc hs)) (fun v' H5 hn hit=>?_);have hs:=qL hs hn)
  exact h _ _ (qc hs) hit
  )
theorem QF0 {N0:Nat} {HA:List Blk} {t:Tk} {ms:Int->List Msg} (kt:TkOk t) (hN:N0<=HA.length) (hf:MkV 228 t (dPw t) ms):AlgV N0 HA (fnV 127) t (powF ms t.pr):=by
 refine⟨_,[],rfl,fun {H2 b c R} hl hsame gr gw h=>?_⟩;refine avN call127 func127 ntmps127 ?_;refine qo (HS.start H2 none') (fun H3 tb e1 l1 hs=>?_);have hle2:=hs.le;refine qg (fun _ hKs=>hKs _ _ ?_);clear hKs;clear e1 l1;refine qp tok mx [0,0,3,7] [false,false,false,false] (.alt 0 (.first 1 (.first 2 (.first 3 .done))) (.alt 1 (.first 0 (.first 2 (.first 3 .done))) .no)) (by kernel_rfl) ?_;refine qw (fun K0 hK0=>?_)
 repeat' first|refine zPw ?_|intro _ _ hs|intro K0 hK0
 refine And.intro ?_ (And.intro ?_ trivial)
 all_goals (
  repeat' first|refine zPw ?_|intro _ _ hs|intro K0 hK0
  refine c203 (cs := []) (fun H4 mb hn=>?_);have hmb:H3.length<=mb:=((hn.g (i:=0) rfl).2 rfl).elim (fun h=>h.elim) id;have hs:=hs.call hn rfl;have hm:=hs.get 0 rfl;have hle:=hn.le;have hle3:=hs.le;clear hn
  repeat' first|refine zPw ?_|intro _ _ hs|intro K0 hK0|(refine c292 (HA := []) (N0:=N0) kt (Nat.zero_le _) (by omega) (by omega) hm (fun j _ hj=>by simp at hj) hf.c (gr.up (qc hs)) (gw.up (qc hs)) (fun v' H5 hn hit=>?_);have hs:=qL hs hn)
  exact h _ _ (qc hs) hit
  )
theorem QA0 {N0:Nat} {HA:List Blk} {t:Tk} {ms:Int->List Msg} (kt:TkOk t) (hN:N0<=HA.length) (hf:MkV 242 t (dPw t) ms):AlgV N0 HA (fnV 134) t (powF ms t.pr):=by
 refine⟨_,[],rfl,fun {H2 b c R} hl hsame gr gw h=>?_⟩;refine avN call134 func134 ntmps134 ?_;refine qo (HS.start H2 none') (fun H3 tb e1 l1 hs=>?_);have hle2:=hs.le;refine qg (fun _ hKs=>hKs _ _ ?_);clear hKs;clear e1 l1;refine qp tok mx [0,0,3,7] [false,false,false,false] (.alt 0 (.first 1 (.first 2 (.first 3 .done))) (.alt 1 (.first 0 (.first 2 (.first 3 .done))) .no)) (by kernel_rfl) ?_;refine qw (fun K0 hK0=>?_)
 repeat' first|refine zPw ?_|intro _ _ hs|intro K0 hK0
 refine And.intro ?_ (And.intro ?_ trivial)
 all_goals (
  repeat' first|refine zPw ?_|intro _ _ hs|intro K0 hK0
  refine c203 (cs := []) (fun H4 mb hn=>?_);have hmb:H3.length<=mb:=((hn.g (i:=0) rfl).2 rfl).elim (fun h=>h.elim) id;have hs:=hs.call hn rfl;have hm:=hs.get 0 rfl;have hle:=hn.le;have hle3:=hs.le;clear hn
  repeat' first|refine zPw ?_|intro _ _ hs|intro K0 hK0|(refine c292 (HA := []) (N0:=N0) kt (Nat.zero_le _) (by omega) (by omega) hm (fun j _ hj=>by simp at hj) hf.c (gr.up (qc hs)) (gw.up (qc hs)) (fun v' H5 hn hit=>?_);have hs:=qL hs hn)
  exact h _ _ (qc hs) hit
  )
end Go.Af.Tryz
