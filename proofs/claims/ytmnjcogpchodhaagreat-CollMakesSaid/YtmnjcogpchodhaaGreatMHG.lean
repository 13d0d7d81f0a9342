/- A part of the proof. -/
import Derived.Test.YtmnjcogpchodhaaGreatMHD
import Derived.Test.YtmnjcogpchodhaaGreatMCA
set_option linter.all false
set_option maxHeartbeats 4000000
set_option maxRecDepth 100000
namespace Go.Af.Tryz
open Go Go.Proofs Tryz
attribute [local irreducible] awp qj qI qK qE qm isCells ql qi qB qx qh roundEnd
variable {H:List Blk}

def flF (p:Int):Nat:=if p<2 then 0 else if p<4 then 1 else if p<8 then 2 else if p<16 then 3 else if p<32 then 4 else if p<64 then 5 else 6
theorem xx0 (p:Int):flF p<=6:=by unfold flF;(repeat' split) <;> omega
theorem uX0 {p:Int} {i:Nat} (hp:1<=p/\p<=64) (hi:i<=6):(2:Int)*2 ^ i<=p↔i<flF p:=by
 unfold flF;obtain rfl | rfl | rfl | rfl | rfl | rfl | rfl:i=0\/i=1\/i=2\/i=3\/i=4\/i=5\/i=6:=by omega
 all_goals (simp only[show (2:Int) ^ 0=1 from rfl,show (2:Int) ^ 1=2 from rfl,show (2:Int) ^ 2=4 from rfl,show (2:Int) ^ 3=8 from rfl,show (2:Int) ^ 4=16 from rfl,show (2:Int) ^ 5=32 from rfl,show (2:Int) ^ 6=64 from rfl];(repeat' split) <;> omega)
def cpF (t:Tk):Int:=(2:Int) ^ flF t.pr
def exF (t:Tk):Int:=t.pr-cpF t
theorem qp0 {p:Int} (hp:1<=p/\p<=64):1<=(2:Int) ^ flF p/\(2:Int) ^ flF p<=p/\p<2*(2:Int) ^ flF p/\(2:Int) ^ flF p<=64:=by
 have h6:=xx0 p;have a:=zL h6;have n : ¬ (2:Int)*2 ^ flF p<=p:=fun h=>Nat.lt_irrefl _ ((uX0 hp h6).1 h)
 refine⟨a.1, ?_,by omega,a.2⟩
 cases hf:flF p with
 | zero=>simp;omega
 | succ n =>
   have:=(uX0 hp (show n<=6 by omega)).2 (by omega);rw[Int.pow_succ];omega
def mbF (e i:Int):Int:=if i<e then 2*i else i+e
theorem c214 {eb:Nat} {w:Bool} {e i:Int} {R:Value->List Blk->Prop} (hE:bget H eb=some (.cells w 1 [.int .i64 e])) (hi:0<=i/\i<=64) (he:0<=e/\e<=64) (h : ∀ H',HS H none' [] H' -> R (.int .i64 (mbF e i)) H'):qj prog 214 [.int .i64 i,pM eb] H R:=by
 refine avN call214 func214 ntmps214 ?_;have hs:HS H none' [(false,eb, .cells w 1 [.int .i64 e])] H:=adH (HS.start H none') hE;have h:=h H (HS.start H none');unfold mbF at h
 repeat' first|refine sX hs (fun _ hs=>?_)|refine zTw ?_|intro _ _ hs|intro K0 hK0|intro hc|refine dI ?_ ?_|(refine hK0 _ _ ?_;clear hK0)
 all_goals (
  (repeat (first | rw[if_pos (by omega)] at h | rw[if_neg (by omega)] at h))
  exact h)
def diM (t:Tk) (i:Int):Msg:=smM t (2*i+1) (2*i) 2
def doM (t:Tk) (i:Int):Msg:=smM t (2*i) (2*i+1) 0
def dbI (t:Tk):List Msg:=(lpF 64 0 1 (exF t)).map (diM t)
def dbO (t:Tk):List Msg:=(lpF 64 0 1 (exF t)).map (doM t)
def dbM (t:Tk) (h i:Int):Msg:=smM t (mbF (exF t) i) (mbF (exF t) (xorF i h)) (sidF i (xorF i h))
def dbR (t:Tk) (h:Int):List Msg:=(lpF 64 0 1 (cpF t)).map (dbM t h)
def dbX (t:Tk) (m:List Msg):List (List (List Msg)):=if 0<exF t then [[m]] else []
def dbQ (t:Tk) (i:Nat):List (List (List Msg)):=dbX t (dbI t)++(List.range i).map (fun j:Nat=>[dbR t ((2:Int) ^ j)])
def dblF (t:Tk):List (List Msg):=(dbQ t (flF t.pr)++dbX t (dbO t)).flatten
structure DbS where
 H:List Blk
 k1:Nat
 E1:List Mg
 k2:Nat
 E2:List Mg
 M:List (Nat × List Int)
 v:Int
 n:Nat
structure DbOk (H0:List Blk) (L:List (Bool × Nat × Blk)) (t:Tk) (z:DbS):Prop where
 hs:HS H0 none' ((true,z.k1,mgB z.E1)::(true,z.k2,mgB z.E2)::(L++rwM z.M)) z.H
 i1:MgIn z.E1 z.M
 i2:MgIn z.E2 z.M
 e1:z.E1.map (·.1)++(lpF z.n z.v 1 (exF t)).map (diM t)=dbI t
 e2:z.E2.map (·.1)++(lpF z.n z.v 1 (exF t)).map (doM t)=dbO t
 fuel:exF t-z.v<=z.n
 lo:0<=z.v
structure Its (D:Nat->Prop) (H:List Blk) (its:List Value) (rss:List (List (List Msg))):Prop where
 len:its.length=rss.length
 it : ∀ i (h:i<its.length) (h2:i<rss.length),ItV D H its[i] rss[i]
theorem Its.keep {D:Nat->Prop} {H H' : List Blk} {its:List Value} {rss:List (List (List Msg))} (h:Its D H its rss) (hn:HS H none' [] H'):Its D H' its rss:=⟨h.len,fun i a b=>(h.it i a b).keep hn⟩
theorem Its.nil (D:Nat->Prop) (H:List Blk):Its D H [] []:=⟨rfl,fun i h=>by simp at h⟩
theorem Its.snoc {D:Nat->Prop} {its:List Value} {rss:List (List (List Msg))} (h:Its D H its rss) {v:Value} {rs:List (List Msg)} (hv:ItV D H v rs):Its D H (its ++ [v]) (rss ++ [rs]):=by
 refine⟨by simp[h.len],fun i a b=>?_⟩;have hl:=h.len;by_cases hi:i<its.length
 ·rw[List.getElem_append_left hi,List.getElem_append_left (by omega)]
  exact h.it i hi (by omega)
 ·have hie:i=its.length:=by simp at a;omega
  subst hie;rw[List.getElem_append_right (by omega),List.getElem_append_right (by omega)];simp[hl];exact hv
def MsD (D:Nat->Prop) (H:List Blk) (k:Nat) (ms:List Msg):Prop :=
 ∃ E w,bget H k=some (.cells w 5 (mgsC E))/\D k/\E.map (·.1)=ms/\∀ e∈E,(D e.2.1/\∃ w,bget H e.2.1=some (.cells w 1 (ints e.1.sr)))/\(D e.2.2/\∃ w,bget H e.2.2=some (.cells w 1 (ints e.1.ds)))
theorem MsN.toD {N0 k:Nat} {D:Nat->Prop} {H H' : List Blk} {ms:List Msg} (h:MsN N0 H k ms) (hs:HS H none' [] H') (hd : ∀ j,N0<=j->j<H.length->D j):MsD D H' k ms:=by
 obtain ⟨E,w,h1,h2,h3,h4⟩:=h;refine⟨E,w,vz hs h1,hd _ h2 (qJ h1),h3,fun e he=>?_⟩;obtain ⟨⟨a1,w1,a2⟩,b1,w2,b2⟩:=h4 e he;exact⟨⟨hd _ a1 (qJ a2),w1,vz hs a2⟩,hd _ b1 (qJ b2),w2,vz hs b2⟩
theorem MsD.own {D:Nat->Prop} {k:Nat} {H1 H:List Blk} {o:Nat->Prop} {ms:List Msg} (h:MsD D H1 k ms) (hk:Kp D H1 o H):MsO o H k ms:=by
 obtain ⟨E,w,h1,h2,h3,h4⟩:=h;have k1:=zh hk h2 h1;refine⟨E,w,k1.1,k1.2,h3,fun e he=>?_⟩;obtain ⟨⟨a1,w1,a2⟩,b1,w2,b2⟩:=h4 e he;have c1:=zh hk a1 a2;have c2:=zh hk b1 b2;exact⟨⟨c1.2,w1,c1.1⟩,c2.2,w2,c2.1⟩
theorem MsD.hs {D:Nat->Prop} {k:Nat} {H H' : List Blk} {ms:List Msg} (h:MsD D H k ms) (hs:HS H none' [] H'):MsD D H' k ms:=by
 obtain ⟨E,w,h1,h2,h3,h4⟩:=h;refine⟨E,w,vz hs h1,h2,h3,fun e he=>?_⟩;obtain ⟨⟨a1,w1,a2⟩,b1,w2,b2⟩:=h4 e he;exact⟨⟨a1,w1,vz hs a2⟩,b1,w2,vz hs b2⟩
theorem c215g {D:Nat->Prop} {k:Nat} {ms:List Msg} {R:Value->List Blk->Prop} (hm:MsD D H k ms) (hD : ∀ j,H.length<=j->D j) (h : ∀ H' v,HS H none' [] H' -> ItV D H' v [ms]->R v H'):qj prog 215 [sv k ms.length] H R:=by
 refine avN call215 func215 ntmps215 ?_;refine qo (HS.start H none') (fun H3 xb e1 l1 hs=>?_);have hx3:=hs.get 0 rfl;have hnn:=qc hs;have hxb:H.length<=xb:=((hs.g (i:=0) rfl).2 rfl).elim (fun h=>h.elim) id;refine qg (fun _ hKs=>hKs _ _ ?_);clear hKs;clear e1 l1
 repeat' first|refine sX hs (fun _ hs=>?_)|refine zRw ?_|intro _ _ hs|intro K0 hK0|(refine hK0 _ _ ?_;clear hK0)
 refine h _ _ hnn ⟨_,[pM xb],rfl,fun {H4 l o I R'} hl4 hD2 hR h0 hr=>?_⟩;exact e296 (zh hD2 (hD _ hxb) hx3) ((hm.hs hnn).own hD2) hR h0 hr
structure DqS where
 H:List Blk
 kl:Nat
 its:List Value
 i:Nat
 X:Nat->Prop
theorem ItV.weaken {D1 D2:Nat->Prop} {H1 H2:List Blk} {v:Value} {rs:List (List Msg)} (h:ItV D1 H1 v rs) (hl:H1.length<=H2.length) (hd : ∀ j,D1 j->j<H1.length->D2 j/\bget H2 j=bget H1 j):ItV D2 H2 v rs:=by
 obtain ⟨g,cs,hv,hgo⟩:=h
 exact⟨g,cs,hv,fun hl2 hD hR h0 hr=>hgo (by omega) (fun j hj hlt=>by
  have a:=hd j hj hlt;have b:=hD j a.1 (by omega)
  exact⟨b.1,b.2.trans a.2⟩) hR h0 hr⟩
theorem Its.weaken {D1 D2:Nat->Prop} {H1 H2:List Blk} {its:List Value} {rss:List (List (List Msg))} (h:Its D1 H1 its rss) (hl:H1.length<=H2.length) (hd : ∀ j,D1 j->j<H1.length->D2 j/\bget H2 j=bget H1 j):Its D2 H2 its rss:=⟨h.len,fun i a b=>(h.it i a b).weaken hl hd⟩
def DX (N0 b c:Nat) (X:Nat->Prop) (j:Nat):Prop:=DN N0 b c j/\¬ X j
theorem xg0 : ∀ f,f<7->∀ j,j<f->(2:Int) ^ j<(2:Int) ^ f:=by decide
structure DqOk (N0 b c:Nat) (H0:List Blk) (L:List (Bool × Nat × Blk)) (t:Tk) (z:DqS):Prop where
 hs:HS H0 none' ((true,z.kl, .cells true 1 z.its)::L) z.H
 it:Its (DX N0 b c z.X) z.H z.its (dbQ t z.i)
 x : ∀ j,z.X j->H0.length<=j/\j<z.H.length
 xk:z.X z.kl
 le:z.i<=flF t.pr
theorem wV0 (t:Tk) (i:Nat):(dbQ t i).length<=1+i:=by
 unfold dbQ dbX;rw[List.length_append,List.length_map,List.length_range];split <;> simp
theorem qo0 (t:Tk) (i:Nat):dbQ t (i+1)=dbQ t i ++ [[dbR t ((2:Int) ^ i)]]:=by
 unfold dbQ;rw[List.range_succ,List.map_append,<- List.append_assoc];rfl
theorem QL0 {N0:Nat} {HA:List Blk} {t:Tk} (kt:TkOk t) (hN:N0<=HA.length):AlgV N0 HA (fnV 117) t (dblF t):=by
 have hpr:=kt.pr;have hpa:=kt.pa;have hcp:=qp0 hpr;have hce:cpF t=(2:Int) ^ flF t.pr:=rfl;have hex:exF t=t.pr-cpF t:=rfl;have hfl:=xx0 t.pr;rw[<- hce] at hcp;refine⟨_,[],rfl,fun {H2 b c R} hl hsame gr gw h=>?_⟩;refine avN call117 func117 ntmps117 ?_;refine qo (HS.start H2 none') (fun H3 xb e1 l1 hs=>?_);have hxb:H2.length<=xb:=((hs.g (i:=0) rfl).2 rfl).elim (fun h=>h.elim) id;refine qg (fun _ hKs=>hKs _ _ ?_);clear hKs;clear e1 l1
 repeat' first|refine sX hs (fun _ hs=>?_)|refine zRw ?_|intro _ _ hs|intro K0 hK0|(refine hK0 _ _ ?_;clear hK0)
 refine qf (α := Nat) tok (fun i=>i<=flF t.pr) (fun i=>[(1,pM xb),(3, .int .i64 ((2:Int) ^ i))]) (fun _=>H3) (fun i=>flF t.pr-i)
  0 (Nat.zero_le _) (Or.inl ⟨⟨rfl,rfl,trivial⟩,rfl⟩) ?_
 intro i hi;have hi6:i<=6:=by omega
 have hpw:=zL hi6;have hlt2:=uX0 hpr hi6;have hsu:(2:Int) ^ (i+1)=2 ^ i*2:=Int.pow_succ 2 i;have hcx:i=flF t.pr->(2:Int) ^ i=cpF t:=fun e=>by rw[e];rfl
 generalize hhh:(2:Int) ^ i=hh at hpw hlt2 hsu hcx ⊢;by_cases hpl:2*hh<=t.pr
 ·have hlg2:i<flF t.pr:=hlt2.1 hpl
  repeat' first|refine sX hs (fun _ hs=>?_)|refine zTw ?_|intro _ _ hs|intro K0 hK0|intro hc|refine dI ?_ ?_|(refine hK0 _ _ ?_;clear hK0)
  exact⟨i+1,hlg2,by omega,Or.inl ⟨⟨rfl,by rw[hsu];rfl,trivial⟩,rfl⟩⟩
 ·have hie2:i=flF t.pr:=by
   have : ¬ i<flF t.pr:=fun h=>hpl (hlt2.2 h)
   omega
  have hcx:=hcx hie2;subst hcx;clear hlt2 hhh hsu hpl
  repeat' first|refine sX hs (fun _ hs=>?_)|refine zTw ?_|intro _ _ hs|intro K0 hK0|intro hc|refine dI ?_ ?_|(refine hK0 _ _ ?_;clear hK0)
  rw[<- hex];rename_i eb _ _ H4 _ _;have heb:H2.length<=eb:=((hs.g (i:=0) rfl).2 rfl).elim (fun h=>h.elim) id;have htl1:(dbI t).length<=64:=by unfold dbI;rw[List.length_map];exact xY _ _ _ _
  have htl2:(dbO t).length<=64:=by unfold dbO;rw[List.length_map];exact xY _ _ _ _
  refine vC (α := DbS) tok (DbOk H2 [(true,xb, .cells true 1 (tkC t b c)),(true,eb, .cells true 1 [.int .i64 (exF t)])] t)
   (fun z=>[(1,pM xb),(3, .int .i64 (cpF t)),(4,pM eb),(5,cloV 214 [pM eb]),(6,sv z.k1 z.E1.length),(7,sv z.k2 z.E2.length),(25, .int .i64 (exF t)),(26, .int .i64 z.v)]) (fun z=>z.H) (fun z=>z.n)
   ⟨H4 ++ [mgB []] ++ [mgB []],H4.length,[],(H4 ++ [mgB []]).length,[],[],0,64⟩ ⟨pkH ((hs.virt _).virt _) [1,0,3,2],MgIn.nil _,MgIn.nil _,rfl,rfl,by dsimp only;omega,Int.le_refl _⟩ ⟨⟨_,rfl, .rfl⟩,⟨_,rfl, .rfl⟩,⟨_,rfl, .rfl⟩,⟨_,rfl, .rfl⟩,⟨_,rfl, .nil _⟩,⟨_,rfl, .nil _⟩,⟨_,rfl, .rfl⟩,⟨_,rfl, .rfl⟩,trivial⟩ ((WkH.rfl.app _).app _) ?_
  clear hs;rintro ⟨H5,k1,E1,k2,E2,M,v,n⟩ ⟨hs,hi1,hi2,he1,he2,hfu,hlo⟩;dsimp only[List.cons_append,List.nil_append] at hs hi1 hi2 he1 he2 hfu hlo ⊢;by_cases hv:v<exF t
  ·obtain ⟨m,hm,hll,hf2⟩:=lp_t (d:=1) hv hfu (by decide)
   rw[hll,List.map_cons] at he1 he2;have hlen1:E1.length<64:=by have:=congrArg List.length he1;simp at this;omega
   have hlen2:E2.length<64:=by have:=congrArg List.length he2;simp at this;omega
   repeat' first|refine sX hs (fun _ hs=>?_)|refine zTw ?_|intro _ _ hs|intro K0 hK0|intro hc|refine dI ?_ ?_|(refine hK0 _ _ ?_;clear hK0)
   refine c202 hpa (fun H6 q1 hn=>?_);have hs:=hs.call hn rfl;clear hn
   repeat' first|refine sX hs (fun _ hs=>?_)|refine zRw ?_|intro _ _ hs|intro K0 hK0|(refine hK0 _ _ ?_;clear hK0)
   refine c200 rfl (kNo hs (fun H7 hs=>?_))
   repeat' first|refine sX hs (fun _ hs=>?_)|refine zRw ?_|intro _ _ hs|intro K0 hK0|(refine hK0 _ _ ?_;clear hK0)
   refine vZ hs 2 (us:=mgC (diM t v) q1 q1) rfl (by decide) (hs.get 0 rfl) rfl rfl (by rw[wP]) (by dsimp only;omega) (fun H8 k1' _ _ hs=>?_);rw[<- wY] at hs
   repeat' first|refine sX hs (fun _ hs=>?_)|refine zRw ?_|intro _ _ hs|intro K0 hK0|(refine hK0 _ _ ?_;clear hK0)
   refine c202 hpa (fun H9 q2 hn=>?_);have hs:=hs.call hn rfl;clear hn
   repeat' first|refine sX hs (fun _ hs=>?_)|refine zRw ?_|intro _ _ hs|intro K0 hK0|(refine hK0 _ _ ?_;clear hK0)
   refine c200 rfl (kNo hs (fun H10 hs=>?_))
   repeat' first|refine sX hs (fun _ hs=>?_)|refine zRw ?_|intro _ _ hs|intro K0 hK0|(refine hK0 _ _ ?_;clear hK0)
   refine vZ hs 5 (us:=mgC (doM t v) q2 q2) rfl (by decide) (hs.get 0 rfl) rfl rfl (by rw[wP]) (by dsimp only;omega) (fun H11 k2' _ _ hs=>?_);rw[<- wY] at hs
   repeat' first|refine sX hs (fun _ hs=>?_)|refine zRw ?_|intro _ _ hs|intro K0 hK0|(refine hK0 _ _ ?_;clear hK0)
   refine⟨⟨H11,k1',E1 ++ [(diM t v,q1,q1)],k2',E2 ++ [(doM t v,q2,q2)],(q1,spnF t 0 1)::(q2,spnF t 0 1)::M,v+1,m⟩,⟨?_, ?_, ?_, ?_, ?_,hf2,by dsimp only;omega⟩,by dsimp only;omega,Or.inl ⟨⟨rfl,rfl,rfl,rfl,by dsimp only;rw[List.length_append];rfl,by dsimp only;rw[List.length_append];rfl,rfl,rfl,trivial⟩,rfl⟩⟩
   ·exact hs.pickR (A := [_,_,_,_,_,_,_,_]) [4,5,6,7,3,1] (by decide) (A' := [_,_,_,_,_,_]) rfl
   ·exact (hi1.mono (fun p hp=>List.mem_cons_of_mem _ (List.mem_cons_of_mem _ hp))).snoc List.mem_cons_self List.mem_cons_self
   ·exact (hi2.mono (fun p hp=>List.mem_cons_of_mem _ (List.mem_cons_of_mem _ hp))).snoc (List.mem_cons_of_mem _ List.mem_cons_self) (List.mem_cons_of_mem _ List.mem_cons_self)
   ·rw[<- he1];simp
   ·rw[<- he2];simp
  ·rw[lp_f (by omega),List.map_nil,List.append_nil] at he1 he2
   have hn1:HS H2 none' ((true,k1,mgB E1)::rwM M) H5:=hs.pickR (A := [_,_,_,_]) [0] (by decide) (A' := [_]) rfl;have hn2:HS H2 none' ((true,k2,mgB E2)::rwM M) H5:=hs.pickR (A := [_,_,_,_]) [1] (by decide) (A' := [_]) rfl;have hM1:=MsN.of (N0:=N0) (by omega) hn1 hi1 he1;have hM2:=MsN.of (N0:=N0) (by omega) hn2 hi2 he2;have hl1:E1.length=(dbI t).length:=by rw[<- he1,List.length_map]
   have hl2:E2.length=(dbO t).length:=by rw[<- he2,List.length_map]
   have hsF:HS H2 none' [(true,xb, .cells true 1 (tkC t b c)),(true,eb, .cells true 1 [.int .i64 (exF t)])] H5:=HS.left (M:=rwM M) (hs.pickR (A := [_,_,_,_]) [2,3] (by decide) (A' := [_,_]) rfl);have hs:HS H5 none' [(false,xb, .cells true 1 (tkC t b c)),(false,eb, .cells true 1 [.int .i64 (exF t)])] H5:=hsF.re _;have hle5:=hsF.le;clear hn1 hn2 hi1 hi2;by_cases hex0:0<exF t
   ·skip
    repeat' first|refine sX hs (fun _ hs=>?_)|refine zTw ?_|intro _ _ hs|intro K0 hK0|intro hc|refine dI ?_ ?_|(refine hK0 _ _ ?_;clear hK0)
    rw[hl1];refine c215 (N0:=N0) (b:=b) (c:=c) (by omega) hM1 (fun H6 v1 hn hit=>?_);have hs:=qL hs hn;have hle6:=hn.le;clear hn;obtain ⟨g1,cs1,rfl⟩:=hit.form;have hs0:=hs;clear hs;have hs:=HS.start H6 none'
    repeat' first|refine sX hs (fun _ hs=>?_)|refine zRw ?_|intro _ _ hs|intro K0 hK0|(refine hK0 _ _ ?_;clear hK0)
    refine ve0 hs (by decide) (hs.get 0 rfl) rfl rfl (by decide) (fun H8 kl _ _ hs=>?_);have hs1:=pkH hs [0] (L' := [(true,kl, .cells true 1 [cloV g1 cs1])]);have hkl:=((hs1.g (i:=0) rfl).2 rfl).elim (fun h=>h.elim) id
    have hI0:Its (DX N0 b c (fun q=>q=kl)) H8 [cloV g1 cs1] (dbQ t 0):=by
     unfold dbQ dbX;rw[if_pos hex0];exact (Its.nil _ _).snoc (hit.weaken hs1.le (fun q hq hl=>⟨⟨hq,fun e=>by omega⟩,hs1.u.2 q hl id⟩))
    have hkl2:=qJ (hs1.get 0 rfl);have hs:=hs0.call hs1 rfl;clear hs0 hs1 hit
    repeat' first|refine sX hs (fun _ hs=>?_)|refine zRw ?_|intro _ _ hs|intro K0 hK0|(refine hK0 _ _ ?_;clear hK0)
    refine qf (α := DqS) tok (DqOk N0 b c H5 [(false,xb, .cells true 1 (tkC t b c)),(false,eb, .cells true 1 [.int .i64 (exF t)])] t)
     (fun z=>[(1,pM xb),(3, .int .i64 (cpF t)),(4,pM eb),(5,cloV 214 [pM eb]),(7,sv k2 (dbO t).length),(9,sv z.kl z.its.length),(10, .int .i64 ((2:Int) ^ z.i))]) (fun z=>z.H) (fun z=>flF t.pr-z.i)
     ⟨H8,kl,[cloV g1 cs1],0,fun q=>q=kl⟩ ⟨hs,hI0,fun q hq=>by subst hq;exact⟨by omega,hkl2⟩,rfl,Nat.zero_le _⟩ (Or.inl ⟨⟨rfl,rfl,rfl,rfl,by rw[<- hl2];rfl,rfl,rfl,trivial⟩,rfl⟩) ?_
    clear hs hI0;rintro ⟨H3,kl,its,j,X⟩ ⟨hs,hit,hX,hXk,hj⟩;dsimp only at hs hit hX hXk hj ⊢;have hlen:=hit.len;have hql:=wV0 t j;have hj6:j<=6:=by omega
    have hpj:=zL hj6;have hjs:(2:Int) ^ (j+1)=2 ^ j*2:=Int.pow_succ 2 j
    have hjc:(2:Int) ^ j<cpF t↔j<flF t.pr:=by
     rw[hce]
     exact⟨fun h=>Classical.byContradiction fun hn=>by
      have e:j=flF t.pr:=by omega
      rw[e] at h
      omega,fun h=>xg0 _ (by omega) _ h⟩
    have hqs:=qo0 t j;generalize hhj:(2:Int) ^ j=hh at hpj hjs hjc hqs ⊢;by_cases hlt:hh<cpF t
    ·have hjl:j<flF t.pr:=hjc.1 hlt
     have htl:(dbR t hh).length<=64:=by unfold dbR;rw[List.length_map];exact xY _ _ _ _
     have g0:=hs.get 0 rfl;have g1:=hs.get 1 rfl;have g2:=hs.get 2 rfl;have q01:=neH hs 0 1;have q02:=neH hs 0 2;have q12:=neH hs 1 2;have hs0:=hs;clear hs
     have hs:HS H3 none' [(false,xb, .cells true 1 (tkC t b c)),(false,eb, .cells true 1 [.int .i64 (exF t)])] H3:=(adH (HS.start H3 none') g2).add g1 (fun i p hi=>by
      match i,hi with
      | 0,hi=>cases hi;exact q12.symm) (fun e=>by cases e)
     have hleb:=hs0.le
     repeat' first|refine sX hs (fun _ hs=>?_)|refine zTw ?_|intro _ _ hs|intro K0 hK0|intro hc|refine dI ?_ ?_|(refine hK0 _ _ ?_;clear hK0)
     refine vC (α := LS) tok (LOk H3 [(false,xb, .cells true 1 (tkC t b c)),(false,eb, .cells true 1 [.int .i64 (exF t)])] 1 (cpF t) (dbM t hh) (dbR t hh) 0)
      (fun z=>[(1,pM xb),(3, .int .i64 (cpF t)),(4,pM eb),(5,cloV 214 [pM eb]),(7,sv k2 (dbO t).length),(9,sv kl its.length),(10, .int .i64 hh),(11,sv z.k z.E.length),(64, .int .i64 (cpF t)),(65, .int .i64 z.v)]) (fun z=>z.H) (fun z=>z.n)
      ⟨H3 ++ [mgB []],H3.length,[],[],0,64⟩ ⟨hs.virt _,MgIn.nil _,rfl,by dsimp only;omega,Int.le_refl _,Nat.zero_le _⟩ ⟨⟨_,rfl, .rfl⟩,⟨_,rfl, .rfl⟩,⟨_,rfl, .rfl⟩,⟨_,rfl, .rfl⟩,⟨_,rfl, .rfl⟩,⟨_,rfl, .rfl⟩,⟨_,rfl, .rfl⟩,⟨_,rfl, .nil _⟩,⟨_,rfl, .rfl⟩,⟨_,rfl, .rfl⟩,trivial⟩ (WkH.rfl.app _) ?_
     clear hs;rintro ⟨H4,k,E,M,v,n⟩ hz;have hs:=hz.hs;have hlo:=hz.lo;dsimp only[List.cons_append,List.nil_append] at hs hlo ⊢;by_cases hv:v<cpF t
     ·obtain ⟨m,hm,hlt2,hstep⟩:=hz.step hv (by decide)
      dsimp only[List.cons_append,List.nil_append] at hm hlt2 hstep;have hx:=xx (a:=v) (b:=hh) (by omega) (by omega);have hdm:dbM t hh v=smM t (mbF (exF t) v) (mbF (exF t) (xorF v hh)) (sidF v (xorF v hh)):=rfl;obtain ⟨q,hse⟩ : ∃ q,xorF v hh=q:=⟨_,rfl⟩;rw[hse] at hx hdm;unfold xorF at hse;rw[hdm] at hstep
      repeat' first|refine sX hs (fun _ hs=>?_)|refine zTw ?_|intro _ _ hs|intro K0 hK0|intro hc|refine dI ?_ ?_|(refine hK0 _ _ ?_;clear hK0)
      refine qp tok mx [0,0,0,6,0,0,0,96,254,0,1022,0,0,0,12288,32766,65534,131070,262143,524287] [false,false,false,false,false,false,false,false,false,false,false,false,false,false,false,false,false,false,false,false] (.first 0 (.first 1 (.first 2 (.first 4 (.first 5 (.first 6 (.first 7 (.first 11 (.first 12 (.first 13 (.first 14 (.alt 3 (.alt 8 (.first 9 (.first 10 (.first 15 (.first 16 (.first 17 (.first 18 (.first 19 .done))))))) (.alt 9 (.first 8 (.first 10 (.first 15 (.first 16 (.first 17 (.first 18 (.first 19 .done))))))) .no)) (.alt 9 (.first 3 (.first 8 (.first 10 (.first 15 (.first 16 (.first 17 (.first 18 (.first 19 .done)))))))) .no))))))))))))) (by kernel_rfl) ?_;refine qw (fun K0 hK0=>?_)
      repeat' first|refine sX hs (fun _ hs=>?_)|refine zRw ?_|intro _ _ hs|intro K0 hK0|(refine hK0 _ _ ?_;clear hK0)
      iterate 3 (
       all_goals try (first | refine And.intro ?_ trivial | refine And.intro ?_ (And.intro ?_ trivial) | refine And.intro ?_ (And.intro ?_ (And.intro ?_ trivial)))
       all_goals try (
        repeat' first|refine sX hs (fun _ hs=>?_)|refine zRw ?_|intro _ _ hs|intro K0 hK0|(refine hK0 _ _ ?_;clear hK0)
        )
       )
      all_goals (
       try rw[hse]
       refine c214 (hs.get 2 rfl) (by omega) (by omega) (kNo hs (fun H5 hs=>?_))
       repeat' first|refine sX hs (fun _ hs=>?_)|refine zRw ?_|intro _ _ hs|intro K0 hK0|(refine hK0 _ _ ?_;clear hK0)
       try rw[hse]
       iterate 2 (
        all_goals try (first | refine And.intro ?_ trivial | refine And.intro ?_ (And.intro ?_ trivial) | refine And.intro ?_ (And.intro ?_ (And.intro ?_ trivial)))
        all_goals try (
         repeat' first|refine sX hs (fun _ hs=>?_)|refine zRw ?_|intro _ _ hs|intro K0 hK0|(refine hK0 _ _ ?_;clear hK0)
         )
        )
       all_goals (
        try rw[hse]
        refine c214 (hs.get 2 rfl) (by omega) (by omega) (kNo hs (fun H6 hs=>?_))
        repeat' first|refine sX hs (fun _ hs=>?_)|refine zRw ?_|intro _ _ hs|intro K0 hK0|(refine hK0 _ _ ?_;clear hK0)
        refine c202 hpa (fun H7 q1 hn=>?_);have hs:=hs.call hn rfl;clear hn
        repeat' first|refine sX hs (fun _ hs=>?_)|refine zRw ?_|intro _ _ hs|intro K0 hK0|(refine hK0 _ _ ?_;clear hK0)
        try rw[hse]
        refine c216 ?_
        repeat' first|refine sX hs (fun _ hs=>?_)|refine zRw ?_|intro _ _ hs|intro K0 hK0|(refine hK0 _ _ ?_;clear hK0)
        refine c200 rfl (kNo hs (fun H8 hs=>?_))
        repeat' first|refine sX hs (fun _ hs=>?_)|refine zRw ?_|intro _ _ hs|intro K0 hK0|(refine hK0 _ _ ?_;clear hK0)
        refine vZ hs 2 (us:=mgC (smM t (mbF (exF t) v) (mbF (exF t) q) (sidF v q)) q1 q1) rfl (by decide) (hs.get 0 rfl) rfl rfl (by rw[wP]) (by dsimp only;omega) (fun H9 k' _ _ hs=>?_);rw[<- wY] at hs
        repeat' first|refine sX hs (fun _ hs=>?_)|refine zRw ?_|intro _ _ hs|intro K0 hK0|(refine hK0 _ _ ?_;clear hK0)
        exact⟨_,hstep H9 k' q1 q1 ((q1,spnF t 0 1)::M) (hs.pickR (A := [_,_,_,_,_]) [2,3,4,1] (by decide) (A' := [_,_,_,_]) rfl) (fun p hp=>List.mem_cons_of_mem _ hp) List.mem_cons_self List.mem_cons_self,by dsimp only;omega,Or.inl ⟨⟨rfl,rfl,rfl,rfl,rfl,rfl,rfl,by dsimp only;rw[List.length_append];rfl,rfl,rfl,trivial⟩,rfl⟩⟩
        )
       )
     ·have he:=hz.stop (by dsimp only;omega)
      dsimp only at he;have hn:HS H3 none' ((true,k,mgB E)::rwM M) H4:=hs.pickR (A := [_,_,_]) [0] (by decide) (A' := [_]) rfl;have hM:=MsN.of (N0:=H3.length) (Nat.le_refl _) hn hz.inn he;have hel:E.length=(dbR t hh).length:=by rw[<- he,List.length_map]
      have hle4:=hn.le;have hit:=hit.keep (qc hn);have hs0:=qL hs0 (qc hn);clear hn hz
      repeat' first|refine sX hs (fun _ hs=>?_)|refine zTw ?_|intro _ _ hs|intro K0 hK0|intro hc|refine dI ?_ ?_|(refine hK0 _ _ ?_;clear hK0)
      rw[hel];refine c215 (N0:=H3.length) (b:=b) (c:=c) (by omega) hM (fun H6 v1 hn hit1=>?_);have hit:=hit.keep hn;have hs0:=qL hs0 hn;have hle5:=hn.le;clear hn hM hs;obtain ⟨ga,csa,rfl⟩:=hit1.form;have hs:=HS.start H6 none'
      repeat' first|refine sX hs (fun _ hs=>?_)|refine zRw ?_|intro _ _ hs|intro K0 hK0|(refine hK0 _ _ ?_;clear hK0)
      rename_i ja H7;have hsn:=qc hs;have hj0:=hs.get 0 rfl;have hle7:=hs.le;have hs7:HS H7 (fun x=>x=kl) [(true,kl, .cells true 1 its)] H7:=(HS.start H7 _).add (vz hsn (hs0.get 0 rfl)) (fun i p hi=>by simp at hi) (fun _=>.inl rfl);have hs:=hs0.call hs rfl;have hjk:ja≠kl:=neH hs 0 1;refine vZ hs7 0 (us := [cloV ga csa]) rfl (by decide) hj0 rfl rfl (by simp) (by dsimp only;omega) (fun H8 kl' ek lk hs8=>?_);have hu8:=hs8.u;have same8 : ∀ q,q<H7.length->q≠kl->bget H8 q=bget H7 q:=fun q h1 h2=>hu8.2 q h1 h2
      have hsame : ∀ q,q<H6.length->q≠kl->bget H8 q=bget H6 q:=fun q h1 h2=>(same8 q (by omega) h2).trans (hsn.u.2 q h1 id)
      have hkl5:=(hX kl hXk).1;have hle8:=hs8.le;have gx:=hs0.get 1 rfl;have ge:=hs0.get 2 rfl;have hxl:=qJ gx;have hel2:=qJ ge
      have hnew:HS H5 none' [(true,kl', .cells true 1 (its ++ [cloV ga csa])),(false,xb, .cells true 1 (tkC t b c)),(false,eb, .cells true 1 [.int .i64 (exF t)])] H8:=by
       have hU:Upd none' H5 H8:=⟨by have:=hs0.le;omega,fun q hq _=>(hsame q (by have:=hs0.le;omega) (by omega)).trans (hs0.u.2 q hq id)⟩;have base:HS H5 none' [] H8:=⟨fun hi=>by simp at hi,fun hi=>by simp at hi,hU⟩
       exact ((base.add (c:=false) ((hsame eb hel2 q02.symm).trans ge) (fun i p hi=>by simp at hi) (fun e=>by cases e)).add (c:=false) ((hsame xb hxl q01.symm).trans gx) (fun i p hi=>by
        match i,hi with
        | 0,hi=>cases hi;exact q12.symm) (fun e=>by cases e)).add (c:=true) (hs8.get 0 rfl) (fun i p hi=>by
        match i,hi with
        | 0,hi=>cases hi;show xb≠_;omega
        | 1,hi=>cases hi;show eb≠_;omega) (fun _=>.inr (by have:=hs0.le;omega))
      clear hs;have hs:=HS.start H8 none'
      repeat' first|refine sX hs (fun _ hs=>?_)|refine zRw ?_|intro _ _ hs|intro K0 hK0|(refine hK0 _ _ ?_;clear hK0)
      refine⟨⟨H8,kl',its ++ [cloV ga csa],j+1,fun q=>X q\/q=kl'⟩,⟨hnew, ?_,fun q hq=>?_, .inr rfl,hjl⟩,by dsimp only;omega,Or.inl ⟨⟨rfl,rfl,rfl,rfl,rfl,by dsimp only;rw[List.length_append];rfl,by rw[hjs];rfl,trivial⟩,rfl⟩⟩
      ·dsimp only
       rw[hqs];refine (hit.weaken (by omega) (fun q hq hl=>⟨⟨hq.1,fun hx=>hx.elim hq.2 (fun e=>by omega)⟩,hsame q hl (fun e=>by subst e;exact hq.2 hXk)⟩)).snoc (hit1.weaken (by omega) (fun q hq hl=>?_));have hb1:=qJ gr.s.choose_spec;have hc1:=qJ gw.s.choose_spec;have hX3:=hX kl hXk;rcases hq with hq | rfl | rfl
       ·exact⟨⟨.inl (by omega),fun hx=>hx.elim (fun hx=>by have:=(hX q hx).2;omega) (fun e=>by omega)⟩,hsame q hl (by omega)⟩
       ·exact⟨⟨.inr (.inl rfl),fun hx=>hx.elim (fun hx=>by have:=(hX q hx).1;omega) (fun e=>by omega)⟩,hsame q hl (by omega)⟩
       ·exact⟨⟨.inr (.inr rfl),fun hx=>hx.elim (fun hx=>by have:=(hX q hx).1;omega) (fun e=>by omega)⟩,hsame q hl (by omega)⟩
      ·rcases hq with hq | rfl
       ·have:=hX q hq
        exact⟨this.1,by dsimp only;omega⟩
       ·exact⟨by have:=hs0.le;omega,by dsimp only;omega⟩
    ·have hje:j=flF t.pr:=by
      have : ¬ j<flF t.pr:=fun h=>hlt (hjc.2 h)
      omega
     subst hje;have hle3:=hs.le;have hkl5:=hX kl hXk;have hMD:MsD (fun q=>(N0<=q/\q<H5.length)\/H3.length<=q) H3 k2 (dbO t):=hM2.toD (qc hs) (fun q h1 h2=>.inl ⟨h1,h2⟩)
     repeat' first|refine sX hs (fun _ hs=>?_)|refine zTw ?_|intro _ _ hs|intro K0 hK0|intro hc|refine dI ?_ ?_|(refine hK0 _ _ ?_;clear hK0)
     refine c215g hMD (fun q hq=>.inr hq) (fun H6 v1 hn hit1=>?_);have hit:=hit.keep hn;have hs0:=qL hs hn;have hle5:=hn.le;clear hn;obtain ⟨ga,csa,rfl⟩:=hit1.form;clear hs;have hs:=HS.start H6 none'
     repeat' first|refine sX hs (fun _ hs=>?_)|refine zRw ?_|intro _ _ hs|intro K0 hK0|(refine hK0 _ _ ?_;clear hK0)
     rename_i ja H7;have hsn:=qc hs;have hj0:=hs.get 0 rfl;have hle7:=hs.le;have hs7:HS H7 (fun x=>x=kl) [(true,kl, .cells true 1 its)] H7:=(HS.start H7 _).add (vz hsn (hs0.get 0 rfl)) (fun i p hi=>by simp at hi) (fun _=>.inl rfl);refine vZ hs7 0 (us := [cloV ga csa]) rfl (by decide) hj0 rfl rfl (by simp) (by dsimp only;omega) (fun H8 kl' ek lk hs8=>?_);have hu8:=hs8.u;have hle8:=hs8.le;have hsame : ∀ q,q<H6.length->q≠kl->bget H8 q=bget H6 q:=fun q h1 h2=>(hu8.2 q (by omega) h2).trans (hsn.u.2 q h1 id)
     have hU:Upd none' H5 H8:=⟨by have:=hs0.le;omega,fun q hq _=>(hsame q (by have:=hs0.le;omega) (by omega)).trans (hs0.u.2 q hq id)⟩;have base:HS H5 none' [] H8:=⟨fun hi=>by simp at hi,fun hi=>by simp at hi,hU⟩;have hb1:=qJ gr.s.choose_spec;have hc1:=qJ gw.s.choose_spec
     have hI8:Its (DN N0 b c) H8 (its ++ [cloV ga csa]) (dbQ t (flF t.pr)++dbX t (dbO t)):=by
      unfold dbX;rw[if_pos hex0]
      exact (hit.weaken (by omega) (fun q hq hl=>⟨hq.1,hsame q hl (fun e=>by subst e;exact hq.2 hXk)⟩)).snoc (hit1.weaken (by omega) (fun q hq hl=>by
       rcases hq with hq | hq
       ·exact⟨.inl hq.1,hsame q hl (by omega)⟩
       ·exact⟨.inl (by omega),hsame q hl (by omega)⟩))
     have hk8:=hs8.get 0 rfl;clear hs;have hs:=HS.start H8 none'
     repeat' first|refine sX hs (fun _ hs=>?_)|refine zRw ?_|intro _ _ hs|intro K0 hK0|(refine hK0 _ _ ?_;clear hK0)
     rw[show its.length+1=(its ++ [cloV ga csa]).length by simp];refine c211 (N0:=N0) (b:=b) (c:=c) (k:=kl') (by omega) (by omega) hk8 hI8.len (by simp;omega) hI8.it (fun H10 v9 hn hit=>?_);have hs:=qL hsF (qL base hn);clear hn
     repeat' first|refine sX hs (fun _ hs=>?_)|refine zRw ?_|intro _ _ hs|intro K0 hK0|(refine hK0 _ _ ?_;clear hK0)
     exact h _ _ (qc hs) hit
   ·skip
    repeat' first|refine sX hs (fun _ hs=>?_)|refine zTw ?_|intro _ _ hs|intro K0 hK0|intro hc|refine dI ?_ ?_|(refine hK0 _ _ ?_;clear hK0)
    have hI0:Its (DX N0 b c (fun q=>q=H5.length)) (H5 ++ [.cells true 1 []]) [] (dbQ t 0):=by
     unfold dbQ dbX;rw[if_neg hex0];exact Its.nil _ _
    refine vC (α := DqS) tok (DqOk N0 b c H5 [(false,xb, .cells true 1 (tkC t b c)),(false,eb, .cells true 1 [.int .i64 (exF t)])] t)
     (fun z=>[(1,pM xb),(3, .int .i64 (cpF t)),(4,pM eb),(5,cloV 214 [pM eb]),(7,sv k2 (dbO t).length),(9,sv z.kl z.its.length),(10, .int .i64 ((2:Int) ^ z.i))]) (fun z=>z.H) (fun z=>flF t.pr-z.i)
     ⟨H5 ++ [.cells true 1 []],H5.length,[],0,fun q=>q=H5.length⟩ ⟨hs.virt _,hI0,fun q hq=>by subst hq;exact⟨Nat.le_refl _,by dsimp only;simp⟩,rfl,Nat.zero_le _⟩ ⟨⟨_,rfl, .rfl⟩,⟨_,rfl, .rfl⟩,⟨_,rfl, .rfl⟩,⟨_,rfl, .rfl⟩,⟨_,rfl,by rw[<- hl2];exact .rfl⟩,⟨_,rfl, .nil _⟩,⟨_,rfl, .rfl⟩,trivial⟩ (WkH.rfl.app _) ?_
    clear hs hI0;rintro ⟨H3,kl,its,j,X⟩ ⟨hs,hit,hX,hXk,hj⟩;dsimp only at hs hit hX hXk hj ⊢;have hlen:=hit.len;have hql:=wV0 t j;have hj6:j<=6:=by omega
    have hpj:=zL hj6;have hjs:(2:Int) ^ (j+1)=2 ^ j*2:=Int.pow_succ 2 j
    have hjc:(2:Int) ^ j<cpF t↔j<flF t.pr:=by
     rw[hce]
     exact⟨fun h=>Classical.byContradiction fun hn=>by
      have e:j=flF t.pr:=by omega
      rw[e] at h
      omega,fun h=>xg0 _ (by omega) _ h⟩
    have hqs:=qo0 t j;generalize hhj:(2:Int) ^ j=hh at hpj hjs hjc hqs ⊢;by_cases hlt:hh<cpF t
    ·have hjl:j<flF t.pr:=hjc.1 hlt
     have htl:(dbR t hh).length<=64:=by unfold dbR;rw[List.length_map];exact xY _ _ _ _
     have g0:=hs.get 0 rfl;have g1:=hs.get 1 rfl;have g2:=hs.get 2 rfl;have q01:=neH hs 0 1;have q02:=neH hs 0 2;have q12:=neH hs 1 2;have hs0:=hs;clear hs
     have hs:HS H3 none' [(false,xb, .cells true 1 (tkC t b c)),(false,eb, .cells true 1 [.int .i64 (exF t)])] H3:=(adH (HS.start H3 none') g2).add g1 (fun i p hi=>by
      match i,hi with
      | 0,hi=>cases hi;exact q12.symm) (fun e=>by cases e)
     have hleb:=hs0.le
     repeat' first|refine sX hs (fun _ hs=>?_)|refine zTw ?_|intro _ _ hs|intro K0 hK0|intro hc|refine dI ?_ ?_|(refine hK0 _ _ ?_;clear hK0)
     refine vC (α := LS) tok (LOk H3 [(false,xb, .cells true 1 (tkC t b c)),(false,eb, .cells true 1 [.int .i64 (exF t)])] 1 (cpF t) (dbM t hh) (dbR t hh) 0)
      (fun z=>[(1,pM xb),(3, .int .i64 (cpF t)),(4,pM eb),(5,cloV 214 [pM eb]),(7,sv k2 (dbO t).length),(9,sv kl its.length),(10, .int .i64 hh),(11,sv z.k z.E.length),(64, .int .i64 (cpF t)),(65, .int .i64 z.v)]) (fun z=>z.H) (fun z=>z.n)
      ⟨H3 ++ [mgB []],H3.length,[],[],0,64⟩ ⟨hs.virt _,MgIn.nil _,rfl,by dsimp only;omega,Int.le_refl _,Nat.zero_le _⟩ ⟨⟨_,rfl, .rfl⟩,⟨_,rfl, .rfl⟩,⟨_,rfl, .rfl⟩,⟨_,rfl, .rfl⟩,⟨_,rfl, .rfl⟩,⟨_,rfl, .rfl⟩,⟨_,rfl, .rfl⟩,⟨_,rfl, .nil _⟩,⟨_,rfl, .rfl⟩,⟨_,rfl, .rfl⟩,trivial⟩ (WkH.rfl.app _) ?_
     clear hs;rintro ⟨H4,k,E,M,v,n⟩ hz;have hs:=hz.hs;have hlo:=hz.lo;dsimp only[List.cons_append,List.nil_append] at hs hlo ⊢;by_cases hv:v<cpF t
     ·obtain ⟨m,hm,hlt2,hstep⟩:=hz.step hv (by decide)
      dsimp only[List.cons_append,List.nil_append] at hm hlt2 hstep;have hx:=xx (a:=v) (b:=hh) (by omega) (by omega);have hdm:dbM t hh v=smM t (mbF (exF t) v) (mbF (exF t) (xorF v hh)) (sidF v (xorF v hh)):=rfl;obtain ⟨q,hse⟩ : ∃ q,xorF v hh=q:=⟨_,rfl⟩;rw[hse] at hx hdm;unfold xorF at hse;rw[hdm] at hstep
      repeat' first|refine sX hs (fun _ hs=>?_)|refine zTw ?_|intro _ _ hs|intro K0 hK0|intro hc|refine dI ?_ ?_|(refine hK0 _ _ ?_;clear hK0)
      refine qp tok mx [0,0,0,6,0,0,0,96,254,0,1022,0,0,0,12288,32766,65534,131070,262143,524287] [false,false,false,false,false,false,false,false,false,false,false,false,false,false,false,false,false,false,false,false] (.first 0 (.first 1 (.first 2 (.first 4 (.first 5 (.first 6 (.first 7 (.first 11 (.first 12 (.first 13 (.first 14 (.alt 3 (.alt 8 (.first 9 (.first 10 (.first 15 (.first 16 (.first 17 (.first 18 (.first 19 .done))))))) (.alt 9 (.first 8 (.first 10 (.first 15 (.first 16 (.first 17 (.first 18 (.first 19 .done))))))) .no)) (.alt 9 (.first 3 (.first 8 (.first 10 (.first 15 (.first 16 (.first 17 (.first 18 (.first 19 .done)))))))) .no))))))))))))) (by kernel_rfl) ?_;refine qw (fun K0 hK0=>?_)
      repeat' first|refine sX hs (fun _ hs=>?_)|refine zRw ?_|intro _ _ hs|intro K0 hK0|(refine hK0 _ _ ?_;clear hK0)
      iterate 3 (
       all_goals try (first | refine And.intro ?_ trivial | refine And.intro ?_ (And.intro ?_ trivial) | refine And.intro ?_ (And.intro ?_ (And.intro ?_ trivial)))
       all_goals try (
        repeat' first|refine sX hs (fun _ hs=>?_)|refine zRw ?_|intro _ _ hs|intro K0 hK0|(refine hK0 _ _ ?_;clear hK0)
        )
       )
      all_goals (
       try rw[hse]
       refine c214 (hs.get 2 rfl) (by omega) (by omega) (kNo hs (fun H5 hs=>?_))
       repeat' first|refine sX hs (fun _ hs=>?_)|refine zRw ?_|intro _ _ hs|intro K0 hK0|(refine hK0 _ _ ?_;clear hK0)
       try rw[hse]
       iterate 2 (
        all_goals try (first | refine And.intro ?_ trivial | refine And.intro ?_ (And.intro ?_ trivial) | refine And.intro ?_ (And.intro ?_ (And.intro ?_ trivial)))
        all_goals try (
         repeat' first|refine sX hs (fun _ hs=>?_)|refine zRw ?_|intro _ _ hs|intro K0 hK0|(refine hK0 _ _ ?_;clear hK0)
         )
        )
       all_goals (
        try rw[hse]
        refine c214 (hs.get 2 rfl) (by omega) (by omega) (kNo hs (fun H6 hs=>?_))
        repeat' first|refine sX hs (fun _ hs=>?_)|refine zRw ?_|intro _ _ hs|intro K0 hK0|(refine hK0 _ _ ?_;clear hK0)|(refine c202 hpa (fun H7 q1 hn=>?_);have hs:=hs.call hn rfl;clear hn)
        try rw[hse]
        refine c216 ?_
        repeat' first|refine sX hs (fun _ hs=>?_)|refine zRw ?_|intro _ _ hs|intro K0 hK0|(refine hK0 _ _ ?_;clear hK0)|refine c200 rfl (kNo hs (fun H8 hs=>?_))
        refine vZ hs 2 (us:=mgC (smM t (mbF (exF t) v) (mbF (exF t) q) (sidF v q)) q1 q1) rfl (by decide) (hs.get 0 rfl) rfl rfl (by rw[wP]) (by dsimp only;omega) (fun H9 k' _ _ hs=>?_);rw[<- wY] at hs
        repeat' first|refine sX hs (fun _ hs=>?_)|refine zRw ?_|intro _ _ hs|intro K0 hK0|(refine hK0 _ _ ?_;clear hK0)
        exact⟨_,hstep H9 k' q1 q1 ((q1,spnF t 0 1)::M) (hs.pickR (A := [_,_,_,_,_]) [2,3,4,1] (by decide) (A' := [_,_,_,_]) rfl) (fun p hp=>List.mem_cons_of_mem _ hp) List.mem_cons_self List.mem_cons_self,by dsimp only;omega,Or.inl ⟨⟨rfl,rfl,rfl,rfl,rfl,rfl,rfl,by dsimp only;rw[List.length_append];rfl,rfl,rfl,trivial⟩,rfl⟩⟩
        )
       )
     ·have he:=hz.stop (by dsimp only;omega)
      dsimp only at he;have hn:HS H3 none' ((true,k,mgB E)::rwM M) H4:=hs.pickR (A := [_,_,_]) [0] (by decide) (A' := [_]) rfl;have hM:=MsN.of (N0:=H3.length) (Nat.le_refl _) hn hz.inn he;have hel:E.length=(dbR t hh).length:=by rw[<- he,List.length_map]
      have hle4:=hn.le;have hit:=hit.keep (qc hn);have hs0:=qL hs0 (qc hn);clear hn hz
      repeat' first|refine sX hs (fun _ hs=>?_)|refine zTw ?_|intro _ _ hs|intro K0 hK0|intro hc|refine dI ?_ ?_|(refine hK0 _ _ ?_;clear hK0)
      rw[hel];refine c215 (N0:=H3.length) (b:=b) (c:=c) (by omega) hM (fun H6 v1 hn hit1=>?_);have hit:=hit.keep hn;have hs0:=qL hs0 hn;have hle5:=hn.le;clear hn hM hs;obtain ⟨ga,csa,rfl⟩:=hit1.form;have hs:=HS.start H6 none'
      repeat' first|refine sX hs (fun _ hs=>?_)|refine zRw ?_|intro _ _ hs|intro K0 hK0|(refine hK0 _ _ ?_;clear hK0)
      rename_i ja H7;have hsn:=qc hs;have hj0:=hs.get 0 rfl;have hle7:=hs.le;have hs7:HS H7 (fun x=>x=kl) [(true,kl, .cells true 1 its)] H7:=(HS.start H7 _).add (vz hsn (hs0.get 0 rfl)) (fun i p hi=>by simp at hi) (fun _=>.inl rfl);have hs:=hs0.call hs rfl;have hjk:ja≠kl:=neH hs 0 1;refine vZ hs7 0 (us := [cloV ga csa]) rfl (by decide) hj0 rfl rfl (by simp) (by dsimp only;omega) (fun H8 kl' ek lk hs8=>?_);have hu8:=hs8.u;have same8 : ∀ q,q<H7.length->q≠kl->bget H8 q=bget H7 q:=fun q h1 h2=>hu8.2 q h1 h2
      have hsame : ∀ q,q<H6.length->q≠kl->bget H8 q=bget H6 q:=fun q h1 h2=>(same8 q (by omega) h2).trans (hsn.u.2 q h1 id)
      have hkl5:=(hX kl hXk).1;have hle8:=hs8.le;have gx:=hs0.get 1 rfl;have ge:=hs0.get 2 rfl;have hxl:=qJ gx;have hel2:=qJ ge
      have hnew:HS H5 none' [(true,kl', .cells true 1 (its ++ [cloV ga csa])),(false,xb, .cells true 1 (tkC t b c)),(false,eb, .cells true 1 [.int .i64 (exF t)])] H8:=by
       have hU:Upd none' H5 H8:=⟨by have:=hs0.le;omega,fun q hq _=>(hsame q (by have:=hs0.le;omega) (by omega)).trans (hs0.u.2 q hq id)⟩;have base:HS H5 none' [] H8:=⟨fun hi=>by simp at hi,fun hi=>by simp at hi,hU⟩
       exact ((base.add (c:=false) ((hsame eb hel2 q02.symm).trans ge) (fun i p hi=>by simp at hi) (fun e=>by cases e)).add (c:=false) ((hsame xb hxl q01.symm).trans gx) (fun i p hi=>by
        match i,hi with
        | 0,hi=>cases hi;exact q12.symm) (fun e=>by cases e)).add (c:=true) (hs8.get 0 rfl) (fun i p hi=>by
        match i,hi with
        | 0,hi=>cases hi;show xb≠_;omega
        | 1,hi=>cases hi;show eb≠_;omega) (fun _=>.inr (by have:=hs0.le;omega))
      clear hs;have hs:=HS.start H8 none'
      repeat' first|refine sX hs (fun _ hs=>?_)|refine zRw ?_|intro _ _ hs|intro K0 hK0|(refine hK0 _ _ ?_;clear hK0)
      refine⟨⟨H8,kl',its ++ [cloV ga csa],j+1,fun q=>X q\/q=kl'⟩,⟨hnew, ?_,fun q hq=>?_, .inr rfl,hjl⟩,by dsimp only;omega,Or.inl ⟨⟨rfl,rfl,rfl,rfl,rfl,by dsimp only;rw[List.length_append];rfl,by rw[hjs];rfl,trivial⟩,rfl⟩⟩
      ·dsimp only
       rw[hqs];refine (hit.weaken (by omega) (fun q hq hl=>⟨⟨hq.1,fun hx=>hx.elim hq.2 (fun e=>by omega)⟩,hsame q hl (fun e=>by subst e;exact hq.2 hXk)⟩)).snoc (hit1.weaken (by omega) (fun q hq hl=>?_));have hb1:=qJ gr.s.choose_spec;have hc1:=qJ gw.s.choose_spec;have hX3:=hX kl hXk;rcases hq with hq | rfl | rfl
       ·exact⟨⟨.inl (by omega),fun hx=>hx.elim (fun hx=>by have:=(hX q hx).2;omega) (fun e=>by omega)⟩,hsame q hl (by omega)⟩
       ·exact⟨⟨.inr (.inl rfl),fun hx=>hx.elim (fun hx=>by have:=(hX q hx).1;omega) (fun e=>by omega)⟩,hsame q hl (by omega)⟩
       ·exact⟨⟨.inr (.inr rfl),fun hx=>hx.elim (fun hx=>by have:=(hX q hx).1;omega) (fun e=>by omega)⟩,hsame q hl (by omega)⟩
      ·rcases hq with hq | rfl
       ·have:=hX q hq
        exact⟨this.1,by dsimp only;omega⟩
       ·exact⟨by have:=hs0.le;omega,by dsimp only;omega⟩
    ·have hje:j=flF t.pr:=by
      have : ¬ j<flF t.pr:=fun h=>hlt (hjc.2 h)
      omega
     subst hje;have hle3:=hs.le;have hkl5:=hX kl hXk
     have hI8:Its (DN N0 b c) H3 its (dbQ t (flF t.pr)++dbX t (dbO t)):=by
      unfold dbX;rw[if_neg hex0,List.append_nil];exact hit.weaken (Nat.le_refl _) (fun q hq hl=>⟨hq.1,rfl⟩)
     repeat' first|refine sX hs (fun _ hs=>?_)|refine zTw ?_|intro _ _ hs|intro K0 hK0|intro hc|refine dI ?_ ?_|(refine hK0 _ _ ?_;clear hK0)
     refine c211 (N0:=N0) (b:=b) (c:=c) (k:=kl) (by omega) (by omega) (hs.get 0 rfl) hI8.len (by omega) hI8.it (fun H10 v9 hn hit=>?_);have hs:=qL hsF (qL (qc hs) hn);clear hn
     repeat' first|refine sX hs (fun _ hs=>?_)|refine zRw ?_|intro _ _ hs|intro K0 hK0|(refine hK0 _ _ ?_;clear hK0)
     exact h _ _ (qc hs) hit
end Go.Af.Tryz
