/- A part of the proof. -/
import Derived.Test.YtmnjcogpchodhaaGreatMRG
import Derived.Test.YtmnjcogpchodhaaGreatMRI
import Derived.Test.YtmnjcogpchodhaaGreatMRL
import Derived.Test.YtmnjcogpchodhaaGreatMCA
set_option linter.all false
set_option maxHeartbeats 4000000
set_option maxRecDepth 100000
namespace Go.Af.Tryz
open Go Go.Proofs
open Go.Af.Coll (St befF)
attribute [local irreducible] awp qj qJ qL qC qo isCells qx qp qA qw qh roundEnd zG wX keyK vY

section
variable {H0 H H' : List Blk} {o:Nat->Prop} {L:List (Bool × Nat × Blk)}
theorem appo_hs (h:HS H0 o L H) (i:Nat) {size bytes b n m j c2 z p:Nat} {wr:Bool} {xs us vs:List Value} {K:Value->List Blk->Prop} (hi:L[i]? = some (true,b, .cells true size xs)) (hsz:0<size) (hj:bget H j=some (.cells wr z vs)) (hus:(vs.drop p).take (m*size)=us) (hpl:p+m*size<=vs.length) (hone:us.all qU=true)
 (hxl:xs.length=n*size) (hby:(n+m)*(bytes+1)<=70368744177664)
 (k : ∀ (H' : List Blk) (b' : Nat),HS H0 o (L.set i (true,b', .cells true size (xs++us))) H' -> K (.slice (some ⟨b',0,none⟩) (n+m) (n+m)) H') :
 qA H size bytes (.slice (some ⟨b,0,none⟩) n n) (.slice (some ⟨j,p,none⟩) m c2) K:=by
 unfold qA;refine⟨hsz, ?_⟩;simp only[Qr,hj];refine⟨.inr (by omega),us,hus,hone, ?_⟩;by_cases hm0:m=0
 ·subst hm0
  have e0:us = []:=by rw[<- hus,Nat.zero_mul];rfl
  have hlt:i<L.length:=(List.getElem?_eq_some_iff.1 hi).1;refine .inl ⟨rfl,Nat.le_refl _,k H b ?_⟩;rw[e0,List.append_nil]
  have:L.set i (true,b, .cells true size xs)=L:=List.ext_getElem? (fun q=>by
   by_cases hq:i=q
   ·subst hq
    rw[List.getElem?_set_self hlt,hi]
   ·rw[List.getElem?_set_ne hq])
  rw[this];exact h
 refine .inr ⟨by omega, ?_⟩;have hb:=h.get i hi;have hbl:=qI hb;simp only[hb];refine⟨trivial, .inr ⟨by omega,hby, .inr (by omega),_,rfl, ?_⟩⟩;have e:List.take (n*size) (List.drop 0 xs)++us=xs++us:=by rw[List.drop_zero,List.take_of_length_le (by omega)]
 rw[e];refine wY hbl fun H1 h1 h2 h3=>ZJ fun H' k1 k2 k3=>?_
 rw[h1] at k1 k2 k3 ⊢;refine k H' H.length ?_;have hd:=h.set (B' := .dead) i hi h1 h2 h3;have hn:=hd.new (B := .cells true size (xs++us)) (by rw[k1,h1]) (by rw[h1];exact k2) (by rw[h1];exact k3);rw[h1] at hn;have hlt:i<L.length:=(List.getElem?_eq_some_iff.1 hi).1;refine⟨fun {p c d D} hp=>?_,fun {p q x y} hp hq he=>?_,hn.u⟩
 ·by_cases hip:i=p
  ·subst hip
   rw[List.getElem?_set_self hlt] at hp;simp at hp;obtain ⟨rfl,rfl,rfl⟩:=hp;exact⟨k2,fun _=>.inr h.le⟩
  ·rw[List.getElem?_set_ne hip] at hp
   exact hn.g (i:=p+1) (by simp[List.getElem?_set_ne hip,hp])
 ·have old : ∀ {p:Nat} {x:Bool × Nat × Blk},p≠i->(L.set i (true,H.length, .cells true size (xs++us)))[p]? = some x->L[p]? = some x:=fun {p x} hpi hp=>by
   rw[List.getElem?_set_ne (fun e=>hpi e.symm)] at hp;exact hp
  have self : ∀ {x:Bool × Nat × Blk},(L.set i (true,H.length, .cells true size (xs++us)))[i]? = some x->x.2.1=H.length:=fun {x} hp=>by
   rw[List.getElem?_set_self hlt] at hp;cases hp;rfl
  have low : ∀ {p:Nat} {x:Bool × Nat × Blk},L[p]? = some x->x.2.1<H.length:=fun {p x} hp=>by
   obtain ⟨c,b',B'⟩:=x;exact qI (h.g hp).1
  by_cases hpi:p=i
  ·by_cases hqi:q=i
   ·rw[hpi,hqi]
   ·subst hpi
    have:=low (old hqi hq);rw[<- he,self hp] at this;omega
  ·by_cases hqi:q=i
   ·subst hqi
    have:=low (old hpi hp);rw[he,self hq] at this;omega
   ·exact h.nd (old hpi hp) (old hqi hq) he
end
theorem stsC_take (l:List St) (n:Nat):(stsC l).take (n*6)=stsC (l.take n):=by
 induction n generalizing l with
 | zero=>simp[stsC]
 | succ n ih =>
   cases l with
   | nil=>simp[stsC]
   | cons x l =>
     have e:stsC (x::l)=stC x++stsC l:=rfl;have e2:stsC ((x::l).take (n+1))=stC x++stsC (l.take n):=rfl;rw[e,e2,<- ih l,show (n+1)*6=(stC x).length+n*6 by show _=6+n*6;omega,List.take_length_add_append]
theorem Zr : ∀ l:List St,(stsC l).all qU=true
 | []=>rfl
 | s::l=>by
   show (stC s++stsC l).all qU=true;rw[List.all_append,Zr l];rfl
theorem stsC_drop (l:List St) (n:Nat):(stsC l).drop (n*6)=stsC (l.drop n):=by
 induction n generalizing l with
 | zero=>simp
 | succ n ih =>
   cases l with
   | nil=>simp[stsC]
   | cons x l =>
     have e:stsC (x::l)=stC x++stsC l:=rfl;rw[e,List.drop_succ_cons,<- ih l,show (n+1)*6=(stC x).length+n*6 by show _=6+n*6;omega,List.drop_length_add_append]
theorem YU : ∀ (l r:List St),stsC l++stsC r=stsC (l++r)
 | [],_=>rfl
 | s::l,r=>by
   show (stC s++stsC l)++stsC r=stC s++stsC (l++r);rw[List.append_assoc,YU l r]
theorem wk5 (t:Tk) (alg:Nat) (k:Nat) (ha8:alg<256) (hk16:k<65536) (hz:t.sz.length+t.ws.length<=9223372036854775807) {m:LM} {argsR:Array Value} {w:World}
 (ha:LRel m [tkV t 0 1, .int .u8 alg, .int .u16 k] argsR.toList) (hr:HRel m [ro t.sz, .cells false 1 (bls t.ws)] w) :
 Calls Tryz.prog 5 argsR w fun e w' => ∃ vR,e = .returned vR/\zK m [ro t.sz, .cells false 1 (bls t.ws)] w (fun v _=>v = .bool true) vR w' := by
 refine XV tok Tryz.func5 rfl Tryz.ntmps5 rfl (by simp) ?_ ha hr;generalize hH0 : [ro t.sz,Blk.cells false 1 (bls t.ws)]=H0;have g0:Gr H0 t.sz 0:=⟨_,by rw[<- hH0];rfl⟩;have w0:Gw H0 t.ws 0 1:=⟨by decide,_,by rw[<- hH0];rfl⟩;clear hH0 ha hr;refine qi (HS.start H0 none') (fun H1 b1 e1 l1 hs=>?_);refine qg (fun _ hKs=>hKs _ _ ?_);clear hKs;clear e1 l1
 repeat' (first|refine nY (fun K0 hK0=>?_)|refine zBw ?_|refine zNw (fun _ _ hs=>?_)|(refine hK0 _ _ ?_;clear hK0)|fail)
 refine c25 (g0.up (qc hs)) (by omega) (by omega) (fun hno H2 hn=>?_) (fun h0 h16 H2 kl hn=>?_)
 ·have hs:=qK hs hn
  clear hn
  repeat' (first|refine nY (fun K0 hK0=>?_)|refine zBw ?_|refine zNw (fun _ _ hs=>?_)|(refine dI (fun hc=>?_) (fun hc=>?_) <;> try (exfalso;omega))|(refine hK0 _ _ ?_;clear hK0)|fail)
  refine VL _ ?_
  repeat' (first|refine nY (fun K0 hK0=>?_)|refine zBw ?_|refine zNw (fun _ _ hs=>?_)|(refine dI (fun hc=>?_) (fun hc=>?_) <;> try (exfalso;omega))|(refine hK0 _ _ ?_;clear hK0)|fail)
  rfl
 ·have hs:=hs.call hn rfl
  clear hn;have kt:=yz h0;have hsm:=tk_small h0 hz;have hal:(algS t).length=(algF t.op (powB t.pr)).length:=by unfold algS;rw[if_pos h0]
  have hne:=alg_ne kt.op (powB t.pr);have hle:=(Xi kt.op (powB t.pr)).1;rw[<- hal] at hne hle;by_cases hop:t.op=1\/t.op=2\/t.op=5\/t.op=6
  ·skip
   obtain ⟨i,hi⟩ : ∃ i,alg % (algS t).length=i:=⟨_,rfl⟩;have hil:i<(algS t).length:=by rw[<- hi];exact Nat.mod_lt _ hne
   obtain ⟨a,hai⟩ : ∃ a,(algS t)[i]! = a:=⟨_,rfl⟩;have hin:a∈algS t:=by rw[<- hai,getElem!_pos _ i hil];exact List.getElem_mem hil
   have rd : ∀ {K:Value->Prop},K (.int .i64 a)->Ld (ints (algS t)) (0+i*1) K:=fun {K} hk=>wI hil (by rw[hai];exact hk)
   repeat' (first|refine nY (fun K0 hK0=>?_)|refine zBw ?_|refine zNw (fun _ _ hs=>?_)|(refine dI (fun hc=>?_) (fun hc=>?_) <;> try (exfalso;omega))|(refine hK0 _ _ ?_;clear hK0)|fail)
   all_goals (
    rw[hi]
    repeat' (first|refine nY (fun K0 hK0=>?_)|refine zBw ?_|refine zNw (fun _ _ hs=>?_)|(refine dI (fun hc=>?_) (fun hc=>?_) <;> try (exfalso;omega))|(refine hK0 _ _ ?_;clear hK0)|fail)
    refine c16 (g0.up (qc hs)) (w0.up (qc hs)) (by omega) (by omega) (fun hbad=>absurd h0 hbad) (fun _ hno=>absurd hin hno) (fun _ _ H4 k3 b3 c3 ys hn hp hsr=>?_);have hs:=hs.call hn rfl;clear hn
    have hyl:ys.length<=1000000000:=by
     have hro:=ZE kt (UN h0 hin);have h1:=Vx 0 hro.le hro.ok;have h2:=hro.len;have h3:(qZ t a).length*4194304<=200*4194304:=Nat.mul_le_mul_right _ h2;have h4:=hp.length_eq;unfold mkF at h4;omega
    repeat' (first|refine nY (fun K0 hK0=>?_)|refine zBw ?_|refine zNw (fun _ _ hs=>?_)|(refine dI (fun hc=>?_) (fun hc=>?_) <;> try (exfalso;omega))|(refine hK0 _ _ ?_;clear hK0)|fail)
    rename_i sb _;by_cases ha4:a=4
    ·skip
     refine vz hs 0 (p:=0) (n:=8) (v := .agg ⟨tkC t b3 c3 ++ [.int .i64 a,sv k3 ys.length]⟩) rfl (tkC t b3 c3 ++ [.int .i64 a,sv k3 ys.length]) rfl rfl (by decide) rfl (fun _ _ hs=>?_)
     repeat' (first|refine nY (fun K0 hK0=>?_)|refine zBw ?_|refine zNw (fun _ _ hs=>?_)|(refine dI (fun hc=>?_) (fun hc=>?_) <;> try (exfalso;omega))|(refine hK0 _ _ ?_;clear hK0)|fail)
     refine VL _ ?_
     repeat' (first|refine nY (fun K0 hK0=>?_)|refine zBw ?_|refine zNw (fun _ _ hs=>?_)|(refine dI (fun hc=>?_) (fun hc=>?_) <;> try (exfalso;omega))|(refine hK0 _ _ ?_;clear hK0)|fail)
     rfl
    ·by_cases hy0:ys.length=0
     ·skip
      refine vz hs 0 (p:=0) (n:=8) (v := .agg ⟨tkC t b3 c3 ++ [.int .i64 a,sv k3 ys.length]⟩) rfl (tkC t b3 c3 ++ [.int .i64 a,sv k3 ys.length]) rfl rfl (by decide) rfl (fun _ _ hs=>?_)
      repeat' (first|refine nY (fun K0 hK0=>?_)|refine zBw ?_|refine zNw (fun _ _ hs=>?_)|(refine dI (fun hc=>?_) (fun hc=>?_) <;> try (exfalso;omega))|(refine hK0 _ _ ?_;clear hK0)|fail)
      refine VL _ ?_
      repeat' (first|refine nY (fun K0 hK0=>?_)|refine zBw ?_|refine zNw (fun _ _ hs=>?_)|(refine dI (fun hc=>?_) (fun hc=>?_) <;> try (exfalso;omega))|(refine hK0 _ _ ?_;clear hK0)|fail)
      rfl
     ·skip
      obtain ⟨j,hj⟩ : ∃ j,k % ys.length=j:=⟨_,rfl⟩;have hjl:j<ys.length:=by rw[<- hj];exact Nat.mod_lt _ (by omega)
      have hjt:(k:Int).tmod ys.length=(j:Int):=by rw[<- hj];rfl
      refine vz hs 0 (p:=0) (n:=8) (v := .agg ⟨tkC t b3 c3 ++ [.int .i64 a,sv k3 ys.length]⟩) rfl (tkC t b3 c3 ++ [.int .i64 a,sv k3 ys.length]) rfl rfl (by decide) rfl (fun _ _ hs=>?_)
      repeat' (first|refine nY (fun K0 hK0=>?_)|refine zBw ?_|refine zNw (fun _ _ hs=>?_)|(refine dI (fun hc=>?_) (fun hc=>?_) <;> try (exfalso;omega))|(refine hK0 _ _ ?_;clear hK0)|fail)
      rename_i bz _;have hs:=hs.pick [0,1,2,3,4,5,6] (by decide) rfl (L' := [(true,bz, .cells true 6 []),(true,sb, .cells true 1 (tkC t b3 c3 ++ [.int .i64 a,sv k3 ys.length])),(true,k3, .cells true 6 (stsC ys)),(true,b3,rw' t.sz),(true,c3, .cells true 1 (bls t.ws)),(true,kl,rw' (algS t)),(true,b1, .cells true 1 (tkC t 0 1))]);rw[hj,hjt];refine appo_hs hs 0 (m:=j) (n:=0) (p:=0) (xs := []) (us:=stsC (ys.take j)) (vs:=stsC ys) rfl (by decide) (hs.get 2 rfl) (by rw[List.drop_zero];exact stsC_take _ _) (by show 0+j*6<=_;rw[xO];omega) (Zr _) rfl (by show (0+j)*(48+1)<=_;omega) (fun H8 b8 hs=>?_);have hs:=hs.pick [0,1,2,3,4,5,6] (by decide) rfl (L' := [(true,b8, .cells true 6 (stsC (ys.take j))),(true,sb, .cells true 1 (tkC t b3 c3 ++ [.int .i64 a,sv k3 ys.length])),(true,k3, .cells true 6 (stsC ys)),(true,b3,rw' t.sz),(true,c3, .cells true 1 (bls t.ws)),(true,kl,rw' (algS t)),(true,b1, .cells true 1 (tkC t 0 1))])
      repeat' (first|refine nY (fun K0 hK0=>?_)|refine zBw ?_|refine zNw (fun _ _ hs=>?_)|(refine dI (fun hc=>?_) (fun hc=>?_) <;> try (exfalso;omega))|(refine hK0 _ _ ?_;clear hK0)|fail)
      refine⟨⟨hjl,Nat.le_refl _⟩, ?_⟩
      repeat' (first|refine nY (fun K0 hK0=>?_)|refine zBw ?_|refine zNw (fun _ _ hs=>?_)|(refine dI (fun hc=>?_) (fun hc=>?_) <;> try (exfalso;omega))|(refine hK0 _ _ ?_;clear hK0)|fail)
      refine appo_hs hs 0 (m:=ys.length-(j+1)) (n:=0+j) (p:=0+(j+1)*6) (xs:=stsC (ys.take j)) (us:=stsC (ys.drop (j+1))) (vs:=stsC ys) rfl (by decide) (hs.get 2 rfl) ?_ (by show 0+(j+1)*6+(ys.length-(j+1))*6<=_;rw[xO];omega) (Zr _) (by show (stsC (ys.take j)).length=(0+j)*6;rw[xO,List.length_take];omega) (by show (0+j+(ys.length-(j+1)))*(48+1)<=_;omega) (fun H9 b9 hs=>?_)
      ·rw[Nat.zero_add,stsC_drop]
       exact List.take_of_length_le (by rw[xO,List.length_drop];exact Nat.le_of_eq (Nat.mul_comm _ _))
      have hs:=hs.pick [0,1,2,3,4,5,6] (by decide) rfl (L' := [(true,b9, .cells true 6 (stsC (ys.take j)++stsC (ys.drop (j+1)))),(true,sb, .cells true 1 (tkC t b3 c3 ++ [.int .i64 a,sv k3 ys.length])),(true,k3, .cells true 6 (stsC ys)),(true,b3,rw' t.sz),(true,c3, .cells true 1 (bls t.ws)),(true,kl,rw' (algS t)),(true,b1, .cells true 1 (tkC t 0 1))]);rw[YU] at hs;have nd:=all_need (i:=j) h0 h16 hop (UN h0 hin) ha4 hp hsr hjl;have el:0+j+(ys.length-(j+1))=(ys.take j++ys.drop (j+1)).length:=by rw[List.length_append,List.length_take,List.length_drop];omega
      rw[el];have zl:(ys.take j++ys.drop (j+1)).length<=1000000000:=by omega
      generalize ys.take j++ys.drop (j+1)=zs at hs nd zl ⊢
      repeat' (first|refine nY (fun K0 hK0=>?_)|refine zBw ?_|refine zNw (fun _ _ hs=>?_)|(refine dI (fun hc=>?_) (fun hc=>?_) <;> try (exfalso;omega))|(refine hK0 _ _ ?_;clear hK0)|fail)
      have hs:=hs.pick [0,1,2,3,4,5,6] (by decide) rfl (L' := [(true,b9, .cells true 6 (stsC zs)),(true,sb, .cells true 1 (tkC t b3 c3 ++ [.int .i64 a,sv b9 zs.length])),(true,k3, .cells true 6 (stsC ys)),(true,b3,rw' t.sz),(true,c3, .cells true 1 (bls t.ws)),(true,kl,rw' (algS t)),(true,b1, .cells true 1 (tkC t 0 1))]);refine c26 (t:=t) (alg:=a) (l:=zs) (b:=b3) (c:=c3) (d:=b9) ⟨_,hs.get 3 rfl⟩ ⟨hs.ne 3 4 rfl rfl (by decide),_,hs.get 4 rfl⟩ ⟨_,hs.get 0 rfl⟩ (by omega) (by omega) (by omega) (kNo hs (fun H10 hs=>?_));rw[nd.1,nd.2]
      repeat' (first|refine nY (fun K0 hK0=>?_)|refine zBw ?_|refine zNw (fun _ _ hs=>?_)|(refine dI (fun hc=>?_) (fun hc=>?_) <;> try (exfalso;omega))|(refine hK0 _ _ ?_;clear hK0)|fail)
      refine VL _ ?_
      repeat' (first|refine nY (fun K0 hK0=>?_)|refine zBw ?_|refine zNw (fun _ _ hs=>?_)|(refine dI (fun hc=>?_) (fun hc=>?_) <;> try (exfalso;omega))|(refine hK0 _ _ ?_;clear hK0)|fail)
      rfl
    )
  ·skip
   repeat' (first|refine nY (fun K0 hK0=>?_)|refine zBw ?_|refine zNw (fun _ _ hs=>?_)|(refine dI (fun hc=>?_) (fun hc=>?_) <;> try (exfalso;omega))|(refine hK0 _ _ ?_;clear hK0)|fail)
   refine VL _ ?_
   repeat' (first|refine nY (fun K0 hK0=>?_)|refine zBw ?_|refine zNw (fun _ _ hs=>?_)|(refine dI (fun hc=>?_) (fun hc=>?_) <;> try (exfalso;omega))|(refine hK0 _ _ ?_;clear hK0)|fail)
   rfl
end Go.Af.Tryz
