/- A part of the proof. -/
import Derived.Test.YtmnjcogpchodhaaGreatMRA
import Derived.Test.YtmnjcogpchodhaaGreatMHH
import Derived.Test.YtmnjcogpchodhaaGreatMGL
import Derived.Test.YtmnjcogpchodhaaGreatMGH
set_option linter.all false
noncomputable section
set_option maxHeartbeats 4000000
set_option maxRecDepth 100000
namespace Go.Af.Tryz
open Go Go.Proofs
open Go.Af.Coll (St)

def gC (N k:Nat):Nat:=(N >>> (k*16)) % 2 ^ 16
def sC (N k v:Nat):Nat:=N ^^^ ((gC N k ^^^ v) <<< (k*16))
theorem gC_lt (N k:Nat):gC N k<2 ^ 16:=Nat.mod_lt _ (by decide)
theorem Uz (N k i:Nat):(gC N k).testBit i=(decide (i<16)&&N.testBit (k*16+i)):=by
 unfold gC;rw[Nat.testBit_mod_two_pow,Nat.testBit_shiftRight]
theorem gsC {N k v:Nat} (hv:v<2 ^ 16) (j:Nat):gC (sC N k v) j=if j=k then v else gC N j:=by
 apply Nat.eq_of_testBit_eq
 intro i;rw[Uz];unfold sC;rw[Nat.testBit_xor,Nat.testBit_shiftLeft,Nat.testBit_xor,Uz];have hv' : ∀ i,16<=i->v.testBit i=false:=fun i hi=>Nat.testBit_lt_two_pow (Nat.lt_of_lt_of_le hv (Nat.pow_le_pow_right (by decide) hi))
 by_cases hi:i<16
 ·by_cases hj:j=k
  ·subst hj
   rw[if_pos rfl,decide_eq_true hi,decide_eq_true (show j*16+i ≥ j*16 by omega),show j*16+i-j*16=i by omega,decide_eq_true hi];cases N.testBit (j*16+i) <;> cases v.testBit i <;> rfl
  ·rw[if_neg hj,Uz]
   rcases Nat.lt_or_gt_of_ne hj with h | h
   ·rw[decide_eq_false (show ¬ j*16+i ≥ k*16 by omega)]
    simp
   ·rw[hv' (j*16+i-k*16) (by omega),decide_eq_false (show ¬ j*16+i-k*16<16 by omega)]
    simp
 ·rw[decide_eq_false hi,Bool.false_and]
  split
  ·rw[hv' i (by omega)]
  ·rw[Uz,decide_eq_false hi,Bool.false_and]

def fC (v:Nat) (K:Nat->Bool):Bool:=Nat.rec (K 0) (fun n _=>K (n+1)) v
theorem XQ (v:Nat) (K:Nat->Bool):fC v K=K v:=by cases v <;> rfl
def nI (i:Int) (K:Nat->Bool):Bool:=Int.rec K (fun _=>false) i
theorem nI_t {i:Int} {K:Nat->Bool} (h:nI i K=true) : ∃ n:Nat,i=n/\K n=true:=by
 cases i with
 | ofNat n=>exact⟨n,rfl,h⟩
 | negSucc n=>exact Bool.noConfusion (show false=true from h)
def iB (b:Bool) (x:Bool):Bool:=Bool.rec false x b
theorem iB_t {b x:Bool} (h:iB b x=true):b=true/\x=true:=by cases b <;> simp_all [iB]
def nB (b:Bool) (x y:Nat):Nat:=Bool.rec x y b
def bB (b:Bool) (x y:Bool):Bool:=Bool.rec x y b
def goS (cp br:Bool) (n fr to:Nat) (jn:Bool) (N:Nat):List Int->List Int->Nat->Nat->(Nat->Nat->Bool)->Bool
 | s::sr,d::ds,M,U,K=>nI s fun s=>nI d fun d =>
   fC (gC N (fr*n+s)) fun came=>fC (gC N (to*n+d)) fun old =>
   iB (Nat.blt 0 came) (iB (Nat.blt s n) (iB (Nat.blt d n) (iB (Nat.beq ((U >>> (to*n+d)) % 2) 0) (iB (bB cp (Nat.beq s d) true) (iB (bB br (Nat.beq (nB jn 0 (Nat.land came old)) 0) true)
    (fC (sC M (to*n+d) (nB jn came (Nat.lor came old))) fun M' => fC (Nat.lor U (2 ^ (to*n+d))) fun U' => goS cp br n fr to jn N sr ds M' U' K))))))
 | [],[],M,U,K=>K M U
 | _,_,_,_,_=>false
def goM (cp br:Bool) (p n N:Nat):List Msg->Nat->Nat->Nat->Nat->(Nat->Bool)->Bool
 | [],M,_,_,_,K=>K M
 | m::ms,M,U,S,G,K=>nI m.fr fun fr=>nI m.to fun to=>nI m.jn fun jn =>
   iB (Nat.blt fr p) (iB (Nat.blt to p) (iB (Nat.blt jn 3) (iB (bB cp true (Nat.beq jn 0))
    (bB (Nat.beq fr to)
      (iB (bB (Nat.beq (gC S fr) 0) (Nat.beq (gC S fr) (to+1)) true) (iB (bB (Nat.beq (gC G to) 0) (Nat.beq (gC G to) (fr+1)) true)
        (goS cp br n fr to (Nat.blt 0 jn) N m.sr m.ds M U fun M' U' => fC (sC S fr (to+1)) fun S' => fC (sC G to (fr+1)) fun G' => goM cp br p n N ms M' U' S' G' K)))
      (goS cp br n fr to (Nat.blt 0 jn) N m.sr m.ds M U fun M' U' => goM cp br p n N ms M' U' S G K)))))
def goR (cp br:Bool) (p n:Nat):List (List Msg)->Nat->(Nat->Bool)->Bool
 | [],N,K=>K N
 | ms::rs,N,K=>goM cp br p n N ms N 0 0 0 fun M=>goR cp br p n rs M K
def grpF:Nat->List (List Msg)->List (List St)
 | _,[]=>[]
 | k,ms::rs=>stRd (k:Int) ms::grpF (k+1) rs
theorem Uu : ∀ (rs:List (List Msg)) (k:Nat),stsF k rs=(grpF k rs).flatten
 | [],_=>rfl
 | ms::rs,k=>by rw[stsF,grpF,List.flatten_cons,Uu rs (k+1)]
theorem xm : ∀ (rs:List (List Msg)) (k:Nat),(grpF k rs).length=rs.length
 | [],_=>rfl
 | ms::rs,k=>by rw[grpF,List.length_cons,List.length_cons,xm rs (k+1)]
def stZ (k fr to jn:Int):List Int->List Int->List St
 | s::sr,d::ds=>⟨k,fr,to,s,d,jn⟩::stZ k fr to jn sr ds
 | _,_=>[]
theorem stM_Z (k:Int) (m:Msg) (h:m.sr.length=m.ds.length):stM k m=stZ k m.fr m.to m.jn m.sr m.ds:=by
 obtain ⟨fr,to,sr,ds,jn⟩:=m;dsimp only at h ⊢;unfold stM;dsimp only
 induction sr generalizing ds with
 | nil=>cases ds with
   | nil=>rfl
   | cons d ds=>simp at h
 | cons s sr ih=>cases ds with
   | nil=>simp at h
   | cons d ds =>
     have:=ih ds (by simpa using h);rw[List.length_cons,List.range_succ_eq_map,List.map_cons,List.map_map,stZ,<- this];rfl
def Cd (cp br:Bool) (p n k:Nat) (s:Int) (l:List Og) (c:Nat):Prop :=
 if cp then (c=0/\l = [])\/∃ (r f:Nat),f<n/\c=r*n+f+1/\l = [((r:Int),(f:Int))]
 else ∃ q:List Nat,l=q.map (fun r:Nat=>((r:Int),s))/\(br=false->q.Nodup)/\(br=true->q.length<=2 ^ k)/\(∀ r∈q,r<p)/\∀ r,r∈q↔c.testBit r=true
def Rep (cp br:Bool) (p n k:Nat) (f:Fs) (N:Nat):Prop := ∀ r s:Nat,r<p->s<n->Cd cp br p n k (s:Int) (f r s) (gC N (r*n+s))
theorem Cd.up {cp br:Bool} {p n k:Nat} {s:Int} {l:List Og} {c:Nat} (h:Cd cp br p n k s l c):Cd cp br p n (k+1) s l c:=by
 unfold Cd at h ⊢;split at h
 ·rename_i e;rw[if_pos e];exact h
 ·rename_i e
  rw[if_neg e];obtain ⟨q,a,b,c,d⟩:=h;exact⟨q,a,b,fun e=>by have:=c e;rw[Nat.pow_succ];omega,d⟩
theorem Cd.ne {cp br:Bool} {p n k:Nat} {s:Int} {l:List Og} {c:Nat} (h:Cd cp br p n k s l c) (hc:c≠0):l≠[]:=by
 unfold Cd at h;split at h
 ·rcases h with ⟨h,_⟩ | ⟨r,f,_,_,rfl⟩
  ·exact absurd h hc
  ·simp
 ·obtain ⟨q,rfl,_,_,_,hq⟩:=h
  obtain ⟨i,hi⟩:=Nat.exists_testBit_of_ne_zero hc;intro e;have:=(hq i).2 hi;rw[List.map_eq_nil_iff.1 e] at this;cases this
theorem Cd.len {cp br:Bool} {p n k:Nat} {s:Int} {l:List Og} {c:Nat} (h:Cd cp br p n k s l c) (hp:p<=64) (hk:br=true->k<=7):l.length<=128:=by
 unfold Cd at h;split at h
 ·rcases h with ⟨_,rfl⟩ | ⟨r,f,_,_,rfl⟩
  ·simp
  ·simp
 ·obtain ⟨q,rfl,hn,hl,hr,_⟩:=h
  rw[List.length_map]
  cases br with
  | false =>
    have:=xy (m:=List.range p) (hn rfl) (fun x hx=>List.mem_range.2 (hr x hx));rw[List.length_range] at this;omega
  | true =>
    have a:=hl rfl;have b:2 ^ k<=2 ^ 7:=Nat.pow_le_pow_right (by decide) (hk rfl);omega
def plN (n:Nat) (x:St):Nat:=x.to.toNat*n+x.ds.toNat
def vlN (n N:Nat) (x:St):Nat:=if x.jn=0 then gC N (x.fr.toNat*n+x.sr.toNat) else gC N (x.fr.toNat*n+x.sr.toNat) ||| gC N (plN n x)
structure Wst (cp br:Bool) (p n N:Nat) (x:St):Prop where
 ok:StOk p n x
 c:gC N (x.fr.toNat*n+x.sr.toNat)≠0
 dj:br=false->x.jn≠0->gC N (x.fr.toNat*n+x.sr.toNat) &&& gC N (plN n x)=0
 c0:cp=true->x.jn=0
 sd:cp=false->x.sr=x.ds
theorem Cd.join {cp br:Bool} {p n k:Nat} {s s' : Int} {l l' : List Og} {c c' : Nat} {j:Int} (hcp:cp=true->j=0) (hs:cp=false->s=s') (h:Cd cp br p n k s l c) (h' : Cd cp br p n k s' l' c') (hd:br=false->j≠0->c &&& c' = 0):Cd cp br p n (k+1) s' (joinL j l' l) (if j=0 then c else c ||| c'):=by
 by_cases h0:j=0
 ·subst h0
  rw[if_pos rfl];unfold joinL;rw[if_pos rfl]
  cases cp with
  | true=>exact h
  | false=>rw[<- hs rfl];exact h.up
 ·rw[if_neg h0]
  cases cp with
  | true=>exact absurd (hcp rfl) h0
  | false =>
    have hs:=hs rfl;subst hs;obtain ⟨q,rfl,hn,hl,hr,hq⟩:=h;obtain ⟨q',rfl,hn',hl',hr',hq'⟩:=h'
    have hdis:br=false->∀ r∈q,r ∉ q' := fun e r h1 h2=>by
     have a:=(hq r).1 h1;have b:=(hq' r).1 h2;have:=congrArg (fun z=>Nat.testBit z r) (hd e h0);simp only[Nat.testBit_and,a,b,Nat.zero_testBit] at this;cases this
    have hll:br=true->q.length+q'.length<=2 ^ (k+1):=fun e=>by have:=hl e;have:=hl' e;rw[Nat.pow_succ];omega
    unfold joinL;rw[if_neg h0];unfold Cd;rw[if_neg (by simp)];split
    ·refine⟨q++q',by rw[List.map_append],fun e=>List.nodup_append.2 ⟨hn e,hn' e,fun a ha b hb e' => hdis e a ha (e' ▸ hb)⟩,fun e=>by rw[List.length_append];exact hll e,fun r h=>(List.mem_append.1 h).elim (hr r) (hr' r),fun r=>?_⟩
     rw[List.mem_append,hq,hq',Nat.testBit_or,Bool.or_eq_true]
    ·refine⟨q' ++ q,by rw[List.map_append],fun e=>List.nodup_append.2 ⟨hn' e,hn e,fun a ha b hb e' => hdis e b hb (e' ▸ ha)⟩,fun e=>by have:=hll e;rw[List.length_append];omega,fun r h=>(List.mem_append.1 h).elim (hr' r) (hr r),fun r=>?_⟩
     rw[List.mem_append,hq,hq',Nat.testBit_or,Bool.or_eq_true,or_comm]
theorem vlN_lt (n N:Nat) (x:St):vlN n N x<2 ^ 16:=by
 unfold vlN;split
 ·exact gC_lt _ _
 ·exact Nat.or_lt_two_pow (gC_lt _ _) (gC_lt _ _)
structure Inv (cp br:Bool) (p n N:Nat) (D:List St) (M U:Nat):Prop where
 st : ∀ x∈D,Wst cp br p n N x/\gC M (plN n x)=vlN n N x/\U.testBit (plN n x)=true
 old : ∀ k,(∀ x∈D,plN n x≠k)->gC M k=gC N k
 ds:D.Pairwise (fun x y=>plN n x≠plN n y)
theorem Inv.add {cp br:Bool} {p n N:Nat} {D:List St} {M U:Nat} {x:St} (h:Inv cp br p n N D M U) (hx:Wst cp br p n N x) (hu:U.testBit (plN n x)=false):Inv cp br p n N (D ++ [x]) (sC M (plN n x) (vlN n N x)) (U ||| 2 ^ plN n x):=by
 have hne : ∀ y∈D,plN n y≠plN n x:=fun y hy e=>by
  have:=(h.st y hy).2.2;rw[e,hu] at this;cases this
 refine⟨fun y hy=>?_,fun k hk=>?_, ?_⟩
 ·rw[gsC (vlN_lt n N x),Nat.testBit_or]
  rcases List.mem_append.1 hy with hy | hy
  ·have:=h.st y hy
   rw[if_neg (hne y hy),this.2.2,Bool.true_or];exact⟨this.1,this.2.1,rfl⟩
  ·rcases List.mem_singleton.1 hy with rfl
   rw[if_pos rfl,Nat.testBit_two_pow_self,Bool.or_true];exact⟨hx,rfl,rfl⟩
 ·rw[gsC (vlN_lt n N x),if_neg (fun e=>hk x (by simp) e.symm)]
  exact h.old k (fun y hy=>hk y (by simp[hy]))
 ·rw[List.pairwise_append]
  exact⟨h.ds,List.pairwise_singleton _ _,fun y hy z hz=>by rcases List.mem_singleton.1 hz with rfl;exact hne y hy⟩
theorem goS_ok {cp br:Bool} {p n N fr to jn:Nat} {k:Int} {K:Nat->Nat->Bool} (hf:fr<p) (ht:to<p) (hj:jn<3) (hc:cp=true->jn=0) : ∀ {sr ds:List Int} {M U:Nat} {D:List St},goS cp br n fr to (Nat.blt 0 jn) N sr ds M U K=true->Inv cp br p n N D M U->∃ M' U',K M' U' = true/\sr.length=ds.length/\Inv cp br p n N (D++stZ k fr to jn sr ds) M' U'
 | [],[],M,U,D,h,hi=>⟨M,U,h,rfl,by rw[stZ,List.append_nil];exact hi;exact fun _ _ _ _ e=>by cases e⟩
 | [],d::ds,_,_,_,h,_=>Bool.noConfusion (show false=true from h)
 | s::sr,[],_,_,_,h,_=>Bool.noConfusion (show false=true from h)
 | s::sr,d::ds,M,U,D,h,hi=>by
   rw[goS] at h;obtain ⟨s',es,ha⟩:=nI_t h;clear h;subst es;obtain ⟨d',ed,h⟩:=nI_t ha;clear ha;subst ed;rw[XQ,XQ] at h;obtain ⟨h1,h⟩:=iB_t h;obtain ⟨h2,h⟩:=iB_t h;obtain ⟨h3,h⟩:=iB_t h;obtain ⟨h4,h⟩:=iB_t h;obtain ⟨h5,h⟩:=iB_t h;obtain ⟨h6,h⟩:=iB_t h;rw[XQ,XQ] at h;have h1:=Nat.blt_eq.mp h1;have h2:=Nat.blt_eq.mp h2;have h3:=Nat.blt_eq.mp h3;have h4:=Nat.eq_of_beq_eq_true h4;have h6:br=false->nB (Nat.blt 0 jn) 0 (Nat.land (gC N (fr*n+s')) (gC N (to*n+d')))=0:=fun e=>by subst e;exact Nat.eq_of_beq_eq_true h6
   have hx:Wst cp br p n N ⟨k,fr,to,s',d',jn⟩:=by
    refine⟨⟨by simp only;omega,by simp only;omega,by simp only;omega,by simp only;omega,by simp only;omega⟩,by simp only[Int.toNat_natCast];omega,fun eb hn=>?_,fun e=>by simp only;rw[hc e];rfl,fun e=>?_⟩
    ·simp only at hn
     have h6:=h6 eb;rw[show Nat.blt 0 jn=true from Nat.blt_eq.mpr (by omega)] at h6
     simpa [plN,nB] using h6
    ·subst e
     have:=Nat.eq_of_beq_eq_true h5;simp only;omega
   have hp:plN n ⟨k,fr,to,s',d',jn⟩=to*n+d' := by simp[plN]
   have hv:vlN n N ⟨k,fr,to,s',d',jn⟩=nB (Nat.blt 0 jn) (gC N (fr*n+s')) (Nat.lor (gC N (fr*n+s')) (gC N (to*n+d'))):=by
    unfold vlN;rw[hp];simp only[Int.toNat_natCast];by_cases e:jn=0
    ·subst e;rfl
    ·rw[if_neg (by omega),show Nat.blt 0 jn=true from Nat.blt_eq.mpr (by omega)];rfl
   have hi2:=hi.add hx (by
    rw[hp,Nat.testBit_eq_decide_div_mod_eq,<- Nat.shiftRight_eq_div_pow,h4]
    rfl)
   rw[hv,hp] at hi2;obtain ⟨M',U',hK,hl,hi3⟩:=goS_ok hf ht hj hc h hi2;refine⟨M',U',hK,by simp[hl], ?_⟩;rw[stZ];rw[List.append_assoc] at hi3;exact hi3
def Par (D:List St) (S G:Nat):Prop := ∀ x∈D,x.fr≠x.to->gC S x.fr.toNat=x.to.toNat+1/\gC G x.to.toNat=x.fr.toNat+1
theorem stZ_mem {k fr to jn:Int} {x:St} : ∀ {sr ds:List Int},x∈stZ k fr to jn sr ds->x.rd=k/\x.fr=fr/\x.to=to/\x.jn=jn
 | [],_,h=>by rw[stZ] at h;cases h;exact fun _ _ _ _ e=>by cases e
 | _::_,[],h=>by rw[stZ] at h;cases h;exact fun _ _ _ _ _ e=>by cases e
 | s::sr,d::ds,h=>by
   rw[stZ] at h;rcases List.mem_cons.1 h with rfl | h
   ·exact⟨rfl,rfl,rfl,rfl⟩
   ·exact stZ_mem h
theorem goM_ok {cp br:Bool} {p n N:Nat} {k:Int} {K:Nat->Bool} (hp64:p<=64) : ∀ {ms:List Msg} {M U S G:Nat} {D:List St},goM cp br p n N ms M U S G K=true->Inv cp br p n N D M U->Par D S G->(∀ x∈D,x.rd=k)->∃ M' U' S' G',K M' = true/\Inv cp br p n N (D++stRd k ms) M' U' /\ Par (D++stRd k ms) S' G' /\ ∀ x∈D++stRd k ms,x.rd=k
 | [],M,U,S,G,D,h,hi,hpar,hd=>⟨M,U,S,G,h,by rw[show stRd k [] = [] from rfl,List.append_nil];exact hi,by rw[show stRd k [] = [] from rfl,List.append_nil];exact hpar,by rw[show stRd k [] = [] from rfl,List.append_nil];exact hd⟩
 | m::ms,M,U,S,G,D,h,hi,hpar,hd=>by
   rw[goM] at h;obtain ⟨fr,efr,h⟩:=nI_t h;obtain ⟨to,eto,h⟩:=nI_t h;obtain ⟨jn,ejn,h⟩:=nI_t h;obtain ⟨h1,h⟩:=iB_t h;obtain ⟨h2,h⟩:=iB_t h;obtain ⟨h3,h⟩:=iB_t h;obtain ⟨h4,h⟩:=iB_t h;have h1:=Nat.blt_eq.mp h1;have h2:=Nat.blt_eq.mp h2;have h3:=Nat.blt_eq.mp h3;have h4:cp=true->jn=0:=fun e=>by subst e;exact Nat.eq_of_beq_eq_true h4
   have key : ∀ (K' : Nat->Nat->Bool),goS cp br n fr to (Nat.blt 0 jn) N m.sr m.ds M U K' = true->∃ M' U',K' M' U' = true/\Inv cp br p n N (D++stM k m) M' U' /\ (∀ x∈stM k m,x.rd=k/\x.fr=fr/\x.to=to):=fun K' hK=>by
    obtain ⟨M',U',a,b,c⟩:=goS_ok (k:=k) h1 h2 h3 h4 hK hi;have e:=stM_Z k m b;rw[efr,eto,ejn] at e;refine⟨M',U',a,by rw[e];exact c,fun x hx=>?_⟩;rw[e] at hx;have:=stZ_mem hx;exact⟨this.1,this.2.1,this.2.2.1⟩
   have fin : ∀ {M' U' S' G' : Nat},goM cp br p n N ms M' U' S' G' K=true->Inv cp br p n N (D++stM k m) M' U' -> (∀ x∈stM k m,x.rd=k/\x.fr=fr/\x.to=to)->Par (D++stM k m) S' G' -> ∃ M' U' S' G',K M' = true/\Inv cp br p n N (D++stRd k (m::ms)) M' U' /\ Par (D++stRd k (m::ms)) S' G' /\ ∀ x∈D++stRd k (m::ms),x.rd=k:=fun a b c d=>by
    have:=goM_ok hp64 a b d (fun x hx=>(List.mem_append.1 hx).elim (hd x) (fun hx=>(c x hx).1));rw[List.append_assoc] at this;exact this
   by_cases e:fr=to
   ·subst e
    rw[show Nat.beq fr fr=true from Nat.beq_refl fr] at h;obtain ⟨M',U',a,b,c⟩:=key _ h;refine fin a b c (fun x hx hn=>?_);rcases List.mem_append.1 hx with hx | hx
    ·exact hpar x hx hn
    ·have:=c x hx
     exact absurd (this.2.1.trans this.2.2.symm) hn
   ·rw[show Nat.beq fr to=false from by cases hb:Nat.beq fr to with
     | false=>rfl
     | true=>exact absurd (Nat.eq_of_beq_eq_true hb) e] at h
    obtain ⟨h5,h⟩:=iB_t h;obtain ⟨h6,h⟩:=iB_t h
    have h5:gC S fr=0\/gC S fr=to+1:=by
     cases hb:Nat.beq (gC S fr) 0 with
     | true=>exact .inl (Nat.eq_of_beq_eq_true hb)
     | false=>rw[hb] at h5;exact .inr (Nat.eq_of_beq_eq_true h5)
    have h6:gC G to=0\/gC G to=fr+1:=by
     cases hb:Nat.beq (gC G to) 0 with
     | true=>exact .inl (Nat.eq_of_beq_eq_true hb)
     | false=>rw[hb] at h6;exact .inr (Nat.eq_of_beq_eq_true h6)
    obtain ⟨M',U',a,b,c⟩:=key _ h;rw[XQ,XQ] at a;refine fin a b c (fun x hx hn=>?_);rw[gsC (by omega),gsC (by omega)];rcases List.mem_append.1 hx with hx | hx
    ·have:=hpar x hx hn
     have hok:=((hi.st x hx).1).ok;refine⟨?_, ?_⟩
     ·split
      ·rename_i e1
       rw[e1] at this;omega
      ·exact this.1
     ·split
      ·rename_i e1
       rw[e1] at this;omega
      ·exact this.2
    ·have:=c x hx
     rw[this.2.1,this.2.2,Int.toNat_natCast,Int.toNat_natCast,if_pos rfl,if_pos rfl];exact⟨rfl,rfl⟩
theorem pl_inj {n a b c d:Nat} (h:a*n+b=c*n+d) (hb:b<n) (hd:d<n):a=c/\b=d:=by
 have h1:(b+n*a) / n=(d+n*c) / n:=by rw[Nat.add_comm b,Nat.add_comm d,Nat.mul_comm n a,Nat.mul_comm n c,h]
 rw[Nat.add_mul_div_left _ _ (by omega),Nat.add_mul_div_left _ _ (by omega),Nat.div_eq_of_lt hb,Nat.div_eq_of_lt hd] at h1;have:a=c:=by omega
 subst this;exact⟨rfl,by omega⟩
def nxF (f:Fs) (S:List St):Fs:=fun p s=>match S.find? (fun x=>decide (x.to=p/\x.ds=s)) with
 | some x=>joinL x.jn (f x.to x.ds) (f x.fr x.sr)
 | none=>f p s
theorem round_ok {cp br:Bool} {p n N M U S' G' kk:Nat} {k:Int} {f:Fs} {S:List St} (hp64:p<=64) (hkk:br=true->kk+1<=7) (hr:Rep cp br p n kk f N) (hi:Inv cp br p n N S M U) (hpar:Par S S' G') (hk : ∀ x∈S,x.rd=k):Rnd f S (nxF f S)/\Rep cp br p n (kk+1) (nxF f S) M/\S.Pairwise Fit/\∀ x∈S,StOk p n x:=by
 have hcd : ∀ x∈S,Cd cp br p n kk x.sr (f x.fr x.sr) (gC N (x.fr.toNat*n+x.sr.toNat))/\Cd cp br p n kk x.ds (f x.to x.ds) (gC N (plN n x)):=fun x hx=>by
  have ho:=(hi.st x hx).1.ok;have a:=hr x.fr.toNat x.sr.toNat (by have:=ho.fr;omega) (by have:=ho.sr;omega);have b:=hr x.to.toNat x.ds.toNat (by have:=ho.to;omega) (by have:=ho.ds;omega);rw[Int.toNat_of_nonneg ho.fr.1,Int.toNat_of_nonneg ho.sr.1] at a;rw[Int.toNat_of_nonneg ho.to.1,Int.toNat_of_nonneg ho.ds.1] at b;exact⟨a,b⟩
 have hjo : ∀ x∈S,Cd cp br p n (kk+1) x.ds (joinL x.jn (f x.to x.ds) (f x.fr x.sr)) (vlN n N x):=fun x hx=>by
  have hw:=(hi.st x hx).1;exact Cd.join hw.c0 hw.sd (hcd x hx).1 (hcd x hx).2 hw.dj
 have hfit:S.Pairwise Fit:=hi.ds.imp_of_mem (fun {x y} hx hy hn _=>by
  have hox:=(hi.st x hx).1.ok;have hoy:=(hi.st y hy).1.ok;refine⟨fun e=>hn (by unfold plN;rw[e.1,e.2]),fun h1 h2=>?_⟩;have a:=hpar x hx h1;have b:=hpar y hy h2;have:=hox.to;have:=hoy.to;have:=hox.fr;have:=hoy.fr;refine⟨fun e=>?_,fun e=>?_⟩
  ·rw[e] at a;omega
  ·rw[e] at a;omega)
 have hfind : ∀ x∈S,S.find? (fun y=>decide (y.to=x.to/\y.ds=x.ds))=some x:=fun x hx=>by
  obtain ⟨i,hi',rfl⟩:=List.getElem_of_mem hx;rw[List.find?_eq_some_iff_getElem];refine⟨by simp,i,hi',rfl,fun j hj=>?_⟩;have:=(List.pairwise_iff_getElem.1 hi.ds) j i (by omega) hi' hj;simp only[Bool.not_eq_true',decide_eq_false_iff_not];exact fun e=>this (by unfold plN;rw[e.1,e.2])
 refine⟨⟨fun x hx=>⟨(hcd x hx).1.ne (hi.st x hx).1.c,(hjo x hx).len hp64 hkk, ?_⟩,fun q s _ _ hn=>?_⟩,fun r s hr' hs' => ?_,hfit,fun x hx=>(hi.st x hx).1.ok⟩
 ·unfold nxF
  rw[hfind x hx]
 ·unfold nxF
  rw[List.find?_eq_none.2 (fun x hx=>by simpa using hn x hx)]
 ·unfold nxF
  cases hf:S.find? (fun x=>decide (x.to=(r:Int)/\x.ds=(s:Int))) with
  | some x =>
    have hx:=List.mem_of_find?_eq_some hf;have he:x.to=r/\x.ds=s:=by simpa using List.find?_some hf
    have hpl:plN n x=r*n+s:=by unfold plN;rw[he.1,he.2];rfl
    have a:=hjo x hx;rw[<- (hi.st x hx).2.1,hpl,he.2] at a;show Cd cp br p n (kk+1) (s:Int) (joinL x.jn (f x.to x.ds) (f x.fr x.sr)) (gC M (r*n+s));rw[he.2];exact a
  | none =>
    have hno:=List.find?_eq_none.1 hf
    rw[hi.old (r*n+s) (fun x hx e=>by
     have ho:=(hi.st x hx).1.ok;have:=ho.to;have hds:=ho.ds;unfold plN at e;have:=pl_inj e (by omega) hs'
     exact hno x hx (by simp;omega))]
    exact (hr r s hr' hs').up
theorem goR_ok {cp br:Bool} {p n:Nat} {K:Nat->Bool} (hp64:p<=64) : ∀ {rs:List (List Msg)} {N k:Nat} {f:Fs},goR cp br p n rs N K=true->(br=true->k+rs.length<=7)->Rep cp br p n k f N->∃ h N',K N' = true/\Rep cp br p n (k+rs.length) h N' /\ Run f (grpF k rs) h/\(∀ i (hi:i<(grpF k rs).length), ∀ x∈(grpF k rs)[i],x.rd=((k+i:Nat):Int))/\(∀ S∈grpF k rs,S.Pairwise Fit)/\∀ S∈grpF k rs, ∀ x∈S,StOk p n x
 | [],N,k,f,h,_,hr=>⟨f,N,h,hr, .nil f,fun i hi=>by simp[grpF] at hi,fun S hS=>by simp[grpF] at hS,fun S hS=>by simp[grpF] at hS⟩
 | ms::rs,N,k,f,h,hb,hr=>by
   rw[goR] at h;obtain ⟨M',U',S',G',a,b,c,d⟩:=goM_ok (k:=(k:Int)) (D := []) hp64 h ⟨fun x hx=>(by cases hx),fun _ _=>rfl, .nil⟩ (fun x hx=>by cases hx) (fun x hx=>by cases hx);rw[List.nil_append] at b c d;obtain ⟨r1,r2,r3,r4⟩:=round_ok hp64 (fun e=>by have:=hb e;rw[List.length_cons] at this;omega) hr b c d;obtain ⟨h',N',e1,e2,e3,e4,e5,e6⟩:=goR_ok hp64 (k:=k+1) a (fun e=>by have:=hb e;rw[List.length_cons] at this;omega) r2;refine⟨h',N',e1,by rw[List.length_cons,show k+(rs.length+1)=k+1+rs.length by omega];exact e2, .cons r1 e3,fun i hi x hx=>?_,fun S hS=>?_,fun S hS=>?_⟩
   ·cases i with
    | zero=>exact d x (by simpa [grpF] using hx)
    | succ i =>
      have:=e4 i (by simpa [grpF] using hi) x (by simpa [grpF] using hx);rw[this];congr 1;omega
   ·rcases List.mem_cons.1 hS with rfl | hS
    ·exact r3
    ·exact e5 S hS
   ·rcases List.mem_cons.1 hS with rfl | hS
    ·exact r4
    ·exact e6 S hS
end Go.Af.Tryz
namespace Go.Af.Tryz
open Go Go.Proofs
open Go.Af.Coll (St)

def inF (t:Tk):Fs:=fun r s=>if 0<=r/\r<t.pr/\s∈fstF t r then [(r,s)] else []
def Qg (t:Tk) (a:Int):Int :=
 if t.op=11 then 2*(t.sz.length:Int)
 else if a=3/\t.pr=1 then 0
 else if a=3 then t.pa+t.pr-2
 else if a=4 then lgF t.pr+t.pr
 else if a=1\/a=7\/a=9\/a=10 then 2*t.pr
 else 2*lgF t.pr+2
structure Gd (t:Tk) (n:Int) (rs:List (List Msg)) (h:Fs):Prop where
 ok:RsOk t.pr n (grpF 0 rs)
 run:Run (inF t) (grpF 0 rs) h
 fin : ∀ r:Nat,(r:Int)<t.pr->∀ w∈finF t r,hasF t w (h r w.s)=true
def cd0 (cp:Bool) (n r s:Nat):Nat:=nB cp (2 ^ r) (r*n+s+1)
def iniN (cp:Bool) (n:Nat) (t:Tk) (p:Nat):Nat:=(List.range p).foldl (fun (N:Nat) (r:Nat)=>(fstF t (r:Int)).foldl (fun (N:Nat) (s:Int)=>sC N (r*n+s.toNat) (cd0 cp n r s.toNat)) N) 0
def okI (cp:Bool) (n:Nat) (t:Tk) (p N:Nat):Bool:=(List.range p).all fun (r:Nat)=>(List.range n).all fun (s:Nat)=>Nat.beq (gC N (r*n+s)) (nB ((fstF t (r:Int)).contains (s:Int)) 0 (cd0 cp n r s))
def fnW (cp:Bool) (n r N:Nat) (w:Fi):Bool:=nI w.s fun s=>iB (Nat.blt s n) (bB cp (nI w.u fun u=>Nat.beq (gC N (r*n+s)) (2 ^ (u+1)-1)) (iB (decide (w.u<0)) (nI w.r fun r' => nI w.f fun f' => iB (Nat.blt f' n) (Nat.beq (gC N (r*n+s)) (r' * n+f' + 1)))))
def ckB (cp br:Bool) (t:Tk) (a:Int) (p n:Nat):Bool :=
 iB (bB br true (Nat.ble (qZ t a).length 7)) (iB (decide (((qZ t a).length:Int)<=Qg t a)) (iB (Nat.ble (qZ t a).length 256) (fC (iniN cp n t p) fun N0=>iB (okI cp n t p N0) (goR cp br p n (qZ t a) N0 fun N=>(List.range p).all fun (r:Nat)=>(finF t (r:Int)).all (fnW cp n r N)))))
theorem Xb : ∀ {q:List Nat} (r:Nat),q.Nodup->q.countP (fun x:Nat=>decide ((x:Int)=(r:Int)))=if r∈q then 1 else 0
 | [],r,_=>by simp
 | x::q,r,h=>by
   have h' := List.nodup_cons.1 h;rw[List.countP_cons,Xb r h'.2];by_cases e:x=r
   ·subst e
    rw[if_neg h'.1];simp
   ·have e2 : ¬ ((x:Int)=(r:Int)):=by omega
    have e3 : ¬ r=x:=fun h=>e h.symm
    simp[e2,e3]
theorem cnt_map (q:List Nat) (s:Int) (r:Nat):cntL (q.map (fun x:Nat=>((x:Int),s))) (r:Int)=((q.countP (fun x:Nat=>decide ((x:Int)=(r:Int))):Nat):Int):=by
 unfold cntL;rw[List.countP_map];rfl
theorem has_join {cp br:Bool} {t:Tk} {p n k c u:Nat} {w:Fi} {l:List Og} (hp:t.pr=p) (hb:br=true->t.op=10) (hc:cp=false) (h:Cd cp br p n k w.s l c) (hu:w.u=(u:Int)) (hcu:c=2 ^ (u+1)-1):hasF t w l=true:=by
 subst hc;obtain ⟨q,rfl,hn,_,hr,hq⟩:=h;unfold hasF;rw[if_neg (by omega),Bool.and_eq_true];refine⟨by simp, ?_⟩;rw[List.all_eq_true];intro r hr';have hrp:=List.mem_range.1 hr';rw[cnt_map];have hm:r∈q↔r<u+1:=by rw[hq,hcu,Nat.testBit_two_pow_sub_one,decide_eq_true_eq]
 have hpos:0<q.countP (fun x:Nat=>decide ((x:Int)=(r:Int)))↔r∈q:=by
  rw[List.countP_pos_iff];constructor
  ·rintro ⟨x,hx,e⟩
   have:x=r:=by have:=of_decide_eq_true e;omega
   exact this ▸ hx
  ·exact fun h=>⟨r,h,by simp⟩
 unfold badK;rw[Bool.not_eq_true',decide_eq_false_iff_not,hu]
 cases br with
 | true =>
   have:=hb rfl;have:=hpos.trans hm;omega
 | false =>
   have:=Xb r (hn rfl);by_cases e:r∈q
   ·rw[if_pos e] at this
    have:=hm.1 e;omega
   ·rw[if_neg e] at this
    have : ¬ r<u+1:=fun h=>e (hm.2 h)
    omega
theorem has_copy {cp br:Bool} {t:Tk} {p n k c r f:Nat} {w:Fi} {l:List Og} (hc:cp=true) (h:Cd cp br p n k w.s l c) (hu:w.u<0) (hr:w.r=(r:Int)) (hf:w.f=(f:Int)) (hfn:f<n) (hcu:c=r*n+f+1):hasF t w l=true:=by
 subst hc;unfold hasF;rw[if_pos hu];rcases h with ⟨h,_⟩ | ⟨r',f',h1,h2,rfl⟩
 ·omega
 ·have:=pl_inj (show r' * n+f' = r*n+f by omega) h1 hfn
  rw[hr,hf,this.1,this.2];simp
theorem qB {n:Nat} {P:Nat->Bool} (h:(List.range n).all P=true) {i:Nat} (hi:i<n):P i=true:=List.all_eq_true.1 h i (List.mem_range.2 hi)
theorem YL {cp br:Bool} {t:Tk} {a:Int} {p n:Nat} (hp:t.pr=p) (hp64:p<=64) (hb:br=true->t.op=10) (h:ckB cp br t a p n=true):(∃ g,Gd t n (qZ t a) g)/\((qZ t a).length:Int)<=Qg t a:=by
 unfold ckB at h;obtain ⟨h1,h⟩:=iB_t h;obtain ⟨h2,h⟩:=iB_t h;obtain ⟨h3,h⟩:=iB_t h;rw[XQ] at h;obtain ⟨h4,h⟩:=iB_t h;refine⟨?_,of_decide_eq_true h2⟩;have hlen:=Nat.le_of_ble_eq_true h3;obtain ⟨N0,hN0⟩ : ∃ N0,iniN cp n t p=N0:=⟨_,rfl⟩;rw[hN0] at h4 h
 have hrep:Rep cp br p n 0 (inF t) N0:=fun r s hr hs=>by
  have:=qB (qB h4 hr) hs;have e:=Nat.eq_of_beq_eq_true this;rw[e];by_cases hm:((s:Int))∈fstF t (r:Int)
  ·have hin:inF t r s = [((r:Int),(s:Int))]:=by
    unfold inF;rw[if_pos (by refine⟨by omega,by omega,hm⟩)]
   rw[hin,show (fstF t (r:Int)).contains (s:Int)=true from List.contains_iff_mem.2 hm];unfold Cd
   cases cp with
   | true=>rw[if_pos rfl];exact .inr ⟨r,s,hs,rfl,rfl⟩
   | false =>
     rw[if_neg (by simp)];refine⟨[r],rfl,fun _=>by simp,fun _=>by simp,fun x hx=>by rcases List.mem_singleton.1 hx with rfl;exact hr,fun x=>?_⟩;show x∈[r]↔(2 ^ r).testBit x=true;rw[Nat.testBit_two_pow,decide_eq_true_eq,List.mem_singleton];exact⟨fun h=>h.symm,fun h=>h.symm⟩
  ·have hin:inF t r s = []:=by
    unfold inF;rw[if_neg (fun h=>hm h.2.2)]
   rw[hin,show (fstF t (r:Int)).contains (s:Int)=false from by
    cases hc:(fstF t (r:Int)).contains (s:Int) with
    | false=>rfl
    | true=>exact absurd (List.contains_iff_mem.1 hc) hm]
   unfold Cd
   cases cp with
   | true=>rw[if_pos rfl];exact .inl ⟨rfl,rfl⟩
   | false =>
     rw[if_neg (by simp)];exact⟨[],rfl,fun _=>.nil,fun _=>by simp,fun x hx=>(by cases hx),fun x=>by simp[nB]⟩
 obtain ⟨g,N',e1,e2,e3,e4,e5,e6⟩:=goR_ok (k:=0) hp64 h (fun e=>by
  subst e;have:=Nat.le_of_ble_eq_true (show Nat.ble (qZ t a).length 7=true from h1)
  omega) hrep
 refine⟨g,⟨?_,e3,fun r hr w hw=>?_⟩⟩
 ·rw[hp]
  exact⟨by rw[xm];exact hlen,fun i hi x hx=>by have:=e4 i hi x hx;rw[this];omega,e5,e6⟩
 ·have hrp:r<p:=by omega
  have hw' := List.all_eq_true.1 (qB e1 hrp) w hw;unfold fnW at hw';obtain ⟨s,es,hw'⟩:=nI_t hw';obtain ⟨hs,hw'⟩:=iB_t hw';have hs:=Nat.blt_eq.mp hs;have hcd:=e2 r s hrp hs;rw[<- es] at hcd
  cases cp with
  | false =>
    obtain ⟨u,eu,hw'⟩:=nI_t (show nI w.u _=true from hw');exact has_join hp hb rfl hcd eu (Nat.eq_of_beq_eq_true hw')
  | true =>
    obtain ⟨hu,hw'⟩:=iB_t (show iB _ _=true from hw');obtain ⟨r',er,hw'⟩:=nI_t hw';obtain ⟨f',ef,hw'⟩:=nI_t hw';obtain ⟨hf,hw'⟩:=iB_t hw';exact has_copy rfl hcd (of_decide_eq_true hu) er ef (Nat.blt_eq.mp hf) (Nat.eq_of_beq_eq_true hw')
end Go.Af.Tryz
