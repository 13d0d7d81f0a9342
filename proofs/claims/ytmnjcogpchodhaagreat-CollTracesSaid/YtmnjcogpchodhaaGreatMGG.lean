/-
  The slots that a process must have in the end.
  The slots that a process must have in the end: the reference.
-/
import Derived.Test.YtmnjcogpchodhaaGreatMGF
set_option linter.all false
namespace Go.Af.Tryz
open Go Go.Proofs
set_option maxRecDepth 100000
set_option maxHeartbeats 4000000
attribute [local irreducible] awp qC vK vS vH qJ isCells qy qp qW qN qw roundEnd

instance:Inhabited Fi:=⟨⟨0,0,0,0⟩⟩
theorem fisC_get : ∀ (l:List Fi) (i k:Nat),i<l.length->k<4->(fisC l)[4*i+k]? = (fiC l[i]!)[k]?
 | [],i,k,hi,hk=>by simp at hi
 | s::r,0,k,hi,hk=>by
   show (fiC s++fisC r)[4*0+k]? = _
   rw[List.getElem?_append_left (by simp;omega)]
   simp
 | s::r,i+1,k,hi,hk=>by
   show (fiC s++fisC r)[4*(i+1)+k]? = _
   rw[List.getElem?_append_right (by simp;omega)]
   have e:4*(i+1)+k-(fiC s).length=4*i+k:=by simp;omega
   rw[e,fisC_get r i k (by simpa using hi) hk]
   simp
theorem Ld_fi {l:List Fi} {i k:Nat} {v:Value} {K:Value->Prop} (hi:i<l.length) (hk:k<4) (hv:(fiC l[i]!)[k]? = some v) (h:K v):Ld (fisC l) (0+i*4+k) K :=
 ⟨v,by rw[show 0+i*4+k=4*i+k by omega,fisC_get l i k hi hk,hv],h⟩
theorem seg_fi {l:List Fi} {i:Nat} {K:List Value->Prop} (hi:i<l.length) (h:K (fiC l[i]!)):segK (fisC l) (0+i*4) 4 K :=
 Ld_fi (k:=0) hi (by decide) rfl (Ld_fi (k:=1) hi (by decide) rfl (Ld_fi (k:=2) hi (by decide) rfl (Ld_fi (k:=3) hi (by decide) rfl h)))
theorem hal_len {t:Tk} (kt:TkOk t) (r:Int):(finF t r).length<=10000:=by
 have ha:(spnF t 0 (blkF t)).length<=10000:=by
  have:=wC kt
  rw[wW];omega
 have ho:(spnF t r (r+1)).length<=10000:=by
  have:=kt.pa
  rw[wW,Int.add_mul];omega
 have h8:(spnF t t.pr (2*t.pr)).length<=10000:=by
  have:=kt.pr
  have:=kt.pa
  have:=zL kt (g:=2*t.pr) (by omega) (by omega)
  have:=zL kt (g:=t.pr) (by omega) (by omega)
  have q:2*t.pr*t.pa<=128*16:=Int.mul_le_mul (by omega) kt.pa.2 (by omega) (by omega)
  rw[wW];omega
 have h11:=fun e11:t.op=11=>hal_le kt r (d:=t.sz.length) (e:=0) (kt.dims e11) (by omega) 0
 simp only[List.length_append] at h11
 unfold finF
 repeat' split
 all_goals first
  | (rw[cpL_len];assumption)
  | (rw[jnL_len];assumption)
  | omega
  | simp
def finS (t:Tk) (r:Int):List Int:=if isF t r=0 then (finF t r).map Fi.s else []
end Go.Af.Tryz
namespace Go.Af.Tryz
open Go Go.Proofs
set_option maxRecDepth 100000
set_option maxHeartbeats 4000000
attribute [local irreducible] awp qC vK vS vH qJ isCells qy qp qW qN qw roundEnd

section
variable {H0 H H' : List Blk} {o:Nat->Prop} {L:List (Bool × Nat × Blk)}
theorem appm_hs (h:HS H0 o L H) (i:Nat) {size bytes b n m j c2 z:Nat} {wr:Bool} {xs us:List Value} {K:Value->List Blk->Prop} (hi:L[i]? = some (true,b, .cells true size xs)) (hsz:0<size) (hj:bget H j=some (.cells wr z us)) (hm:0<m) (hul:us.length=m*size) (hone:us.all vW=true)
 (hxl:xs.length=n*size) (hby:(n+m)*(bytes+1)<=70368744177664)
 (k : ∀ (H' : List Blk) (b' : Nat),b' = H.length->H'.length=b' + 1->HS H0 o (L.set i (true,b', .cells true size (xs++us))) H' -> K (.slice (some ⟨b',0,none⟩) (n+m) (n+m)) H') :
 qW H size bytes (.slice (some ⟨b,0,none⟩) n n) (.slice (some ⟨j,0,none⟩) m c2) K:=by
 unfold qW
 refine⟨hsz, ?_⟩
 simp only[appSrc,hj]
 refine⟨.inr (by omega),us,by rw[List.drop_zero,List.take_of_length_le (by omega)],hone, ?_⟩
 refine .inr ⟨hm, ?_⟩
 have hb:=h.get i hi
 have hbl:=zn hb
 simp only[hb]
 refine⟨trivial, .inr ⟨by omega,hby, .inr (by omega),_,rfl, ?_⟩⟩
 have e:List.take (n*size) (List.drop 0 xs)++us=xs++us:=by rw[List.drop_zero,List.take_of_length_le (by omega)]
 rw[e]
 refine xk hbl fun H1 h1 h2 h3=>newS_of fun H' k1 k2 k3=>?_
 rw[h1] at k1 k2 k3 ⊢
 refine k H' H.length rfl k1 ?_
 have hd:=h.set (B' := .dead) i hi h1 h2 h3
 have hn:=hd.new (B := .cells true size (xs++us)) (by rw[k1,h1]) (by rw[h1];exact k2) (by rw[h1];exact k3)
 rw[h1] at hn
 have hlt:i<L.length:=(List.getElem?_eq_some_iff.1 hi).1
 refine⟨fun {p c d D} hp=>?_,fun {p q x y} hp hq he=>?_,hn.u⟩
 ·by_cases hip:i=p
  ·subst hip
   rw[List.getElem?_set_self hlt] at hp
   simp at hp
   obtain ⟨rfl,rfl,rfl⟩:=hp
   exact⟨k2,fun _=>.inr h.le⟩
  ·rw[List.getElem?_set_ne hip] at hp
   exact hn.g (i:=p+1) (by simp[List.getElem?_set_ne hip,hp])
 ·have old : ∀ {p:Nat} {x:Bool × Nat × Blk},p≠i->(L.set i (true,H.length, .cells true size (xs++us)))[p]? = some x->L[p]? = some x:=fun {p x} hpi hp=>by
   rw[List.getElem?_set_ne (fun e=>hpi e.symm)] at hp;exact hp
  have self : ∀ {x:Bool × Nat × Blk},(L.set i (true,H.length, .cells true size (xs++us)))[i]? = some x->x.2.1=H.length:=fun {x} hp=>by
   rw[List.getElem?_set_self hlt] at hp;cases hp;rfl
  have low : ∀ {p:Nat} {x:Bool × Nat × Blk},L[p]? = some x->x.2.1<H.length:=fun {p x} hp=>by
   obtain ⟨c,b',B'⟩:=x
   exact zn (h.g hp).1
  by_cases hpi:p=i
  ·by_cases hqi:q=i
   ·rw[hpi,hqi]
   ·subst hpi
    have:=low (old hqi hq)
    rw[<- he,self hp] at this
    omega
  ·by_cases hqi:q=i
   ·subst hqi
    have:=low (old hpi hp)
    rw[he,self hq] at this
    omega
   ·exact h.nd (old hpi hp) (old hqi hq) he
end
theorem ints_one (xs:List Int):(ints xs).all vW=true:=by
 rw[List.all_eq_true]
 intro v hv
 obtain ⟨x,_,rfl⟩:=List.mem_map.1 hv
 rfl
theorem cpL_s (f g:Nat->Int) (xs:List Int):(cpL f g xs).map Fi.s=xs:=by
 apply List.ext_getElem
 ·simp[cpL]
 ·intro i h1 h2
  simp[cpL]
  rw[getElem?_pos xs i h2]
  rfl
theorem jnL_s (u:Int) (xs:List Int):(jnL u xs).map Fi.s=xs:=by
 apply List.ext_getElem
 ·simp[jnL]
 ·intro i h1 h2
  simp[jnL]
  rw[getElem?_pos xs i h2]
  rfl
def hvS (t:Tk) (r:Int) (d:Nat):List Int :=
 (if neF t r d true = -2 then [] else spnF t (1+2*d) (2+2*d))++(if neF t r d false = -2 then [] else spnF t (2+2*d) (3+2*d))
def finR (t:Tk) (r:Int):List Int :=
 if t.op=2\/t.op=5 then if r=t.ro then spnF t 0 (blkF t) else []
 else if t.op=6\/t.op=9 then spnF t r (r+1)
 else if t.op=8 then spnF t t.pr (2*t.pr)
 else if t.op=11 then (List.range t.sz.length).flatMap (hvS t r)
 else spnF t 0 (blkF t)
theorem hal_s (t:Tk) (r:Int) (d:Nat):(halF t r d).map Fi.s=hvS t r d:=by
 have e : ∀ e:Nat,(hvL t r d e).map Fi.s=if neF t r d (decide (e=0)) = -2 then [] else spnF t (1+2*d+e) (2+2*d+e):=fun e=>by
  unfold hvL
  split
  ·rfl
  ·rw[cpL_s]
 have:halF t r d=hvL t r d 0++hvL t r d 1:=by
  unfold halF
  rw[show List.range 2 = [0,1] from rfl]
  simp
 rw[this,List.map_append,e 0,e 1]
 unfold hvS
 rw[show (1+2*(d:Int)+((0:Nat):Int))=1+2*d by omega,show (2+2*(d:Int)+((0:Nat):Int))=2+2*d by omega,
  show (1+2*(d:Int)+((1:Nat):Int))=2+2*d by omega,show (2+2*(d:Int)+((1:Nat):Int))=3+2*d by omega]
 rfl
theorem fin_s {t:Tk} (kt:TkOk t) (r:Int):(finF t r).map Fi.s=finR t r:=by
 have hop:=kt.op
 have:t.op=1\/t.op=2\/t.op=3\/t.op=4\/t.op=5\/t.op=6\/t.op=7\/t.op=8\/t.op=9\/t.op=10\/t.op=11:=by omega
 unfold finF finR
 by_cases hr:r=t.ro
 all_goals rcases this with e | e | e | e | e | e | e | e | e | e | e
 all_goals (repeat (first | rw[if_pos (by omega)] | rw[if_neg (by omega)]))
 all_goals first
  | rw[cpL_s]
  | rw[jnL_s]
  | rfl
  | (rw[List.map_flatMap]
     congr 1
     funext d
     exact hal_s t r d)
theorem hvS_le {t:Tk} (kt:TkOk t) (r:Int) (d:Nat):(hvS t r d).length<=32:=by
 have hp:=kt.pa
 have q1:(2+2*(d:Int))*t.pa=(1+2*d)*t.pa+t.pa:=by
  rw[show (2+2*(d:Int))=(1+2*d)+1 by omega,Int.add_mul,Int.one_mul]
 have q2:(3+2*(d:Int))*t.pa=(2+2*d)*t.pa+t.pa:=by
  rw[show (3+2*(d:Int))=(2+2*d)+1 by omega,Int.add_mul,Int.one_mul]
 have a:(spnF t (1+2*d) (2+2*d)).length<=16:=by rw[wW,q1];omega
 have b:(spnF t (2+2*d) (3+2*d)).length<=16:=by rw[wW,q2];omega
 unfold hvS
 rw[List.length_append]
 split <;> split <;> ((try simp only[List.length_nil]);omega)
theorem flatS_le {t:Tk} (kt:TkOk t) (r:Int) : ∀ d:Nat,((List.range d).flatMap (hvS t r)).length<=d*32
 | 0=>by simp
 | d+1=>by
   have:=flatS_le kt r d
   have:=hvS_le kt r d
   rw[List.range_succ,List.flatMap_append,List.length_append]
   simp only[List.flatMap_cons,List.flatMap_nil,List.append_nil]
   omega
theorem spn_pos {t:Tk} (kt:TkOk t) (f:Int):(spnF t f (f+1)).length=t.pa.toNat/\0<t.pa.toNat:=by
 have hp:=kt.pa
 rw[wW,Int.add_mul,Int.one_mul]
 omega
theorem c40 {H:List Blk} {t:Tk} {r:Int} {b c:Nat} {R:Value->List Blk->Prop} (g:Gr H t.sz b) (gw:Gw H t.ws b c) (hl:t.sz.length<=10) (hw:t.ws.length<=10) (h : ∀ H' k,HS H none' [(true,k,rw' (finS t r))] H' -> R (.tuple ⟨[sv k (finS t r).length, .int .i64 (isF t r)]⟩) H'):qC Tryz.prog 40 [tkV t b c, .int .i64 r] H R:=by
 refine acall_weak ?_
 refine ql tok Tryz.call40 Tryz.func40 rfl Tryz.ntmps40 rfl (by simp) ?_
 refine qm (HS.start H none') (fun H1 b1 e1 l1 hs=>?_)
 refine qo (fun _ hKs=>hKs _ _ ?_);clear hKs
 clear e1 l1
 repeat' (first|refine nX ?_|refine nY (fun K0 hK0=>?_)|refine bH ?_|refine bM ?_|refine iS hs ?_|refine rS hs ?_|refine eI _ (aI rfl ?_)|refine qg ?_|refine qf ?_|refine qc ?_|refine oJ ?_|refine nN hs (fun _ _ hs=>?_)|refine nS hs (fun _ _ hs=>?_)|refine sX hs (fun _ hs=>?_)|(refine hK0 _ _ ?_;clear hK0)|fail)
 refine c93 (g.up (qh hs)) hl hw (fun H2 hn=>?_)
 have hs:=qA hs hn
 clear hn
 unfold finS at h
 by_cases h0:isF t r=0
 ·obtain ⟨kt,hr⟩:=is_ok h0
  have hb:=wC kt
  have hpr:=kt.pr
  have hpa:=kt.pa
  have hop:=kt.op
  have hdm:=kt.dims
  rw[if_pos h0,fin_s kt] at h
  unfold finR at h
  rw[h0] at h ⊢
  repeat' (first|refine nX ?_|refine nY (fun K0 hK0=>?_)|refine bH ?_|refine bM ?_|refine iS hs ?_|refine rS hs ?_|refine eI _ (aI rfl ?_)|refine qg ?_|refine qf ?_|refine qc ?_|refine oJ ?_|refine nN hs (fun _ _ hs=>?_)|refine nS hs (fun _ _ hs=>?_)|refine sX hs (fun _ hs=>?_)|(refine dI (fun hc=>?_) (fun hc=>?_) <;> try (exfalso;omega))|(refine hK0 _ _ ?_;clear hK0)|fail)
  all_goals try (
   refine c94 (by omega) (by omega) (zL kt (by omega) (by omega)) (by omega) (fun H2 j hn=>?_)
   have hs:=hs.call hn rfl
   clear hn
   (repeat (first | rw[if_pos (by omega)] at h | rw[if_neg (by omega)] at h))
   repeat' (first|refine nX ?_|refine nY (fun K0 hK0=>?_)|refine bH ?_|refine bM ?_|refine iS hs ?_|refine rS hs ?_|refine eI _ (aI rfl ?_)|refine qg ?_|refine qf ?_|refine qc ?_|refine oJ ?_|refine nN hs (fun _ _ hs=>?_)|refine nS hs (fun _ _ hs=>?_)|refine sX hs (fun _ hs=>?_)|(refine hK0 _ _ ?_;clear hK0)|fail)
   exact⟨_,_, .rfl, .rfl,h _ j (hs.pick [0] (by decide) rfl)⟩)
  all_goals try (
   rw[if_pos (by omega),if_neg (by omega)] at h
   have hv:=hs.virt (rw' [])
   exact⟨.tuple ⟨[sv H2.length 0, .int .i64 0]⟩,H2 ++ [rw' []], .nil2 _ _,WkH.rfl.app _,h _ _ (hv.pick [0] (by decide) rfl)⟩)
  all_goals try (
   (repeat (first | rw[if_pos (by omega)] at h | rw[if_neg (by omega)] at h))
   first
    | refine qL tok mx [0,0,2,7,15,31] [true,false,false,false,false,false] (.first 1 (.alt 0 (.first 2 (.first 3 (.first 4 (.first 5 .done)))) (.alt 2 (.first 0 (.first 3 (.first 4 (.first 5 .done)))) .no))) (by kernel_rfl) ?_
    | refine qL tok mx [0,0,2,7,15,31] [true,false,false,false,false,false] (.first 1 (.alt 0 (.first 2 (.first 3 (.first 4 (.first 5 .done)))) (.alt 2 (.first 0 (.first 3 (.first 4 (.first 5 .done)))) .no))) (by kernel_rfl) ?_
   refine qP (fun K0 hK0=>?_)
   repeat' (first|refine nX ?_|refine nY (fun K0 hK0=>?_)|refine bH ?_|refine bM ?_|refine iS hs ?_|refine rS hs ?_|refine eI _ (aI rfl ?_)|refine qg ?_|refine qf ?_|refine qc ?_|refine oJ ?_|refine nN hs (fun _ _ hs=>?_)|refine nS hs (fun _ _ hs=>?_)|refine sX hs (fun _ hs=>?_)|(refine hK0 _ _ ?_;clear hK0)|fail)
   refine And.intro ?_ (And.intro ?_ trivial)
   all_goals (
    repeat' (first|refine nX ?_|refine nY (fun K0 hK0=>?_)|refine bH ?_|refine bM ?_|refine iS hs ?_|refine rS hs ?_|refine eI _ (aI rfl ?_)|refine qg ?_|refine qf ?_|refine qc ?_|refine oJ ?_|refine nN hs (fun _ _ hs=>?_)|refine nS hs (fun _ _ hs=>?_)|refine sX hs (fun _ hs=>?_)|(refine hK0 _ _ ?_;clear hK0)|fail)
    refine c88 (by omega) hpr (fun H3 hn=>?_)
    have hs:=qA hs hn
    clear hn
    repeat' (first|refine nX ?_|refine nY (fun K0 hK0=>?_)|refine bH ?_|refine bM ?_|refine iS hs ?_|refine rS hs ?_|refine eI _ (aI rfl ?_)|refine qg ?_|refine qf ?_|refine qc ?_|refine oJ ?_|refine nN hs (fun _ _ hs=>?_)|refine nS hs (fun _ _ hs=>?_)|refine sX hs (fun _ hs=>?_)|(refine hK0 _ _ ?_;clear hK0)|fail)
    refine c94 (by omega) (by omega) (zL kt (by omega) (by omega)) (by omega) (fun H2 j hn=>?_)
    have hs:=hs.call hn rfl
    clear hn
    repeat' (first|refine nX ?_|refine nY (fun K0 hK0=>?_)|refine bH ?_|refine bM ?_|refine iS hs ?_|refine rS hs ?_|refine eI _ (aI rfl ?_)|refine qg ?_|refine qf ?_|refine qc ?_|refine oJ ?_|refine nN hs (fun _ _ hs=>?_)|refine nS hs (fun _ _ hs=>?_)|refine sX hs (fun _ hs=>?_)|(refine hK0 _ _ ?_;clear hK0)|fail)
    exact⟨_,_, .rfl, .rfl,h _ j (hs.pick [0] (by decide) rfl)⟩))
  ·skip
   (repeat (first | rw[if_pos (by omega)] at h | rw[if_neg (by omega)] at h))
   have hop' : t.op=11:=by omega
   have hc0:crdE t.sz t.ws.length r=0:=by
    have:=kt.halo hop'
    unfold crdE
    rw[this,if_neg (by omega),if_neg (by omega)]
   have hfl:=flatS_le kt r
   refine zx (α := List Blk × Nat × Nat) tok (fun z=>HS H none' [(true,z.2.1,rw' ((List.range z.2.2).flatMap (hvS t r))),(true,b1, .cells true 1 (tkC t b c))] z.1/\z.2.2<=t.sz.length)
    (fun | ⟨_,k',d⟩=>[(1, .int .i64 r),(2, .pointer (some ⟨b1,0,none⟩)),(7,sv k' ((List.range d).flatMap (hvS t r)).length),(8, .int .i64 d)]) (fun | ⟨H',_,_⟩=>H') (fun z=>t.sz.length-z.2.2)
    ⟨H2 ++ [rw' []],H2.length,0⟩ ⟨(hs.virt _).pick [0,1] (by decide) rfl,Nat.zero_le _⟩ ⟨⟨_,rfl, .rfl⟩,⟨_,rfl, .rfl⟩,⟨_,rfl, .nil _⟩,⟨_,rfl, .rfl⟩,trivial⟩ (WkH.rfl.app _) ?_
   clear hs
   rintro ⟨H5,k',d⟩ ⟨hs,hd⟩
   dsimp only at hs hd ⊢
   repeat' (first|refine nX ?_|refine nY (fun K0 hK0=>?_)|refine bH ?_|refine bM ?_|refine iS hs ?_|refine rS hs ?_|refine eI _ (aI rfl ?_)|refine qg ?_|refine qf ?_|refine qc ?_|refine oJ ?_|refine nN hs (fun _ _ hs=>?_)|refine nS hs (fun _ _ hs=>?_)|refine sX hs (fun _ hs=>?_)|(refine hK0 _ _ ?_;clear hK0)|fail)
   refine And.intro (fun hc=>?_) (fun hc=>?_)
   ·have hlt:d<t.sz.length:=by simp at hc;omega
    clear hc
    have hfd:=hfl d
    have hp1:=spn_pos kt (1+2*d)
    have hp2:=spn_pos kt (2+2*d)
    rw[show (1+2*(d:Int))+1=2+2*d by omega] at hp1
    rw[show (2+2*(d:Int))+1=3+2*d by omega] at hp2
    have et:(List.range (d+1)).flatMap (hvS t r)=(List.range d).flatMap (hvS t r)++((if neF t r d true = -2 then [] else spnF t (1+2*d) (2+2*d))++(if neF t r d false = -2 then [] else spnF t (2+2*d) (3+2*d))):=by
     rw[List.range_succ,List.flatMap_append]
     simp only[List.flatMap_cons,List.flatMap_nil,List.append_nil]
     rfl
    repeat' (first|refine nX ?_|refine nY (fun K0 hK0=>?_)|refine bH ?_|refine bM ?_|refine iS hs ?_|refine rS hs ?_|refine eI _ (aI rfl ?_)|refine qg ?_|refine qf ?_|refine qc ?_|refine oJ ?_|refine nN hs (fun _ _ hs=>?_)|refine nS hs (fun _ _ hs=>?_)|refine sX hs (fun _ hs=>?_)|(refine hK0 _ _ ?_;clear hK0)|fail)
    refine c95 (g.up (qh hs)) (gw.up (qh hs)) hc0 hlt (fun H6 hn=>?_)
    have hs:=qA hs hn
    clear hn
    generalize neF t r d true=A at et ⊢
    generalize neF t r d false=B at et ⊢
    generalize hxs:(List.range d).flatMap (hvS t r)=xs at hs hfd et ⊢
    by_cases hA:A = -2
    ·rw[if_pos hA] at et
     by_cases hB:B = -2
     ·rw[if_pos hB] at et
      repeat' (first|refine nX ?_|refine nY (fun K0 hK0=>?_)|refine bH ?_|refine bM ?_|refine iS hs ?_|refine rS hs ?_|refine eI _ (aI rfl ?_)|refine qg ?_|refine qf ?_|refine qc ?_|refine oJ ?_|refine nN hs (fun _ _ hs=>?_)|refine nS hs (fun _ _ hs=>?_)|refine sX hs (fun _ hs=>?_)|(refine dI (fun hc=>?_) (fun hc=>?_) <;> try (exfalso;omega))|(refine hK0 _ _ ?_;clear hK0)|fail)
      simp only[List.nil_append,List.append_nil,<- List.append_assoc] at et
      have el:((List.range (d+1)).flatMap (hvS t r)).length=xs.length:=by
       rw[et]
       try simp only[List.length_append]
      refine⟨⟨_,k',d+1⟩,⟨?_,hlt⟩,by dsimp only;omega,Or.inl ⟨⟨rfl,rfl, ?_,rfl,trivial⟩,rfl⟩⟩
      ·dsimp only
       rw[et]
       exact hs
      ·dsimp only
       rw[el]
       rfl
     ·rw[if_neg hB] at et
      repeat' (first|refine nX ?_|refine nY (fun K0 hK0=>?_)|refine bH ?_|refine bM ?_|refine iS hs ?_|refine rS hs ?_|refine eI _ (aI rfl ?_)|refine qg ?_|refine qf ?_|refine qc ?_|refine oJ ?_|refine nN hs (fun _ _ hs=>?_)|refine nS hs (fun _ _ hs=>?_)|refine sX hs (fun _ hs=>?_)|(refine dI (fun hc=>?_) (fun hc=>?_) <;> try (exfalso;omega))|(refine hK0 _ _ ?_;clear hK0)|fail)
      refine c94 (by omega) (by omega) (zL kt (by omega) (by omega)) (by omega) (fun H8 j hn=>?_)
      have hs:=hs.call hn rfl
      clear hn
      repeat' (first|refine nX ?_|refine nY (fun K0 hK0=>?_)|refine bH ?_|refine bM ?_|refine iS hs ?_|refine rS hs ?_|refine eI _ (aI rfl ?_)|refine qg ?_|refine qf ?_|refine qc ?_|refine oJ ?_|refine nN hs (fun _ _ hs=>?_)|refine nS hs (fun _ _ hs=>?_)|refine sX hs (fun _ hs=>?_)|(refine hK0 _ _ ?_;clear hK0)|fail)
      refine appm_hs hs 1 (us:=ints (spnF t (2+2*d) (3+2*d))) rfl (by decide) (hs.get 0 rfl) (by omega) (by rw[qX,Nat.mul_one]) (ints_one _) (by first | (rw[qX,Nat.mul_one];done) | (rw[qX,List.length_append,Nat.mul_one];done)) (by show (_+_)*(8+1)<=_;omega) (fun H9 k8 e9 l9 hs=>?_)
      clear e9 l9
      have hs:=hs.pick [1,2] (by decide) rfl (L' := [(true,k8, .cells true 1 (ints xs++ints (spnF t (2+2*d) (3+2*d)))),(true,b1, .cells true 1 (tkC t b c))])
      rw[<- zZ] at hs
      repeat' (first|refine nX ?_|refine nY (fun K0 hK0=>?_)|refine bH ?_|refine bM ?_|refine iS hs ?_|refine rS hs ?_|refine eI _ (aI rfl ?_)|refine qg ?_|refine qf ?_|refine qc ?_|refine oJ ?_|refine nN hs (fun _ _ hs=>?_)|refine nS hs (fun _ _ hs=>?_)|refine sX hs (fun _ hs=>?_)|(refine hK0 _ _ ?_;clear hK0)|fail)
      simp only[List.nil_append,List.append_nil,<- List.append_assoc] at et
      have el:((List.range (d+1)).flatMap (hvS t r)).length=xs.length+(spnF t (2+2*d) (3+2*d)).length:=by
       rw[et]
       try simp only[List.length_append]
      refine⟨⟨_,k8,d+1⟩,⟨?_,hlt⟩,by dsimp only;omega,Or.inl ⟨⟨rfl,rfl, ?_,rfl,trivial⟩,rfl⟩⟩
      ·dsimp only
       rw[et]
       exact hs
      ·dsimp only
       rw[el]
       rfl
    ·rw[if_neg hA] at et
     by_cases hB:B = -2
     ·rw[if_pos hB] at et
      repeat' (first|refine nX ?_|refine nY (fun K0 hK0=>?_)|refine bH ?_|refine bM ?_|refine iS hs ?_|refine rS hs ?_|refine eI _ (aI rfl ?_)|refine qg ?_|refine qf ?_|refine qc ?_|refine oJ ?_|refine nN hs (fun _ _ hs=>?_)|refine nS hs (fun _ _ hs=>?_)|refine sX hs (fun _ hs=>?_)|(refine dI (fun hc=>?_) (fun hc=>?_) <;> try (exfalso;omega))|(refine hK0 _ _ ?_;clear hK0)|fail)
      refine c94 (by omega) (by omega) (zL kt (by omega) (by omega)) (by omega) (fun H8 j hn=>?_)
      have hs:=hs.call hn rfl
      clear hn
      repeat' (first|refine nX ?_|refine nY (fun K0 hK0=>?_)|refine bH ?_|refine bM ?_|refine iS hs ?_|refine rS hs ?_|refine eI _ (aI rfl ?_)|refine qg ?_|refine qf ?_|refine qc ?_|refine oJ ?_|refine nN hs (fun _ _ hs=>?_)|refine nS hs (fun _ _ hs=>?_)|refine sX hs (fun _ hs=>?_)|(refine hK0 _ _ ?_;clear hK0)|fail)
      refine appm_hs hs 1 (us:=ints (spnF t (1+2*d) (2+2*d))) rfl (by decide) (hs.get 0 rfl) (by omega) (by rw[qX,Nat.mul_one]) (ints_one _) (by first | (rw[qX,Nat.mul_one];done) | (rw[qX,List.length_append,Nat.mul_one];done)) (by show (_+_)*(8+1)<=_;omega) (fun H9 k8 e9 l9 hs=>?_)
      clear e9 l9
      have hs:=hs.pick [1,2] (by decide) rfl (L' := [(true,k8, .cells true 1 (ints xs++ints (spnF t (1+2*d) (2+2*d)))),(true,b1, .cells true 1 (tkC t b c))])
      rw[<- zZ] at hs
      repeat' (first|refine nX ?_|refine nY (fun K0 hK0=>?_)|refine bH ?_|refine bM ?_|refine iS hs ?_|refine rS hs ?_|refine eI _ (aI rfl ?_)|refine qg ?_|refine qf ?_|refine qc ?_|refine oJ ?_|refine nN hs (fun _ _ hs=>?_)|refine nS hs (fun _ _ hs=>?_)|refine sX hs (fun _ hs=>?_)|(refine hK0 _ _ ?_;clear hK0)|fail)
      repeat' (first|refine nX ?_|refine nY (fun K0 hK0=>?_)|refine bH ?_|refine bM ?_|refine iS hs ?_|refine rS hs ?_|refine eI _ (aI rfl ?_)|refine qg ?_|refine qf ?_|refine qc ?_|refine oJ ?_|refine nN hs (fun _ _ hs=>?_)|refine nS hs (fun _ _ hs=>?_)|refine sX hs (fun _ hs=>?_)|(refine dI (fun hc=>?_) (fun hc=>?_) <;> try (exfalso;omega))|(refine hK0 _ _ ?_;clear hK0)|fail)
      simp only[List.nil_append,List.append_nil,<- List.append_assoc] at et
      have el:((List.range (d+1)).flatMap (hvS t r)).length=xs.length+(spnF t (1+2*d) (2+2*d)).length:=by
       rw[et]
       try simp only[List.length_append]
      refine⟨⟨_,k8,d+1⟩,⟨?_,hlt⟩,by dsimp only;omega,Or.inl ⟨⟨rfl,rfl, ?_,rfl,trivial⟩,rfl⟩⟩
      ·dsimp only
       rw[et]
       exact hs
      ·dsimp only
       rw[el]
       rfl
     ·rw[if_neg hB] at et
      repeat' (first|refine nX ?_|refine nY (fun K0 hK0=>?_)|refine bH ?_|refine bM ?_|refine iS hs ?_|refine rS hs ?_|refine eI _ (aI rfl ?_)|refine qg ?_|refine qf ?_|refine qc ?_|refine oJ ?_|refine nN hs (fun _ _ hs=>?_)|refine nS hs (fun _ _ hs=>?_)|refine sX hs (fun _ hs=>?_)|(refine dI (fun hc=>?_) (fun hc=>?_) <;> try (exfalso;omega))|(refine hK0 _ _ ?_;clear hK0)|fail)
      refine c94 (by omega) (by omega) (zL kt (by omega) (by omega)) (by omega) (fun H8 j hn=>?_)
      have hs:=hs.call hn rfl
      clear hn
      repeat' (first|refine nX ?_|refine nY (fun K0 hK0=>?_)|refine bH ?_|refine bM ?_|refine iS hs ?_|refine rS hs ?_|refine eI _ (aI rfl ?_)|refine qg ?_|refine qf ?_|refine qc ?_|refine oJ ?_|refine nN hs (fun _ _ hs=>?_)|refine nS hs (fun _ _ hs=>?_)|refine sX hs (fun _ hs=>?_)|(refine hK0 _ _ ?_;clear hK0)|fail)
      refine appm_hs hs 1 (us:=ints (spnF t (1+2*d) (2+2*d))) rfl (by decide) (hs.get 0 rfl) (by omega) (by rw[qX,Nat.mul_one]) (ints_one _) (by first | (rw[qX,Nat.mul_one];done) | (rw[qX,List.length_append,Nat.mul_one];done)) (by show (_+_)*(8+1)<=_;omega) (fun H9 k8 e9 l9 hs=>?_)
      clear e9 l9
      have hs:=hs.pick [1,2] (by decide) rfl (L' := [(true,k8, .cells true 1 (ints xs++ints (spnF t (1+2*d) (2+2*d)))),(true,b1, .cells true 1 (tkC t b c))])
      rw[<- zZ] at hs
      repeat' (first|refine nX ?_|refine nY (fun K0 hK0=>?_)|refine bH ?_|refine bM ?_|refine iS hs ?_|refine rS hs ?_|refine eI _ (aI rfl ?_)|refine qg ?_|refine qf ?_|refine qc ?_|refine oJ ?_|refine nN hs (fun _ _ hs=>?_)|refine nS hs (fun _ _ hs=>?_)|refine sX hs (fun _ hs=>?_)|(refine hK0 _ _ ?_;clear hK0)|fail)
      repeat' (first|refine nX ?_|refine nY (fun K0 hK0=>?_)|refine bH ?_|refine bM ?_|refine iS hs ?_|refine rS hs ?_|refine eI _ (aI rfl ?_)|refine qg ?_|refine qf ?_|refine qc ?_|refine oJ ?_|refine nN hs (fun _ _ hs=>?_)|refine nS hs (fun _ _ hs=>?_)|refine sX hs (fun _ hs=>?_)|(refine dI (fun hc=>?_) (fun hc=>?_) <;> try (exfalso;omega))|(refine hK0 _ _ ?_;clear hK0)|fail)
      refine c94 (by omega) (by omega) (zL kt (by omega) (by omega)) (by omega) (fun H8 j hn=>?_)
      have hs:=hs.call hn rfl
      clear hn
      repeat' (first|refine nX ?_|refine nY (fun K0 hK0=>?_)|refine bH ?_|refine bM ?_|refine iS hs ?_|refine rS hs ?_|refine eI _ (aI rfl ?_)|refine qg ?_|refine qf ?_|refine qc ?_|refine oJ ?_|refine nN hs (fun _ _ hs=>?_)|refine nS hs (fun _ _ hs=>?_)|refine sX hs (fun _ hs=>?_)|(refine hK0 _ _ ?_;clear hK0)|fail)
      refine appm_hs hs 1 (us:=ints (spnF t (2+2*d) (3+2*d))) rfl (by decide) (hs.get 0 rfl) (by omega) (by rw[qX,Nat.mul_one]) (ints_one _) (by first | (rw[qX,Nat.mul_one];done) | (rw[qX,List.length_append,Nat.mul_one];done)) (by show (_+_)*(8+1)<=_;omega) (fun H9 k9 e9 l9 hs=>?_)
      clear e9 l9
      have hs:=hs.pick [1,2] (by decide) rfl (L' := [(true,k9, .cells true 1 (ints (xs++spnF t (1+2*d) (2+2*d))++ints (spnF t (2+2*d) (3+2*d)))),(true,b1, .cells true 1 (tkC t b c))])
      rw[<- zZ] at hs
      repeat' (first|refine nX ?_|refine nY (fun K0 hK0=>?_)|refine bH ?_|refine bM ?_|refine iS hs ?_|refine rS hs ?_|refine eI _ (aI rfl ?_)|refine qg ?_|refine qf ?_|refine qc ?_|refine oJ ?_|refine nN hs (fun _ _ hs=>?_)|refine nS hs (fun _ _ hs=>?_)|refine sX hs (fun _ hs=>?_)|(refine hK0 _ _ ?_;clear hK0)|fail)
      simp only[List.nil_append,List.append_nil,<- List.append_assoc] at et
      have el:((List.range (d+1)).flatMap (hvS t r)).length=xs.length+(spnF t (1+2*d) (2+2*d)).length+(spnF t (2+2*d) (3+2*d)).length:=by
       rw[et]
       try simp only[List.length_append]
      refine⟨⟨_,k9,d+1⟩,⟨?_,hlt⟩,by dsimp only;omega,Or.inl ⟨⟨rfl,rfl, ?_,rfl,trivial⟩,rfl⟩⟩
      ·dsimp only
       rw[et]
       exact hs
      ·dsimp only
       rw[el]
       rfl
   ·have hie:d=t.sz.length:=by simp at hc;omega
    subst hie
    repeat' (first|refine nX ?_|refine nY (fun K0 hK0=>?_)|refine bH ?_|refine bM ?_|refine iS hs ?_|refine rS hs ?_|refine eI _ (aI rfl ?_)|refine qg ?_|refine qf ?_|refine qc ?_|refine oJ ?_|refine nN hs (fun _ _ hs=>?_)|refine nS hs (fun _ _ hs=>?_)|refine sX hs (fun _ hs=>?_)|(refine hK0 _ _ ?_;clear hK0)|fail)
    exact⟨_,_, .rfl, .rfl,h _ k' (hs.pick [0] (by decide) rfl)⟩
 ·rw[if_neg h0] at h
  generalize isF t r=z at h0 h ⊢
  repeat' (first|refine nX ?_|refine nY (fun K0 hK0=>?_)|refine bH ?_|refine bM ?_|refine iS hs ?_|refine rS hs ?_|refine eI _ (aI rfl ?_)|refine qg ?_|refine qf ?_|refine qc ?_|refine oJ ?_|refine nN hs (fun _ _ hs=>?_)|refine nS hs (fun _ _ hs=>?_)|refine sX hs (fun _ hs=>?_)|(refine dI (fun hc=>?_) (fun hc=>?_) <;> try (exfalso;omega))|(refine hK0 _ _ ?_;clear hK0)|fail)
  have hv:=hs.virt (rw' [])
  exact⟨.tuple ⟨[sv H2.length 0, .int .i64 z]⟩,H2 ++ [rw' []], .nil2 _ _,WkH.rfl.app _,h _ _ (hv.pick [0] (by decide) rfl)⟩
end Go.Af.Tryz
