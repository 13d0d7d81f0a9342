/-
  The law PlanSums, but for its last call.
-/
import Derived.Test.YtgdbclgcbbbenaaGreatMPF
set_option linter.all false
namespace Go.Af.Tryz
open Go Go.Proofs Go.Af.Pl Co Ne
open Go.Af.Coll (St)
set_option maxRecDepth 100000
set_option maxHeartbeats 4000000
attribute [local irreducible] awp ql qy qK qH qF isCells qx qp qZ qX qI roundEnd xm zA keyK wE zM xx

def sum5 (O:List (List Int)):List Int := [suF 0 O,suF 1 O,suF 2 O,suF 3 O,suF 4 O]
abbrev PrOk (m:Mc):Prop:=(0<=m.st/\m.st<=1000000)/\(0<=m.hp/\m.hp<=1000000)/\(0<=m.wd/\m.wd<=1000000)/\(0<=m.jn/\m.jn<=1000000)
theorem tm_bd {m:Mc} (hp:PrOk m) {a b c d:Int} (h1:0<=a/\a<=200000000) (h2:0<=b/\b<=200000000) (h3:0<=c/\c<=200000000) (h4:0<=d/\d<=200000000):0<=tmF [a,b,c,d] (prL m)/\tmF [a,b,c,d] (prL m)<=1000000000000000:=by
 have q : ∀ {x p:Int},(0<=x/\x<=200000000)->(0<=p/\p<=1000000)->0<=x*p/\x*p<=200000000000000:=fun hx hp=>⟨Int.mul_nonneg hx.1 hp.1,Int.le_trans (Int.mul_le_mul hx.2 hp.2 hp.1 (by decide)) (by decide)⟩
 have q1:=q h1 hp.1
 have q2:=q h2 hp.2.1
 have q3:=q h3 hp.2.2.1
 have q4:=q h4 hp.2.2.2
 show 0<=a*m.st+b*m.hp+c*m.wd+d*m.jn/\a*m.st+b*m.hp+c*m.wd+d*m.jn<=_
 omega
theorem suF4_bd {m:Mc} {O:List (List Int)} (hp:PrOk m) (h : ∀ x∈O,RowOk m x) : ∀ k,k<=O.length->0<=suF 4 (O.take k)/\suF 4 (O.take k)<=k*1000000000000000
 | 0,_=>⟨Int.le_refl _,Int.le_refl _⟩
 | k+1,hk=>by
   have ih:=suF4_bd hp h k (by omega)
   rw[wG 4 O k (by omega)]
   obtain ⟨a,b,c,d,e,h1,h2,h3,h4,_⟩:=h (O[k]!) (by rw[getElem!_pos O k (by omega)];exact List.getElem_mem _)
   have:0<=O[k]![4]! /\ O[k]![4]! <= 1000000000000000:=by
    rw[e]
    exact tm_bd hp (by omega) (by omega) h3 h4
   omega
theorem suF_eq {m:Mc} {O:List (List Int)} (h : ∀ x∈O,RowOk m x) : ∀ k,k<=O.length->suF 4 (O.take k)=tmF (sum4 (O.take k)) (prL m)
 | 0,_=>by
   show 0=0*m.st+0*m.hp+0*m.wd+0*m.jn
   simp
 | k+1,hk=>by
   have ih:=suF_eq h k (by omega)
   obtain ⟨a,b,c,d,e,_⟩:=h (O[k]!) (by rw[getElem!_pos O k (by omega)];exact List.getElem_mem _)
   show _=suF 0 (O.take (k+1))*m.st+suF 1 (O.take (k+1))*m.hp+suF 2 (O.take (k+1))*m.wd+suF 3 (O.take (k+1))*m.jn
   rw[wG 4 O k (by omega),wG 0 O k (by omega),wG 1 O k (by omega),wG 2 O k (by omega),wG 3 O k (by omega),ih,e]
   show suF 0 (O.take k)*m.st+suF 1 (O.take k)*m.hp+suF 2 (O.take k)*m.wd+suF 3 (O.take k)*m.jn+(a*m.st+b*m.hp+c*m.wd+d*m.jn)=(suF 0 (O.take k)+a)*m.st+(suF 1 (O.take k)+b)*m.hp+(suF 2 (O.take k)+c)*m.wd+(suF 3 (O.take k)+d)*m.jn
   rw[Int.add_mul,Int.add_mul,Int.add_mul,Int.add_mul]
   omega
theorem aggEq38:AggEq Tryz.prog 38 [.i64, .i64, .i64, .i64, .i64]:=aggEq_struct (by kernel_rfl) (by kernel_rfl) (by kernel_rfl) (xO (by kernel_rfl))
theorem k4g {H:List Blk} {m:Mc} {t:Tk} {alg:Int} {l:List St} {b c e f d:Nat} (g:Mr H m b c) (gr:Gr H t.sz e) (hst:Sts H l d) (hh:m.hs.length<=9223372036854775807) (hl:t.sz.length<=9223372036854775807) (hw:t.ws.length<=9223372036854775807) (hll:l.length<=9223372036854775807)
 (hW : ∀ (H:List Blk) (R:Value->List Blk->Prop),(∀ H',HS H none' [] H' -> R (.bool true) H')->ql Tryz.prog 13 [] H R)
 {μ : LM} {argsR:Array Value} {w:World} (ha:LRel μ [mcV m b c,schV t alg e f d l.length] argsR.toList) (hr:HRel μ H w) :
 Calls Tryz.prog 4 argsR w fun e w' => ∃ vR,e = .returned vR/\zN μ H w (fun v _=>v = .bool true) vR w' := by
 refine calls_vcg tok Tryz.func4 rfl Tryz.ntmps4 rfl (by simp) ?_ ha hr
 have h : ∀ H',HS H none' [] H' -> (fun (v:Value) (_:List Blk)=>v = .bool true) (.bool true) H' := fun _ _=>rfl
 clear ha hr
 refine vz (HS.start H none') (fun H1 b2 e1 l1 hs=>?_)
 refine vz hs (fun H2 b3 e2 l2 hs=>?_)
 refine qU (fun _ hKs=>hKs _ _ ?_);clear hKs
 clear e1 l1 e2 l2
 repeat' (first|refine nX ?_|refine nY (fun K0 hK0=>?_)|refine bH ?_|refine bM ?_|refine iS hs ?_|refine rS hs ?_|refine eI _ (aI rfl ?_)|refine qh ?_|refine qg ?_|refine qc ?_|refine oJ ?_|refine nN hs (fun _ _ hs=>?_)|refine nS hs (fun _ _ hs=>?_)|refine sX hs (fun _ hs=>?_)|(refine hK0 _ _ ?_;clear hK0)|fail)
 refine c20 (g.up (qw hs)) (gr.up (qw hs)) hh hl hw (fun H3 u hn hu=>?_)
 have hs:=vH hs hn
 clear hn
 cases u with
 | false =>
   repeat' (first|refine nX ?_|refine nY (fun K0 hK0=>?_)|refine bH ?_|refine bM ?_|refine iS hs ?_|refine rS hs ?_|refine eI _ (aI rfl ?_)|refine qh ?_|refine qg ?_|refine qc ?_|refine oJ ?_|refine nN hs (fun _ _ hs=>?_)|refine nS hs (fun _ _ hs=>?_)|refine sX hs (fun _ hs=>?_)|(refine dI (fun hc=>?_) (fun hc=>?_) <;> try (exfalso;omega))|(refine hK0 _ _ ?_;clear hK0)|fail)
   refine hW _ _ (fun H4 hn=>?_)
   have hs:=vH hs hn
   repeat' (first|refine nX ?_|refine nY (fun K0 hK0=>?_)|refine bH ?_|refine bM ?_|refine iS hs ?_|refine rS hs ?_|refine eI _ (aI rfl ?_)|refine qh ?_|refine qg ?_|refine qc ?_|refine oJ ?_|refine nN hs (fun _ _ hs=>?_)|refine nS hs (fun _ _ hs=>?_)|refine sX hs (fun _ hs=>?_)|(refine dI (fun hc=>?_) (fun hc=>?_) <;> try (exfalso;omega))|(refine hK0 _ _ ?_;clear hK0)|fail)
   exact h _ (qw hs)
 | true =>
   have hC:=hu rfl
   repeat' (first|refine nX ?_|refine nY (fun K0 hK0=>?_)|refine bH ?_|refine bM ?_|refine iS hs ?_|refine rS hs ?_|refine eI _ (aI rfl ?_)|refine qh ?_|refine qg ?_|refine qc ?_|refine oJ ?_|refine nN hs (fun _ _ hs=>?_)|refine nS hs (fun _ _ hs=>?_)|refine sX hs (fun _ hs=>?_)|(refine dI (fun hc=>?_) (fun hc=>?_) <;> try (exfalso;omega))|(refine hK0 _ _ ?_;clear hK0)|fail)
   ·refine c29 (gr.up (qw hs)) (hst.up (qw hs)) hl hw hll (fun H4 hn=>?_)
    have hs:=vH hs hn
    clear hn
    by_cases hS:sndF t l=0
    ·rw[hS]
     repeat' (first|refine nX ?_|refine nY (fun K0 hK0=>?_)|refine bH ?_|refine bM ?_|refine iS hs ?_|refine rS hs ?_|refine eI _ (aI rfl ?_)|refine qh ?_|refine qg ?_|refine qc ?_|refine oJ ?_|refine nN hs (fun _ _ hs=>?_)|refine nS hs (fun _ _ hs=>?_)|refine sX hs (fun _ hs=>?_)|(refine dI (fun hc=>?_) (fun hc=>?_) <;> try (exfalso;omega))|(refine hK0 _ _ ?_;clear hK0)|fail)
     refine c14 (g.up (qw hs)) (gr.up (qw hs)) (hst.up (qw hs)) hh hl hw (by omega) (fun H5 z hn hz hv=>?_) (fun H5 s hn _ _ mk=>?_)
     ·exfalso
      omega
     have hs0:=vH hs hn
     clear hn hs
     repeat' (first|refine nX ?_|refine nY (fun K0 hK0=>?_)|refine bH ?_|refine bM ?_|refine iS hs ?_|refine rS hs ?_|refine eI _ (aI rfl ?_)|refine qh ?_|refine qg ?_|refine qc ?_|refine oJ ?_|refine nN hs (fun _ _ hs=>?_)|refine nS hs (fun _ _ hs=>?_)|refine sX hs (fun _ hs=>?_)|(refine dI (fun hc=>?_) (fun hc=>?_) <;> try (exfalso;omega))|(refine hK0 _ _ ?_;clear hK0)|fail)
     refine vz hs0 (fun H6 b5 e5 l5 hs=>?_)
     clear e5 l5 hs0
     repeat' (first|refine nX ?_|refine nY (fun K0 hK0=>?_)|refine bH ?_|refine bM ?_|refine iS hs ?_|refine rS hs ?_|refine eI _ (aI rfl ?_)|refine qh ?_|refine qg ?_|refine qc ?_|refine oJ ?_|refine nN hs (fun _ _ hs=>?_)|refine nS hs (fun _ _ hs=>?_)|refine sX hs (fun _ hs=>?_)|(refine dI (fun hc=>?_) (fun hc=>?_) <;> try (exfalso;omega))|(refine hK0 _ _ ?_;clear hK0)|fail)
     refine c18 (g.up (qw hs)) (gr.up (qw hs)) (hst.up (qw hs)) hh hl hw (by omega) (fun H4 z hn hz hv=>?_) (fun H4 k s2 hn _ _ mk2=>?_)
     ·exfalso
      omega
     have hs:=hs.call hn rfl
     clear hn
     repeat' (first|refine nX ?_|refine nY (fun K0 hK0=>?_)|refine bH ?_|refine bM ?_|refine iS hs ?_|refine rS hs ?_|refine eI _ (aI rfl ?_)|refine qh ?_|refine qg ?_|refine qc ?_|refine oJ ?_|refine nN hs (fun _ _ hs=>?_)|refine nS hs (fun _ _ hs=>?_)|refine sX hs (fun _ hs=>?_)|(refine dI (fun hc=>?_) (fun hc=>?_) <;> try (exfalso;omega))|(refine hK0 _ _ ?_;clear hK0)|fail)
     refine c27 (gr.up (qw hs)) (hst.up (qw hs)) hl hw (by omega) (fun H2 hn=>?_)
     have hs:=vH hs hn
     clear hn
     rw[hS]
     obtain rfl:s=s2:=Option.some.inj (mk.sh.symm.trans mk2.sh)
     obtain ⟨hck,hsd⟩:=snd_in hS
     obtain ⟨_,hpr,hpl⟩:=chkM_ok hC
     obtain ⟨n,hN,hn256,hrl⟩:=rnd_nat hsd hS
     unfold msrF at hs
     rw[hN] at hs ⊢
     rw[Int.toNat_natCast] at hs ⊢
     rw[<- hpl] at hsd
     have hrow : ∀ x∈(List.range n).map (totR s m l),RowOk m x:=fun x hx=>by
      obtain ⟨r,_,rfl⟩:=List.mem_map.1 hx
      exact totR_ok mk hsd (by omega) r
     have hOl:((List.range n).map (totR s m l)).length=n:=by simp
     revert hs hrow hOl
     generalize (List.range n).map (totR s m l)=O
     intro hs hrow hOl
     have hs0:=hs
     clear hs
     repeat' (first|refine nX ?_|refine nY (fun K0 hK0=>?_)|refine bH ?_|refine bM ?_|refine iS hs ?_|refine rS hs ?_|refine eI _ (aI rfl ?_)|refine qh ?_|refine qg ?_|refine qc ?_|refine oJ ?_|refine nN hs (fun _ _ hs=>?_)|refine nS hs (fun _ _ hs=>?_)|refine sX hs (fun _ hs=>?_)|(refine dI (fun hc=>?_) (fun hc=>?_) <;> try (exfalso;omega))|(refine hK0 _ _ ?_;clear hK0)|fail)
     refine vz hs0 (fun H6 b11 e5 l5 hs=>?_)
     clear e5 l5 hs0
     repeat' (first|refine nX ?_|refine nY (fun K0 hK0=>?_)|refine bH ?_|refine bM ?_|refine iS hs ?_|refine rS hs ?_|refine eI _ (aI rfl ?_)|refine qh ?_|refine qg ?_|refine qc ?_|refine oJ ?_|refine nN hs (fun _ _ hs=>?_)|refine nS hs (fun _ _ hs=>?_)|refine sX hs (fun _ hs=>?_)|(refine dI (fun hc=>?_) (fun hc=>?_) <;> try (exfalso;omega))|(refine hK0 _ _ ?_;clear hK0)|fail)
     refine qM (α := Q3) tok (fun z=>HS H none' [(true,b11, .cells true 1 (ints (sum5 (O.take z.k)))),(true,k, .cells true 5 (totC O)),(true,b5, .cells true 1 (ints (totF m (sum4 O)))),(true,b3, .cells true 1 (schC t alg e f d l.length)),(true,b2, .cells true 1 (mcC m b c))] z.H/\z.k<=n)
      (fun z=>[(2, .pointer (some ⟨b2,0,none⟩)),(3, .pointer (some ⟨b3,0,none⟩)),(5, .pointer (some ⟨b5,0,none⟩)),(7,sv k n),(11, .pointer (some ⟨b11,0,none⟩)),(12, .int .i64 (z.k:Int))]) (fun z=>z.H) (fun z=>n-z.k)
      ⟨_,0⟩ ⟨hs,Nat.zero_le _⟩ (Or.inl ⟨⟨rfl,rfl,rfl,rfl,rfl,rfl,trivial⟩,rfl⟩) ?_
     clear hs
     rintro ⟨H6,i⟩ ⟨hs,hi⟩
     dsimp only at hs hi ⊢
     repeat' (first|refine nX ?_|refine nY (fun K0 hK0=>?_)|refine bH ?_|refine bM ?_|refine iS hs ?_|refine rS hs ?_|refine eI _ (aI rfl ?_)|refine qh ?_|refine qg ?_|refine qc ?_|refine oJ ?_|refine nN hs (fun _ _ hs=>?_)|refine nS hs (fun _ _ hs=>?_)|refine sX hs (fun _ hs=>?_)|(refine hK0 _ _ ?_;clear hK0)|fail)
     refine aI (fun hc=>?_) (fun hc=>?_)
     ·have hlt:i<n:=by simp at hc;omega
      clear hc
      have hx:=hrow O[i]! (by rw[getElem!_pos O i (by omega)];exact List.getElem_mem _)
      obtain ⟨x0,x1,x2,x3,hx,y0,y1,y2,y3,y4,y5⟩:=hx
      have u0:=yw hrow 0 (by decide) i (by omega)
      have u1:=yw hrow 1 (by decide) i (by omega)
      have u2:=yw hrow 2 (by decide) i (by omega)
      have u3:=yw hrow 3 (by decide) i (by omega)
      have u4:=suF4_bd hpr hrow i (by omega)
      have ut:=tm_bd hpr (a:=x0) (b:=x1) (c:=x2) (d:=x3) (by omega) (by omega) y2 y3
      repeat' (first|refine nX ?_|refine nY (fun K0 hK0=>?_)|refine bH ?_|refine bM ?_|refine iS hs ?_|refine rS hs ?_|refine eI _ (aI rfl ?_)|refine qh ?_|refine qg ?_|refine qc ?_|refine oJ ?_|refine nN hs (fun _ _ hs=>?_)|refine nS hs (fun _ _ hs=>?_)|refine sX hs (fun _ hs=>?_)|(refine hK0 _ _ ?_;clear hK0)|fail)
      replace hx:O[i]! = [x0,x1,x2,x3,tmF [x0,x1,x2,x3] (prL m)]:=hx
      refine seg_tot (fun x hx=>(hrow x hx).len) (by omega) hx ?_
      repeat' (first|refine nX ?_|refine nY (fun K0 hK0=>?_)|refine bH ?_|refine bM ?_|refine iS hs ?_|refine rS hs ?_|refine eI _ (aI rfl ?_)|refine qh ?_|refine qg ?_|refine qc ?_|refine oJ ?_|refine nN hs (fun _ _ hs=>?_)|refine nS hs (fun _ _ hs=>?_)|refine sX hs (fun _ hs=>?_)|(refine hK0 _ _ ?_;clear hK0)|fail)
      have e1:sum5 (O.take (i+1)) = [suF 0 (O.take i)+x0,suF 1 (O.take i)+x1,suF 2 (O.take i)+x2,suF 3 (O.take i)+x3,suF 4 (O.take i)+tmF [x0,x1,x2,x3] (prL m)]:=by
       unfold sum5
       rw[wG 0 O i (by omega),wG 1 O i (by omega),wG 2 O i (by omega),wG 3 O i (by omega),wG 4 O i (by omega),hx]
       rfl
      have hx0:(x0=0/\x1=0/\x2=0)\/(x0=1/\0<x2):=by omega
      refine qJ tok mx [0,1,3,7,15,31,63,127,255,511,1023,2047,511,4607,12799,32767,65535,131071,262143,524287,1048575,2097151,4194303,8388607,16777215,33554431,67108863,134217727,268435455,536870911,268435455,268435455,2415919103,268435455,8858370047,268435455,34628173823,268435455,137707388927,548950507519,1099511627775,2199023255551] [false,false,false,false,false,false,false,false,false,false,false,false,true,true,true,false,false,false,false,false,false,false,false,false,false,false,false,false,false,false,true,true,true,true,true,true,true,true,true,true,false,false] [0,1,2,3,4,5,6,7,8,9,10,11,12,13,14,15,16,17,18,19,20,21,22,23,24,25,26,27,28,29,30,31,32,33,34,35,36,37,38,39,40,41] (by kernel_rfl) ?_
      refine vw (fun K0 hK0=>?_)
      rcases hx0 with ⟨rfl,hx1,hx2⟩ | ⟨rfl,h2⟩
      ·skip
       repeat' (first|refine nX ?_|refine nY (fun K0 hK0=>?_)|refine bH ?_|refine bM ?_|refine iS hs ?_|refine rS hs ?_|refine eI _ (aI rfl ?_)|refine qh ?_|refine qg ?_|refine qc ?_|refine oJ ?_|refine nN hs (fun _ _ hs=>?_)|refine nS hs (fun _ _ hs=>?_)|refine sX hs (fun _ hs=>?_)|(refine dI (fun hc=>?_) (fun hc=>?_) <;> try (exfalso;omega))|(refine hK0 _ _ ?_;clear hK0)|fail)
       all_goals try (exfalso;simp at hc;omega)
       all_goals refine c23x (g.up (qw hs)) (a0:=0) (a1:=x1) (a2:=x2) (a3:=x3) (zu (by omega) hpr.1) (zu (by omega) hpr.2.1) (zu (by omega) hpr.2.2.1) (zu (by omega) hpr.2.2.2) ?_
       all_goals (
        repeat' (first|refine nX ?_|refine nY (fun K0 hK0=>?_)|refine bH ?_|refine bM ?_|refine iS hs ?_|refine rS hs ?_|refine eI _ (aI rfl ?_)|refine qh ?_|refine qg ?_|refine qc ?_|refine oJ ?_|refine nN hs (fun _ _ hs=>?_)|refine nS hs (fun _ _ hs=>?_)|refine sX hs (fun _ hs=>?_)|(refine dI (fun hc=>?_) (fun hc=>?_) <;> try (exfalso;omega))|(refine hK0 _ _ ?_;clear hK0)|fail)
        )
       all_goals (
        refine⟨⟨_,i+1⟩,⟨?_,hlt⟩,by dsimp only;omega,Or.inl ⟨⟨rfl,rfl,rfl,rfl,rfl,rfl,trivial⟩,rfl⟩⟩
        dsimp only
        rw[e1]
        exact hs.pick [1,2,3,4,5] (by decide) rfl)
      ·skip
       repeat' (first|refine nX ?_|refine nY (fun K0 hK0=>?_)|refine bH ?_|refine bM ?_|refine iS hs ?_|refine rS hs ?_|refine eI _ (aI rfl ?_)|refine qh ?_|refine qg ?_|refine qc ?_|refine oJ ?_|refine nN hs (fun _ _ hs=>?_)|refine nS hs (fun _ _ hs=>?_)|refine sX hs (fun _ hs=>?_)|(refine dI (fun hc=>?_) (fun hc=>?_) <;> try (exfalso;omega))|(refine hK0 _ _ ?_;clear hK0)|fail)
       all_goals try (exfalso;simp at hc;omega)
       all_goals refine c23x (g.up (qw hs)) (a0:=1) (a1:=x1) (a2:=x2) (a3:=x3) (zu (by omega) hpr.1) (zu (by omega) hpr.2.1) (zu (by omega) hpr.2.2.1) (zu (by omega) hpr.2.2.2) ?_
       all_goals (
        repeat' (first|refine nX ?_|refine nY (fun K0 hK0=>?_)|refine bH ?_|refine bM ?_|refine iS hs ?_|refine rS hs ?_|refine eI _ (aI rfl ?_)|refine qh ?_|refine qg ?_|refine qc ?_|refine oJ ?_|refine nN hs (fun _ _ hs=>?_)|refine nS hs (fun _ _ hs=>?_)|refine sX hs (fun _ hs=>?_)|(refine dI (fun hc=>?_) (fun hc=>?_) <;> try (exfalso;omega))|(refine hK0 _ _ ?_;clear hK0)|fail)
        )
       all_goals (
        refine⟨⟨_,i+1⟩,⟨?_,hlt⟩,by dsimp only;omega,Or.inl ⟨⟨rfl,rfl,rfl,rfl,rfl,rfl,trivial⟩,rfl⟩⟩
        dsimp only
        rw[e1]
        exact hs.pick [1,2,3,4,5] (by decide) rfl)
     ·have hin:i=n:=by simp at hc;omega
      have eO:O.take i=O:=by rw[hin,<- hOl,List.take_length]
      rw[eO] at hs
      have e4:=suF_eq hrow i (by omega)
      rw[eO] at e4
      have e5:sum5 O=totF m (sum4 O):=by
       show [suF 0 O,suF 1 O,suF 2 O,suF 3 O,suF 4 O] = [suF 0 O,suF 1 O,suF 2 O,suF 3 O,tmF (sum4 O) (prL m)]
       rw[e4]
      rw[e5] at hs
      repeat' (first|refine nX ?_|refine nY (fun K0 hK0=>?_)|refine bH ?_|refine bM ?_|refine iS hs ?_|refine rS hs ?_|refine eI _ (aI rfl ?_)|refine qh ?_|refine qg ?_|refine qc ?_|refine oJ ?_|refine nN hs (fun _ _ hs=>?_)|refine nS hs (fun _ _ hs=>?_)|refine sX hs (fun _ hs=>?_)|(refine hK0 _ _ ?_;clear hK0)|fail)
      refine⟨_,aggEq38, ?_⟩
      repeat' (first|refine nX ?_|refine nY (fun K0 hK0=>?_)|refine bH ?_|refine bM ?_|refine iS hs ?_|refine rS hs ?_|refine eI _ (aI rfl ?_)|refine qh ?_|refine qg ?_|refine qc ?_|refine oJ ?_|refine nN hs (fun _ _ hs=>?_)|refine nS hs (fun _ _ hs=>?_)|refine sX hs (fun _ hs=>?_)|(refine dI (fun hc=>?_) (fun hc=>?_) <;> try (exfalso;omega))|(refine hK0 _ _ ?_;clear hK0)|fail)
      ·refine hW _ _ (fun H7 hn=>?_)
       have hs:=vH hs hn
       repeat' (first|refine nX ?_|refine nY (fun K0 hK0=>?_)|refine bH ?_|refine bM ?_|refine iS hs ?_|refine rS hs ?_|refine eI _ (aI rfl ?_)|refine qh ?_|refine qg ?_|refine qc ?_|refine oJ ?_|refine nN hs (fun _ _ hs=>?_)|refine nS hs (fun _ _ hs=>?_)|refine sX hs (fun _ hs=>?_)|(refine dI (fun hc=>?_) (fun hc=>?_) <;> try (exfalso;omega))|(refine hK0 _ _ ?_;clear hK0)|fail)
       exact h _ (qw hs)
      ·exact absurd hc (by simp)
    ·skip
     repeat' (first|refine nX ?_|refine nY (fun K0 hK0=>?_)|refine bH ?_|refine bM ?_|refine iS hs ?_|refine rS hs ?_|refine eI _ (aI rfl ?_)|refine qh ?_|refine qg ?_|refine qc ?_|refine oJ ?_|refine nN hs (fun _ _ hs=>?_)|refine nS hs (fun _ _ hs=>?_)|refine sX hs (fun _ hs=>?_)|(refine dI (fun hc=>?_) (fun hc=>?_) <;> try (exfalso;omega))|(refine hK0 _ _ ?_;clear hK0)|fail)
     refine hW _ _ (fun H4 hn=>?_)
     have hs:=vH hs hn
     repeat' (first|refine nX ?_|refine nY (fun K0 hK0=>?_)|refine bH ?_|refine bM ?_|refine iS hs ?_|refine rS hs ?_|refine eI _ (aI rfl ?_)|refine qh ?_|refine qg ?_|refine qc ?_|refine oJ ?_|refine nN hs (fun _ _ hs=>?_)|refine nS hs (fun _ _ hs=>?_)|refine sX hs (fun _ hs=>?_)|(refine dI (fun hc=>?_) (fun hc=>?_) <;> try (exfalso;omega))|(refine hK0 _ _ ?_;clear hK0)|fail)
     exact h _ (qw hs)
   ·refine hW _ _ (fun H4 hn=>?_)
    have hs:=vH hs hn
    repeat' (first|refine nX ?_|refine nY (fun K0 hK0=>?_)|refine bH ?_|refine bM ?_|refine iS hs ?_|refine rS hs ?_|refine eI _ (aI rfl ?_)|refine qh ?_|refine qg ?_|refine qc ?_|refine oJ ?_|refine nN hs (fun _ _ hs=>?_)|refine nS hs (fun _ _ hs=>?_)|refine sX hs (fun _ hs=>?_)|(refine dI (fun hc=>?_) (fun hc=>?_) <;> try (exfalso;omega))|(refine hK0 _ _ ?_;clear hK0)|fail)
    exact h _ (qw hs)
end Go.Af.Tryz
