/- A part of the proof. -/
import Derived.Test.YtmnjcogpchodhaaGreatMGI2
import Derived.Test.YtmnjcogpchodhaaGreatMGC2
import Derived.Test.YtmnjcogpchodhaaGreatMGJ
import Derived.Test.YtmnjcogpchodhaaGreatMGI
import Derived.Test.YtmnjcogpchodhaaGreatMGH
import Derived.Test.YtmnjcogpchodhaaGreatMCA
set_option linter.all false
set_option maxHeartbeats 4000000
set_option maxRecDepth 100000
namespace Go.Af.Tryz
open Go Go.Proofs
open Go.Af.Coll (sndP sndR)
attribute [local irreducible] awp qj qJ qL qC qo isCells qx qp qA qw qh roundEnd zG wX keyK vY

theorem snd_fresh {t:Tk} {l:List Coll.St} (h:sndF t l=0) {a b:Nat} (hab:a<b) (hb:b<l.length) (hr:l[a]!.rd=l[b]!.rd):(l[a]!.to,l[a]!.ds)≠(l[b]!.to,l[b]!.ds):=by
 unfold sndF at h;split at h
 ·rename_i h1;exact absurd h h1
 ·rw[snd_ref] at h
  refine WY h a b _ _ ?_ ?_ hab (Nat.zero_le _) hr
  ·rw[List.nil_append,List.getElem?_eq_getElem (by omega),getElem!_pos l a (by omega)]
  ·rw[List.nil_append,List.getElem?_eq_getElem hb,getElem!_pos l b hb]
def entV (W:Wt):List MapEntry:=W.mapIdx fun i w=>⟨.agg ⟨[.int .i64 w.1.1, .int .i64 w.1.2]⟩,sv w.2.1 w.2.2.length,i⟩
abbrev mpV (W:Wt):Blk := .map true (entV W) W.length
theorem ZY {W:Wt} {j:Nat} {e:MapEntry} (h:(entV W)[j]? = some e) : ∃ w,W[j]? = some w/\e=⟨.agg ⟨[.int .i64 w.1.1, .int .i64 w.1.2]⟩,sv w.2.1 w.2.2.length,j⟩:=by
 unfold entV at h;rw[List.getElem?_mapIdx] at h
 cases hw:W[j]? with
 | none=>rw[hw] at h;cases h
 | some p=>rw[hw] at h;cases h;exact⟨p,rfl,rfl⟩
theorem mfind_V {H:List Blk} {W:Wt} {a b:Int} {K:Option Nat->Prop} (hn : ∀ w∈W,w.1≠(a,b)) (h0:K none):vY Tryz.prog T H 146 (.agg ⟨[.int .i64 a, .int .i64 b]⟩) (entV W) 0 K:=by
 refine zS (fun e=>match e.key with | .agg ⟨[.int .i64 c, .int .i64 d]⟩=>decide ([a,b] = [c,d]) | _=>false) _ _ (fun e he K' hk=>?_) (fun j e hj ht _=>?_) (fun _=>h0)
 ·obtain ⟨j,hj⟩:=List.getElem?_of_mem he
  obtain ⟨w,_,rfl⟩:=ZY hj;exact keq146 hk
 ·obtain ⟨w,hw,rfl⟩:=ZY hj
  simp only[List.cons.injEq,and_true,decide_eq_true_eq] at ht;exact absurd (Prod.ext ht.1.symm ht.2.symm) (hn w (List.mem_of_getElem? hw))
theorem entV_snoc (W:Wt) (a b:Int) (k:Nat) (l:List Og):entV W ++ [⟨.agg ⟨[.int .i64 a, .int .i64 b]⟩,sv k l.length,W.length⟩]=entV (W ++ [((a,b),(k,l))]):=by unfold entV;rw[List.mapIdx_append];simp
theorem Zp {H0 H:List Blk} {o:Nat->Prop} {L:List (Bool × Nat × Blk)} (hs:HS H0 o L H) (i:Nat) {m:Nat} {W:Wt} {a b:Int} {k:Nat} {l:List Og} {K:List Blk->Prop} (hi:L[i]? = some (true,m,mpV W)) (hn : ∀ w∈W,w.1≠(a,b)) (kk : ∀ H',HS H0 o (L.set i (true,m,mpV (W ++ [((a,b),(k,l))]))) H' -> K H') :
 wX H m (fun es clock=>keyK Tryz.prog T 146 (.agg ⟨[.int .i64 a, .int .i64 b]⟩) (vY Tryz.prog T H 146 (.agg ⟨[.int .i64 a, .int .i64 b]⟩) es 0 (fun r=>match r with
  | some p=>wG H m (.map true (es.modify p (fun e=>{ e with key := .agg ⟨[.int .i64 a, .int .i64 b]⟩,val:=sv k l.length })) clock) K
  | none=>wG H m (.map true (es ++ [⟨.agg ⟨[.int .i64 a, .int .i64 b]⟩,sv k l.length,clock⟩]) (clock+1)) K))):=by
 refine yU (hs.get i hi) (YF (mfind_V hn ?_));refine wY (hs.lt i hi) (fun H' h1 h2 h3=>kk H' ?_);rw[entV_snoc] at h2;refine hs.set i hi h1 ?_ h3;rw[h2];simp
theorem c194m {H:List Blk} {m:Nat} {R:Value->List Blk->Prop} (h : ∀ H' x,HS H none' [(true,x, .cells true 1 [.map (some m)])] H' -> R (.func (.func 291) #[] #[.pointer (some ⟨x,0,none⟩)]) H'):qj Tryz.prog 194 [.map (some m)] H R:=by
 refine qf tok Tryz.call194 Tryz.func194 rfl Tryz.ntmps194 rfl (by simp) ?_;refine qi (HS.start H none') (fun H1 b1 e1 l1 hs=>?_);exact h H1 b1 hs
theorem hs_name {H0 H:List Blk} {o:Nat->Prop} {b:Nat} {B:Blk} {L:List (Bool × Nat × Blk)} (h:HS H0 o ((true,b,B)::L) H) : ∃ b' B',b' = b/\B' = B/\HS H0 o ((true,b',B')::L) H:=⟨b,B,rfl,rfl,h⟩
theorem Um {W:Wt} {e:MapEntry} (h:e∈entV W) : ∃ i, ∃ hi:i<W.length,e=⟨.agg ⟨[.int .i64 W[i].1.1, .int .i64 W[i].1.2]⟩,sv W[i].2.1 W[i].2.2.length,i⟩:=by
 obtain ⟨j,hj⟩:=List.getElem?_of_mem h;obtain ⟨p,hp,rfl⟩:=ZY hj;obtain ⟨hlt,rfl⟩:=List.getElem?_eq_some_iff.1 hp;exact⟨j,hlt,rfl⟩
theorem UE {W:Wt} {i:Nat} (hi:i<W.length):(⟨.agg ⟨[.int .i64 W[i].1.1, .int .i64 W[i].1.2]⟩,sv W[i].2.1 W[i].2.2.length,i⟩:MapEntry)∈entV W :=
 List.mem_of_getElem? (i:=i) (by unfold entV;rw[List.getElem?_mapIdx,List.getElem?_eq_getElem hi];rfl)
theorem XO {W:Wt} {i:Nat} (hi:i<W.length):(entV W).find? (fun e=>Nat.beq e.born i)=some ⟨.agg ⟨[.int .i64 W[i].1.1, .int .i64 W[i].1.2]⟩,sv W[i].2.1 W[i].2.2.length,i⟩:=by
 rw[List.find?_eq_some_iff_getElem];refine⟨by simp,i,by unfold entV;simpa using hi,by unfold entV;simp,fun j hj=>?_⟩;have e:((entV W)[j]'(by unfold entV;simp;omega)).born=j:=by unfold entV;simp
 show (!(Nat.beq _ i))=true;rw[e]
 cases hb:Nat.beq j i with
 | false=>rfl
 | true=>exact absurd (Nat.eq_of_beq_eq_true hb) (by omega)
theorem Ze (W:Wt) (seen:List Nat):(seen.toArray.isEmpty||(entV W).isEmpty || !((entV W).all (fun e=>decide (W.length<=e.born))))=true:=by
 cases W with
 | nil=>simp[entV]
 | cons p S=>simp[entV,List.mapIdx_cons]
theorem Yb {rows:List (Nat × Rw)} {M:Rw} (h:LfIn rows M) {r s:Int} {q:Nat × Rw} (hq:rows[r.toNat]? = some q) {k:Nat} {l:List Og} (hm:(k,l)∈M):LfIn (rows.set r.toNat (q.1,q.2.set s.toNat (k,l))) M :=
 (LfIn_set h hq k l).mono (fun x hx=>by
   rcases List.mem_cons.1 hx with h1 | h1
   ·rw[h1];exact hm
   ·exact h1)
theorem YY {W:Wt} {seen:List Nat} (hn:seen.Nodup) (hb : ∀ y∈seen,y<W.length) (hf : ∀ y,y<W.length->y∈seen):W.Perm (seen.map (fun i=>W[i]!)):=by
 have hp:seen.Perm (List.range W.length):=QK hn List.nodup_range (fun y=>by rw[List.mem_range];exact⟨hb y,hf y⟩)
 have he:(List.range W.length).map (fun i=>W[i]!)=W:=by
  apply List.ext_getElem
  ·simp
  ·intro i h1 h2
   simp;rw[getElem?_pos W i h2];rfl
 have:=hp.map (fun i=>W[i]!);rw[he] at this;exact this.symm
structure F5 where
 H:List Blk
 seen:List Nat
 rows:List (Nat × Rw)
structure F3 where
 H:List Blk
 i:Nat
 rows:List (Nat × Rw)
 M:Rw
structure F4 where
 H:List Blk
 mb:Nat
 j:Nat
 W:Wt
 M:Rw
structure F1 where
 H:List Blk
 rows:List (Nat × Rw)
 M:Rw
structure F2 where
 H:List Blk
 j:Nat
 es:Rw
 M:Rw
theorem hs_as {H0 H:List Blk} {o:Nat->Prop} {b:Nat} {X:List (Bool × Nat × Blk)} {vs vs' : List Value} (h:HS H0 o ((true,b, .cells true 2 vs)::X) H) (e:vs=vs'):HS H0 o ((true,b, .cells true 2 vs')::X) H:=e ▸ h
theorem wt_nd {W:Wt} {a b:Int} (h:(W.map Prod.fst).Nodup) (hf : ∀ w∈W,w.1≠(a,b)) (e:Nat × List Og):((W ++ [((a,b),e)]).map Prod.fst).Nodup:=by
 rw[List.map_append,List.nodup_append];refine⟨h,by simp,fun x hx y hy=>?_⟩;obtain ⟨w,hw,rfl⟩:=List.mem_map.1 hx;simp at hy;subst hy;exact hf w hw
theorem wt_ok {l:List Coll.St} {W:Wt} {M:Rw} {r n i j to ds:Nat} {z:Int} (h : ∀ w∈W,w.2∈M/\w.2.2≠[]/\w.2.2.length<=128/\(0<=w.1.1/\w.1.1<r)/\(0<=w.1.2/\w.1.2<n)/\∃ k,i<=k/\k<j/\l[k]!.rd=z/\w.1=(l[k]!.to,l[k]!.ds))
 (hn : ∃ k,i<=k/\k<j+1/\l[k]!.rd=z/\((to:Int),(ds:Int))=(l[k]!.to,l[k]!.ds)) (kJ:Nat) {J:List Og} (hJ:J≠[]) (hl:J.length<=128) (h1:0<=(to:Int)/\(to:Int)<r) (h2:0<=(ds:Int)/\(ds:Int)<n) :
 ∀ w∈W ++ [(((to:Int),(ds:Int)),(kJ,J))],w.2∈(kJ,J)::M/\w.2.2≠[]/\w.2.2.length<=128/\(0<=w.1.1/\w.1.1<r)/\(0<=w.1.2/\w.1.2<n)/\∃ k,i<=k/\k<j+1/\l[k]!.rd=z/\w.1=(l[k]!.to,l[k]!.ds):=fun w hw=>by
 rcases List.mem_append.1 hw with hw | hw
 ·obtain ⟨a,b,c,d,e,k,f1,f2,f3⟩:=h w hw
  exact⟨List.mem_cons_of_mem _ a,b,c,d,e,k,f1,by omega,f3⟩
 ·simp only[List.mem_singleton] at hw
  subst hw;exact⟨List.mem_cons_self,hJ,hl,h1,h2,hn⟩
theorem c102 {H:List Blk} {t:Tk} {alg:Int} {l:List Coll.St} {b c d:Nat} {R:Value->List Blk->Prop} (gr:Gr H t.sz b) (hst:Sts H l d) (hl:t.sz.length<=9223372036854775807) (hll:l.length<=9223372036854775807) (h0:sndF t l=0)
 (he:trcF t l=none->∀ H',HS H none' [] H' -> R (.tuple ⟨[.slice none 0 0, .bool false]⟩) H')
 (h : ∀ H' ob rows M,HS H none' ((true,ob, .cells true 1 (outC rows 0))::(rwL rows++lfL M)) H' -> LfIn rows M->Dim rows t.pr.toNat (sltF t).toNat->trcF t l=some (cont rows)->R (.tuple ⟨[sv ob rows.length, .bool true]⟩) H') :
 qj Tryz.prog 102 [schV t alg b c d l.length] H R:=by
 obtain ⟨w1,hd0⟩:=hst.s;obtain ⟨hchk,hok⟩:=snd_ok h0;have kt:=yz hchk;have hb:=ww kt;have hpr:=kt.pr;have hpa:=kt.pa;have hsl:sltF t=blkF t*t.pa:=by unfold sltF;rw[if_pos hchk]
 have hfr:=fun r x=>@XL t kt r x
 rw[<- hsl] at hb hfr;obtain ⟨n,hN⟩ : ∃ n:Nat,sltF t=n:=⟨(sltF t).toNat,by omega⟩;obtain ⟨p,hp⟩ : ∃ p:Nat,t.pr=p:=⟨t.pr.toNat,by omega⟩;have hst:stT t=(List.range p).map (fun r:Nat=>stR t n (r:Int)):=by unfold stT;rw[hp,hN,Int.toNat_natCast,Int.toNat_natCast]
 rw[hN] at h hok hb hfr hsl;rw[hp] at h hok;rw[Int.toNat_natCast,Int.toNat_natCast] at h;have hl:t.op=11->t.sz.length<=10:=fun e=>by have:=kt.dims e;omega
 refine qf tok Tryz.call102 Tryz.func102 rfl Tryz.ntmps102 rfl (by simp) ?_;refine qi ((HS.start H none').add (c:=false) hd0 (fun i p hi=>by simp at hi) (fun h=>by cases h)) (fun H1 b1 e1 l1 hs=>?_);refine qg (fun _ hKs=>hKs _ _ ?_);clear hKs;clear e1 l1
 repeat' (first|refine nY (fun K0 hK0=>?_)|refine zBw ?_|refine zNw (fun _ _ hs=>?_)|(refine hK0 _ _ ?_;clear hK0)|fail)
 refine⟨p,p,⟨hp,hp⟩,⟨Nat.le_refl _,by show _*(24+1)<=_;omega⟩,List.replicate p (.slice none 0 0),Yz p, ?_⟩;refine qi hs (fun H3 ob e3 l3 hs=>?_);clear e3 l3;refine qi hs (fun H4 cb e4 l4 hs=>?_);clear e4 l4
 repeat' (first|refine nY (fun K0 hK0=>?_)|refine zBw ?_|refine zNw (fun _ _ hs=>?_)|(refine hK0 _ _ ?_;clear hK0)|fail)
 refine qE (α := F1) tok (fun z=>HS H none' ((true,cb, .cells true 1 [sv ob p])::(true,ob, .cells true 1 (outC z.rows (p-z.rows.length)))::(true,b1,shB t alg b c d l.length)::(false,d, .cells w1 6 (stsC l))::(rwL z.rows++lfL z.M)) z.H/\z.rows.length<=p/\LfIn z.rows z.M/\cont z.rows=(List.range z.rows.length).map (fun r:Nat=>stR t n (r:Int)))
  (fun z=>[(1, .pointer (some ⟨b1,0,none⟩)),(4, .pointer (some ⟨cb,0,none⟩)),(22, .int .i64 (p:Int)),(23, .int .i64 (z.rows.length:Int))]) (fun z=>z.H) (fun z=>p-z.rows.length)
  ⟨_,[],[]⟩ ⟨hs,Nat.zero_le _,fun q hq=>absurd hq (by simp),rfl⟩ (Or.inl ⟨⟨rfl,rfl,rfl,rfl,trivial⟩,rfl⟩) ?_
 clear hs;rintro ⟨H4,rows,LL⟩ ⟨hs,hlen,hlf,hco⟩;dsimp only at hs hlen hlf hco ⊢;generalize hr:rows.length=r at *
 repeat' (first|refine nY (fun K0 hK0=>?_)|refine zBw ?_|refine zNw (fun _ _ hs=>?_)|(refine hK0 _ _ ?_;clear hK0)|fail)
 refine And.intro (fun hc=>?_) (fun hc=>?_)
 ·have hlt:r<p:=by simp at hc;omega
  clear hc
  repeat' (first|refine nY (fun K0 hK0=>?_)|refine zBw ?_|refine zNw (fun _ _ hs=>?_)|(refine hK0 _ _ ?_;clear hK0)|fail)
  refine qm tok mx [0,0,0,4,12,0,32,96,252,508,1023,2047] [true,false,false,false,false,true,true,true,true,true,false,false] (.first 1 (.first 2 (.first 3 (.first 5 (.first 6 (.alt 0 (.alt 4 (.first 7 (.first 8 (.first 9 (.first 10 (.first 11 .done))))) (.alt 7 (.first 4 (.first 8 (.first 9 (.first 10 (.first 11 .done))))) .no)) (.alt 4 (.first 0 (.first 7 (.first 8 (.first 9 (.first 10 (.first 11 .done)))))) (.alt 7 (.alt 0 (.first 4 (.first 8 (.first 9 (.first 10 (.first 11 .done))))) (.alt 4 (.first 0 (.first 8 (.first 9 (.first 10 (.first 11 .done))))) .no)) .no)))))))) (by kernel_rfl) ?_;refine ql (fun K0 hK0=>?_)
  repeat' (first|refine nY (fun K0 hK0=>?_)|refine zBw ?_|refine zNw (fun _ _ hs=>?_)|(refine hK0 _ _ ?_;clear hK0)|fail)
  iterate 8 (
   all_goals try exact trivial
   all_goals try (refine c87 hl hpr (fun H5 hn=>?_);have hs:=qK hs hn;clear hn)
   all_goals try (first | refine And.intro ?_ trivial | refine And.intro ?_ (And.intro ?_ trivial) | refine And.intro ?_ (And.intro ?_ (And.intro ?_ trivial)))
   all_goals try (
    repeat' (first|refine nY (fun K0 hK0=>?_)|refine zBw ?_|refine zNw (fun _ _ hs=>?_)|(refine hK0 _ _ ?_;clear hK0)|fail)
    ))
  -- P1
  all_goals (
   refine⟨n,n,⟨hsl.symm,hsl.symm⟩,⟨Nat.le_refl _,by show _*(24+1)<=_;omega⟩,rowC (List.replicate n (0,[])),by rw[<- nils_row];exact Yz n, ?_⟩;refine qi hs (fun H5 rb e5 l5 hs=>?_);clear e5 l5
   repeat' (first|refine nY (fun K0 hK0=>?_)|refine zBw ?_|refine zNw (fun _ _ hs=>?_)|(refine hK0 _ _ ?_;clear hK0)|fail)
   refine vz hs 2 rfl (outC (rows ++ [(rb,List.replicate n (0,[]))]) (p-r-1)) rfl rfl (by rw[outC_len];show 0+r*1+1<=_;omega) (outC_at hr (by omega) (by simp)) (fun H6 e6 hs=>?_);clear e6
   repeat' (first|refine nY (fun K0 hK0=>?_)|refine zBw ?_|refine zNw (fun _ _ hs=>?_)|(refine hK0 _ _ ?_;clear hK0)|fail)
   refine c92 kt (by omega) (fun H7 kI hn=>?_);have hs:=(hs.call hn rfl).pickR (A := [_,_,_,_,_,_]) [1,3,0,2,4,5] (by decide) (A' := [_,_,_,_,_,_]) rfl;clear hn;have hstr:stR t n r=(fstF t r).foldl (fun row i=>row.set i.toNat [((r:Int),i)]) (List.replicate n []):=rfl;have hfr:=fun x=>hfr r x (by omega)
   have hfl:=YG kt r;generalize fstF t r=fs at hs hstr hfr hfl ⊢
   repeat' (first|refine nY (fun K0 hK0=>?_)|refine zBw ?_|refine zNw (fun _ _ hs=>?_)|(refine hK0 _ _ ?_;clear hK0)|fail)
   refine qE (α := F2) tok (fun z=>HS H none' ((true,rb,rowB z.es)::(true,ob, .cells true 1 (outC (rows ++ [(rb,z.es)]) (p-r-1)))::(true,kI,rw' fs)::(true,cb, .cells true 1 [sv ob p])::(true,b1,shB t alg b c d l.length)::(false,d, .cells w1 6 (stsC l))::(rwL rows++lfL z.M)) z.H/\z.j<=fs.length/\z.es.length=n/\LfR z.es z.M/\LfIn rows z.M/\z.es.map Prod.snd=(fs.take z.j).foldl (fun row i=>row.set i.toNat [((r:Int),i)]) (List.replicate n []))
    (fun z=>[(1, .pointer (some ⟨b1,0,none⟩)),(4, .pointer (some ⟨cb,0,none⟩)),(5, .int .i64 (r:Int)),(22, .int .i64 (p:Int)),(23, .int .i64 (r:Int)),(40,sv kI fs.length),(41, .int .i64 fs.length),(42, .int .i64 (z.j:Int))]) (fun z=>z.H) (fun z=>fs.length-z.j)
    ⟨H7,0,List.replicate n (0,[]),LL⟩ ⟨hs,Nat.zero_le _,by simp,LfR_nil n LL,hlf,by simp⟩ (Or.inl ⟨⟨rfl,rfl,rfl,rfl,rfl,rfl,rfl,rfl,trivial⟩,rfl⟩) ?_
   clear hs hlf;rintro ⟨H8,j,es,L2⟩ ⟨hs,hj,hes,hlr,hlf,hfo⟩;dsimp only at hs hj hes hlr hlf hfo ⊢
   repeat' (first|refine nY (fun K0 hK0=>?_)|refine zBw ?_|refine zNw (fun _ _ hs=>?_)|(refine hK0 _ _ ?_;clear hK0)|fail)
   refine And.intro (fun hc=>?_) (fun hc=>?_)
   ·have hjt:j<fs.length:=by simp at hc;omega
    clear hc
    have hog:(outC (rows ++ [(rb,es)]) (p-r-1))[r]? = some (sv rb n):=by
     rw[<- hes];exact xZ _ _ _ (rb,es) (by rw[<- hr];simp)
    obtain ⟨x,hx⟩ : ∃ x:Nat,fs[j]! = (x:Int):=⟨fs[j]!.toNat,by have:=hfr _ (getElem!_pos fs j hjt ▸ List.getElem_mem hjt);omega⟩;have hxn:x<n:=by have:=hfr _ (getElem!_pos fs j hjt ▸ List.getElem_mem hjt);omega
    have hft:=fold_take (fun (row:List (List Og)) i=>row.set i.toNat [((r:Int),i)]) (List.replicate n []) fs hjt;rw[<- hfo,hx] at hft
    repeat' (first|refine nY (fun K0 hK0=>?_)|refine zBw ?_|refine zNw (fun _ _ hs=>?_)|(refine hK0 _ _ ?_;clear hK0)|fail)
    refine Ld_ak hjt hx ?_
    repeat' (first|refine nY (fun K0 hK0=>?_)|refine zBw ?_|refine zNw (fun _ _ hs=>?_)|(refine hK0 _ _ ?_;clear hK0)|fail)
    refine xu hog ?_
    repeat' (first|refine nY (fun K0 hK0=>?_)|refine zBw ?_|refine zNw (fun _ _ hs=>?_)|(refine hK0 _ _ ?_;clear hK0)|fail)
    refine vz hs 1 rfl _ rfl rfl (by rw[ZC,hes];show 0+x*1+1<=_;omega) (rowC_at (es:=es) (x:=(x:Int)) (i:=x) (l := [((r:Int),(x:Int))]) rfl) (fun H9 e9 hs=>?_);clear e9;have hs:=WA (A := [_,_,_,_,_,_]) (R:=rwL rows) (M:=L2) (l := [((r:Int),(x:Int))]) (hs.pickR (A := [_,_,_,_,_,_,_]) [1,2,3,4,5,6,0] (by decide) (A' := [_,_,_,_,_,_,_]) rfl)
    repeat' (first|refine nY (fun K0 hK0=>?_)|refine zBw ?_|refine zNw (fun _ _ hs=>?_)|(refine hK0 _ _ ?_;clear hK0)|fail)
    exact⟨⟨H9,j+1,_,_⟩,⟨step_fin hs (by rw[List.length_set]),hjt,by dsimp only;rw[List.length_set];exact hes,LfR_set hlr _ _ _,hlf.mono (fun _ h=>List.mem_cons_of_mem _ h),by dsimp only;rw[List.map_set];exact hft.symm⟩,by dsimp only;omega,Or.inl ⟨⟨rfl,rfl,rfl,rfl,rfl,rfl,rfl,rfl,trivial⟩,rfl⟩⟩
   ·have hje:j=fs.length:=by simp at hc;omega
    subst hje;rw[List.take_length,<- hstr] at hfo
    repeat' (first|refine nY (fun K0 hK0=>?_)|refine zBw ?_|refine zNw (fun _ _ hs=>?_)|(refine hK0 _ _ ?_;clear hK0)|fail)
    have hs:=((hs.pickR (A := [_,_,_,_,_,_]) [3,1,4,5,0] (by decide) (A' := [_,_,_,_,_]) rfl)).toEnd (A := [_,_,_,_]) (R:=rwL rows) (LL:=lfL L2);refine⟨⟨H8,rows ++ [(rb,es)],L2⟩,⟨?_,by dsimp only;rw[List.length_append,hr];exact hlt,fun q hq=>?_, ?_⟩,by dsimp only;rw[List.length_append,hr,List.length_singleton];omega,Or.inl ⟨⟨rfl,rfl,rfl, ?_,trivial⟩,rfl⟩⟩
    ·dsimp only
     rw[rwL_snoc,List.length_append,hr];exact hs
    ·rcases List.mem_append.1 hq with h1 | h1
     ·exact hlf q h1
     ·simp at h1
      subst h1;exact hlr
    ·dsimp only
     unfold cont at hco ⊢;rw[List.map_append,hco,List.length_append,hr];show _ ++ [es.map Prod.snd]=(List.range (r+1)).map _;rw[hfo,List.range_succ,List.map_append];rfl
    ·dsimp only
     rw[List.length_append,hr]
     rfl)
  -- P1E
 ·have hie:r=p:=by simp at hc;omega
  subst hie;have hdm:Dim rows r n:=dim_start hp hN (by rw[hco,hst]);rw[Nat.sub_self] at hs;have hco:cont rows=stT t:=by rw[hco,hst]
  clear hst hfr
  repeat' (first|refine nY (fun K0 hK0=>?_)|refine zBw ?_|refine zNw (fun _ _ hs=>?_)|(refine hK0 _ _ ?_;clear hK0)|fail)
  refine qE (α := F3) tok (fun z=>HS H none' ((true,cb, .cells true 1 [sv ob r])::(true,ob, .cells true 1 (outC z.rows 0))::(true,b1,shB t alg b c d l.length)::(false,d, .cells w1 6 (stsC l))::(rwL z.rows++lfL z.M)) z.H/\z.i<=l.length/\LfIn z.rows z.M/\Dim z.rows r n/\∃ r0 now0,trcF t l=goT r0 now0 (cont z.rows) (l.drop z.i)/\(z.i<l.length->r0≠some l[z.i]!.rd))
   (fun z=>[(1, .pointer (some ⟨b1,0,none⟩)),(4, .pointer (some ⟨cb,0,none⟩)),(8, .int .i64 (z.i:Int))]) (fun z=>z.H) (fun z=>l.length-z.i)
   ⟨H4,0,rows,LL⟩ ⟨hs,Nat.zero_le _,hlf,hdm,none,stT t,by rw[hco];rfl,fun _ h=>by cases h⟩ (Or.inl ⟨⟨rfl,rfl,rfl,trivial⟩,rfl⟩) ?_
  clear hs hdm hlf hco hlen hr;rintro ⟨H5,i,rows,M⟩ ⟨hs,hi,hlf,hdm,r0,now0,htr,hne⟩;dsimp only at hs hi hlf hdm htr hne ⊢
  repeat' (first|refine nY (fun K0 hK0=>?_)|refine zBw ?_|refine zNw (fun _ _ hs=>?_)|(refine hK0 _ _ ?_;clear hK0)|fail)
  refine And.intro (fun hc=>?_) (fun hc=>?_)
  ·have hlt:i<l.length:=by simp at hc;omega
   clear hc;have hne:=hne hlt
   have htr:trcF t l=goT (some l[i]!.rd) (cont rows) (cont rows) (l.drop i):=by
    rw[htr,drop_at hlt,goT_new hne]
   clear hne
   repeat' (first|refine nY (fun K0 hK0=>?_)|refine zBw ?_|refine zNw (fun _ _ hs=>?_)|(refine hK0 _ _ ?_;clear hK0)|fail)
   refine qE (α := F4) tok (fun z=>HS H none' ((true,z.mb,mpV z.W)::(true,cb, .cells true 1 [sv ob r])::(true,ob, .cells true 1 (outC rows 0))::(true,b1,shB t alg b c d l.length)::(false,d, .cells w1 6 (stsC l))::(rwL rows++lfL z.M)) z.H/\(i<=z.j/\z.j<=l.length)/\LfIn rows z.M/\(∀ w∈z.W,w.2∈z.M/\w.2.2≠[]/\w.2.2.length<=128/\(0<=w.1.1/\w.1.1<r)/\(0<=w.1.2/\w.1.2<n)/\∃ k,i<=k/\k<z.j/\l[k]!.rd=l[i]!.rd/\w.1=(l[k]!.to,l[k]!.ds))/\(z.W.map Prod.fst).Nodup/\trcF t l=goT (some l[i]!.rd) (cont rows) (putW (cont rows) z.W) (l.drop z.j))
    (fun z=>[(1, .pointer (some ⟨b1,0,none⟩)),(4, .pointer (some ⟨cb,0,none⟩)),(8, .int .i64 (i:Int)),(9, .int .i64 (z.j:Int)),(10, .map (some z.mb))]) (fun z=>z.H) (fun z=>l.length-z.j)
    ⟨_,_,i,[],M⟩ ⟨hs,⟨Nat.le_refl _,hi⟩,hlf,fun w hw=>absurd hw (by simp),by simp,htr⟩ (Or.inl ⟨⟨rfl,rfl,rfl,rfl,rfl,trivial⟩,rfl⟩) ?_
   clear hs hlf htr;rintro ⟨H7,mb,j,W,M3⟩ ⟨hs,⟨hij,hj⟩,hlf,hW,hnd,htr⟩;dsimp only at hs hij hj hlf hW hnd htr ⊢;by_cases hgo:j<l.length/\l[j]!.rd=l[i]!.rd
   ·obtain ⟨hjl,hrd⟩:=hgo
    have hyf : ∀ w∈W,w.1≠(l[j]!.to,l[j]!.ds):=fun w hw e=>by
     obtain ⟨_,_,_,_,_,k,k1,k2,k3,k4⟩:=hW w hw;exact snd_fresh h0 k2 hjl (k3.trans hrd.symm) (k4.symm.trans e)
    refine qm tok mx [0,0,2,6,15,31,63,127,63,511,1023,2047,63,4159,63,28735,61503,127039,262143,524287] [false,false,false,false,false,false,false,false,true,false,false,false,true,true,true,true,true,true,false,false] (.first 0 (.first 1 (.first 2 (.first 3 (.first 4 (.first 5 (.first 6 (.first 7 (.first 8 (.first 9 (.first 10 (.first 11 (.first 12 (.first 13 (.first 14 (.first 15 (.first 16 (.first 17 (.first 18 (.first 19 .done)))))))))))))))))))) (by kernel_rfl) ?_;refine ql (fun K0 hK0=>?_)
    repeat' (first|refine nY (fun K0 hK0=>?_)|refine zBw ?_|refine zNw (fun _ _ hs=>?_)|((refine dI (fun hc=>?_) (fun hc=>?_)) <;> (try dsimp only at hc) <;> (try (exfalso;omega)))|(refine hK0 _ _ ?_;clear hK0)|fail)
    iterate 8 (
     all_goals try exact trivial
     all_goals try (first | refine uA (k:=0) hjl (by decide) rfl ?_ | refine uA (k:=0) hlt (by decide) rfl ?_)
     all_goals try (first | refine And.intro ?_ trivial | refine And.intro ?_ (And.intro ?_ trivial) | refine And.intro ?_ (And.intro ?_ (And.intro ?_ trivial)))
     all_goals try (
      repeat' (first|refine nY (fun K0 hK0=>?_)|refine zBw ?_|refine zNw (fun _ _ hs=>?_)|((refine dI (fun hc=>?_) (fun hc=>?_)) <;> (try dsimp only at hc) <;> (try (exfalso;omega)))|(refine hK0 _ _ ?_;clear hK0)|fail)
      ))
    have hy:=hok l[j]! (getElem!_pos l j hjl ▸ List.getElem_mem hjl);rw[drop_at hjl,<- hrd] at htr;refine uA (k:=1) hjl (by decide) rfl (uA (k:=2) hjl (by decide) rfl (uA (k:=3) hjl (by decide) rfl (uA (k:=4) hjl (by decide) rfl (uA (k:=5) hjl (by decide) rfl ?_))));have hnew : ∃ k,i<=k/\k<j+1/\l[k]!.rd=l[i]!.rd/\(l[j]!.to,l[j]!.ds)=(l[k]!.to,l[k]!.ds):=⟨j,hij,by omega,hrd,rfl⟩;generalize l[j]! = y at hy hrd htr hyf hnew ⊢
    repeat' (first|refine nY (fun K0 hK0=>?_)|refine zBw ?_|refine zNw (fun _ _ hs=>?_)|((refine dI (fun hc=>?_) (fun hc=>?_)) <;> (try dsimp only at hc) <;> (try (exfalso;omega)))|(refine hK0 _ _ ?_;clear hK0)|fail)
    have hs:=hs.pickR (A := [_,_,_,_,_,_]) [0,1,2,3,4,5] (by decide) (A' := [_,_,_,_,_,_]) rfl;obtain ⟨yrd,yfr,yto,ysr,yds,yjn⟩:=y;obtain ⟨y1,y2,y3,y4,y5⟩:=hy;dsimp only at y1 y2 y3 y4 y5 hrd hyf hnew;obtain ⟨fr,rfl⟩ : ∃ k:Nat,yfr=k:=⟨yfr.toNat,by omega⟩;obtain ⟨to,rfl⟩ : ∃ k:Nat,yto=k:=⟨yto.toNat,by omega⟩;obtain ⟨sr,rfl⟩ : ∃ k:Nat,ysr=k:=⟨ysr.toNat,by omega⟩;obtain ⟨ds,rfl⟩ : ∃ k:Nat,yds=k:=⟨yds.toNat,by omega⟩;obtain ⟨q1,e1,a1,a2,a3,a4,a5,a6,a7⟩:=hdm.at y1 y3;obtain ⟨q2,e2,c1,c2,c3,c4,c5,c6,c7⟩:=hdm.at y2 y4;rw[Int.toNat_natCast] at a1 a2 c1 c2;have ho1:=xZ rows 0 fr q1 a1;have ho2:=xZ rows 0 to q2 c1;rw[a5] at ho1;rw[c5] at ho2;have hr1:(rowC q1.2)[sr]? = some (lfV e1.1 e1.2):=by unfold rowC;rw[List.getElem?_map,a2];rfl
    have hr2:(rowC q2.2)[ds]? = some (lfV e2.1 e2.2):=by unfold rowC;rw[List.getElem?_map,c2];rfl
    have hb1:=hs.mem (c:=true) (b:=q1.1) (B:=rowB q1.2) (List.mem_append_right _ (List.mem_append_left _ (QF a3)));have hb2:=hs.mem (c:=true) (b:=q2.1) (B:=rowB q2.2) (List.mem_append_right _ (List.mem_append_left _ (QF c3)));have f1:e1.2≠[]->(true,e1.1,ogB e1.2)∈rwL rows++lfL M3:=fun h=>List.mem_append_right _ (ZR (hlf q1 a3 e1 a4 h))
    have f2:e2.2≠[]->(true,e2.1,ogB e2.2)∈rwL rows++lfL M3:=fun h=>List.mem_append_right _ (ZR (hlf q2 c3 e2 c4 h))
    have hst:stpL (cont rows) ⟨yrd,fr,to,sr,ds,yjn⟩=joinL yjn e2.2 e1.2:=by
     unfold stpL;dsimp only;rw[a7,c7]
    refine qm tok mx [0,0,2,7,15,0,32,127,255,0,0,1024,3584,7680,0,16384,65024,130560,511,524287] [false,true,true,false,false,true,true,false,false,true,true,true,true,true,true,true,true,true,true,false] (.first 0 (.first 1 (.first 2 (.first 3 (.first 4 (.first 5 (.first 6 (.first 7 (.first 8 (.first 9 (.first 10 (.first 11 (.first 12 (.first 13 (.first 14 (.first 15 (.first 16 (.first 17 (.first 18 (.first 19 .done)))))))))))))))))))) (by kernel_rfl) ?_;refine ql (fun K0 hK0=>?_)
    repeat' (first|refine nY (fun K0 hK0=>?_)|refine zBw ?_|refine zNw (fun _ _ hs=>?_)|(refine hK0 _ _ ?_;clear hK0)|fail)
    iterate 12 (
     all_goals try exact trivial
     all_goals try (first | refine xu ho1 ?_ | refine xu hr1 ?_ | refine qH hb1 ?_ | refine qG hb1 ?_ | refine xu ho2 ?_ | refine xu hr2 ?_ | refine qH hb2 ?_ | refine qG hb2 ?_)
     all_goals try (first | refine And.intro ?_ trivial | refine And.intro ?_ (And.intro ?_ trivial) | refine And.intro ?_ (And.intro ?_ (And.intro ?_ trivial)))
     all_goals try (
      repeat' (first|refine nY (fun K0 hK0=>?_)|refine zBw ?_|refine zNw (fun _ _ hs=>?_)|(refine hK0 _ _ ?_;clear hK0)|fail)
      ))
    have hj3:yjn=0\/yjn=1\/yjn=2:=by omega
    by_cases hcm:e1.2 = []
    ·have hbad:trcF t l=none:=by
      rw[htr];exact WB (.inl (by dsimp only;rw[a7];exact hcm))
     refine c192 (k:=e1.1) (l:=e1.2) (Lf_of hs (fun h=>List.mem_append_right _ (f1 h))) (by omega) (fun _ H9 hn=>?_) (fun hx=>absurd hcm hx);have hs:=qK hs hn;clear hn;rw[hcm];rcases hj3 with ej | ej | ej
     ·skip
      repeat' (first|refine nY (fun K0 hK0=>?_)|refine zBw ?_|refine zNw (fun _ _ hs=>?_)|((refine dI (fun hc=>?_) (fun hc=>?_)) <;> (try dsimp only at hc) <;> (try (exfalso;omega)))|(refine hK0 _ _ ?_;clear hK0)|fail)
      exact he hbad _ (qc hs)
     ·have hn2 : ∃ v2,lfV e2.1 e2.2=v2/\(v2 = .slice none 0 0\/v2=sv e2.1 e2.2.length):=by
       by_cases hc2:e2.2 = []
       ·rw[hc2];exact⟨_,rfl, .inl rfl⟩
       ·exact⟨_,rfl, .inr (zL hc2)⟩
      obtain ⟨v2,hv2,hv3⟩:=hn2;rw[hv2];rcases hv3 with rfl | rfl
      all_goals (
       repeat' (first|refine nY (fun K0 hK0=>?_)|refine zBw ?_|refine zNw (fun _ _ hs=>?_)|((refine dI (fun hc=>?_) (fun hc=>?_)) <;> (try dsimp only at hc) <;> (try (exfalso;omega)))|(refine hK0 _ _ ?_;clear hK0)|fail)
       refine c193 (l1 := []) (k1:=0) (l2:=e2.2) (k2:=e2.1) (by rw[hv2];exact hs.get 0 rfl) (.inl rfl) (Lf_of hs (fun h=>List.mem_cons_of_mem _ (List.mem_append_right _ (f2 h)))) (by simp) (by omega) (fun _ H10 hn=>?_) (fun _ H10 k hn=>?_)
       ·have hs:=qK hs hn
        clear hn
        repeat' (first|refine nY (fun K0 hK0=>?_)|refine zBw ?_|refine zNw (fun _ _ hs=>?_)|((refine dI (fun hc=>?_) (fun hc=>?_)) <;> (try dsimp only at hc) <;> (try (exfalso;omega)))|(refine hK0 _ _ ?_;clear hK0)|fail)
        exact he hbad _ (qc hs)
       ·have hs:=qK hs (qc hn)
        clear hn
        repeat' (first|refine nY (fun K0 hK0=>?_)|refine zBw ?_|refine zNw (fun _ _ hs=>?_)|((refine dI (fun hc=>?_) (fun hc=>?_)) <;> (try dsimp only at hc) <;> (try (exfalso;omega)))|(refine hK0 _ _ ?_;clear hK0)|fail)
        exact he hbad _ (qc hs))
     ·have hn2 : ∃ v2,lfV e2.1 e2.2=v2/\(e2.2 = []/\v2 = .slice none 0 0\/e2.2≠[]/\v2=sv e2.1 e2.2.length):=by
       by_cases hc2:e2.2 = []
       ·exact⟨_,rfl, .inl ⟨hc2,by rw[hc2];rfl⟩⟩
       ·exact⟨_,rfl, .inr ⟨hc2,zL hc2⟩⟩
      obtain ⟨v2,hv2,hv3⟩:=hn2;rw[hv2];rcases hv3 with ⟨hc2,rfl⟩ | ⟨hc2,rfl⟩
      ·skip
       repeat' (first|refine nY (fun K0 hK0=>?_)|refine zBw ?_|refine zNw (fun _ _ hs=>?_)|((refine dI (fun hc=>?_) (fun hc=>?_)) <;> (try dsimp only at hc) <;> (try (exfalso;omega)))|(refine hK0 _ _ ?_;clear hK0)|fail)
       refine⟨0,0,⟨by omega,by omega⟩,⟨Nat.le_refl _,by decide⟩,[],rfl, ?_⟩
       repeat' (first|refine nY (fun K0 hK0=>?_)|refine zBw ?_|refine zNw (fun _ _ hs=>?_)|((refine dI (fun hc=>?_) (fun hc=>?_)) <;> (try dsimp only at hc) <;> (try (exfalso;omega)))|(refine hK0 _ _ ?_;clear hK0)|fail)
       exact he hbad _ (qc hs)
      ·have hcl2:e2.2.length≠0:=fun e=>hc2 (List.length_eq_zero_iff.1 e)
       repeat' (first|refine nY (fun K0 hK0=>?_)|refine zBw ?_|refine zNw (fun _ _ hs=>?_)|((refine dI (fun hc=>?_) (fun hc=>?_)) <;> (try dsimp only at hc) <;> (try (exfalso;omega)))|(refine hK0 _ _ ?_;clear hK0)|fail)
       refine⟨e2.2.length,e2.2.length,⟨by omega,by omega⟩,⟨Nat.le_refl _,by show _*(16+1)<=_;omega⟩,vg e2.2.length [.int .i64 0, .int .i64 0],rfl, ?_⟩;refine qi hs (fun H10 k e10 l10 hs=>?_);clear e10 l10
       repeat' (first|refine nY (fun K0 hK0=>?_)|refine zBw ?_|refine zNw (fun _ _ hs=>?_)|((refine dI (fun hc=>?_) (fun hc=>?_)) <;> (try dsimp only at hc) <;> (try (exfalso;omega)))|(refine hK0 _ _ ?_;clear hK0)|fail)
       rw[show min e2.2.length e2.2.length=e2.2.length from by omega];refine Or.inr (And.intro (by omega) ?_);have hleaf:=(hs.mem (List.mem_cons_of_mem _ (List.mem_append_right _ (f2 hc2))));simp only[hs.get 0 rfl,hleaf];have ecx:((orgC e2.2).drop 0).take (e2.2.length*2)=orgC e2.2:=by rw[List.drop_zero,List.take_of_length_le (by rw[qP];omega)]
       refine⟨⟨by rw[qP];show 0+_*2<=_;omega,by rw[yB];show 0+_*2<=_;omega,(by show (((orgC e2.2).drop 0).take (e2.2.length*2)).all qU=true;rw[ecx];exact yc _)⟩,setSeg _ _ (orgC e2.2),(by show setSeg _ _ (((orgC e2.2).drop 0).take (e2.2.length*2))=_;rw[ecx]), ?_⟩;refine wY (hs.lt 0 rfl) fun H11 h1 h2 h3=>?_
       have hs:=hs.set 0 rfl h1 h2 h3;clear h1 h2 h3 ecx hleaf
       repeat' (first|refine nY (fun K0 hK0=>?_)|refine zBw ?_|refine zNw (fun _ _ hs=>?_)|((refine dI (fun hc=>?_) (fun hc=>?_)) <;> (try dsimp only at hc) <;> (try (exfalso;omega)))|(refine hK0 _ _ ?_;clear hK0)|fail)
       exact he hbad _ (qc hs)
    ·refine c192 (k:=e1.1) (l:=e1.2) (Lf_of hs (fun h=>List.mem_append_right _ (f1 h))) (by omega) (fun hx=>absurd hx hcm) (fun _ H9 kc hn=>?_)
     have hs:=(hs.call hn rfl).pickR (A := [_,_,_,_,_,_,_]) [0,1,2,3,4,5,6] (by decide) (A' := [_,_,_,_,_,_,_]) rfl;clear hn;have hcl:e1.2.length≠0:=fun e=>hcm (List.length_eq_zero_iff.1 e)
     rcases hj3 with ej | ej | ej
     ·have hJ:joinL yjn e2.2 e1.2=e1.2:=by rw[ej];rfl
      have hjne:e1.2≠[]:=hcm;rw[zL hcm];obtain ⟨J,hJe⟩ : ∃ J,J=e1.2:=⟨_,rfl⟩
      replace hJ:=hJ.trans hJe.symm
      have hJl:J.length=(e1.2).length:=by rw[hJe]
      rw[<- hJe] at hs hjne ⊢;by_cases h128:128<J.length
      ·have hbad:trcF t l=none:=by
        rw[htr];exact WB (.inr (by rw[hst,hJ];exact h128))
       first
        | (exfalso;omega)
        | skip
       all_goals (
        repeat' (first|refine nY (fun K0 hK0=>?_)|refine zBw ?_|refine zNw (fun _ _ hs=>?_)|((refine dI (fun hc=>?_) (fun hc=>?_)) <;> (try dsimp only at hc) <;> (try (exfalso;omega)))|(refine hK0 _ _ ?_;clear hK0)|fail)
        )
       all_goals exact he hbad _ (qc hs)
      ·have htr:trcF t l=goT (some l[i]!.rd) (cont rows) (putW (cont rows) (W ++ [(((to:Int),(ds:Int)),(kc,J))])) (l.drop (j+1)):=by
        rw[htr,VB (by dsimp only;rw[hst,hJ,a7];exact fun e=>e.elim hcm h128),hst,hJ,xH,<- hrd]
       repeat' (first|refine nY (fun K0 hK0=>?_)|refine zBw ?_|refine zNw (fun _ _ hs=>?_)|((refine dI (fun hc=>?_) (fun hc=>?_)) <;> (try dsimp only at hc) <;> (try (exfalso;omega)))|(refine hK0 _ _ ?_;clear hK0)|fail)
       refine Zp hs 2 rfl hyf (fun H10 hs=>?_);have hs:=WA (A := [_,_,_,_,_]) (R:=rwL rows) (M:=M3) (l:=J) (hs.pickR (A := [_,_,_,_,_,_,_]) [2,3,4,5,6,0] (by decide) (A' := [_,_,_,_,_,_]) rfl)
       repeat' (first|refine nY (fun K0 hK0=>?_)|refine zBw ?_|refine zNw (fun _ _ hs=>?_)|((refine dI (fun hc=>?_) (fun hc=>?_)) <;> (try dsimp only at hc) <;> (try (exfalso;omega)))|(refine hK0 _ _ ?_;clear hK0)|fail)
       exact⟨⟨H10,mb,j+1,_,_⟩,⟨hs,⟨by dsimp only;omega,hjl⟩,hlf.mono (fun _ h=>List.mem_cons_of_mem _ h),wt_ok hW hnew kc hjne (by omega) y2 y4,wt_nd hnd hyf _,htr⟩,by dsimp only;omega,Or.inl ⟨⟨rfl,rfl,rfl,rfl,rfl,trivial⟩,rfl⟩⟩
     ·have hJ:joinL yjn e2.2 e1.2=e1.2++e2.2:=by rw[ej];rfl
      have hjne:e1.2++e2.2≠[]:=fun e=>hcm (List.append_eq_nil_iff.1 e).1
      have hn2 : ∃ v2,lfV e2.1 e2.2=v2/\(v2 = .slice none 0 0\/v2=sv e2.1 e2.2.length):=by
       by_cases hc2:e2.2 = []
       ·rw[hc2];exact⟨_,rfl, .inl rfl⟩
       ·exact⟨_,rfl, .inr (zL hc2)⟩
      obtain ⟨v2,hv2,hv3⟩:=hn2;rw[hv2,zL hcm];rcases hv3 with rfl | rfl
      all_goals (
       repeat' (first|refine nY (fun K0 hK0=>?_)|refine zBw ?_|refine zNw (fun _ _ hs=>?_)|((refine dI (fun hc=>?_) (fun hc=>?_)) <;> (try dsimp only at hc) <;> (try (exfalso;omega)))|(refine hK0 _ _ ?_;clear hK0)|fail)
       refine c193 (l1:=e1.2) (k1:=e1.1) (l2:=e2.2) (k2:=e2.1) (by rw[hv2,zL hcm];exact hs.get 0 rfl) (Lf_of hs (fun h=>List.mem_cons_of_mem _ (List.mem_append_right _ (f1 h)))) (Lf_of hs (fun h=>List.mem_cons_of_mem _ (List.mem_append_right _ (f2 h)))) (by omega) (by omega) (fun hx=>absurd hx hjne) (fun _ H10 k hn=>?_);have hs:=(hs.call hn rfl).pickR (A := [_,_,_,_,_,_,_,_,_]) [0,3,4,5,6,7,8] (by decide) (A' := [_,_,_,_,_,_,_]) rfl;clear hn;obtain ⟨J,hJe⟩ : ∃ J,J=e1.2++e2.2:=⟨_,rfl⟩
       replace hJ:=hJ.trans hJe.symm
       have hJl:J.length=(e1.2++e2.2).length:=by rw[hJe]
       rw[<- hJe] at hs hjne ⊢;by_cases h128:128<J.length
       ·have hbad:trcF t l=none:=by
         rw[htr];exact WB (.inr (by rw[hst,hJ];exact h128))
        first
         | (exfalso;omega)
         | skip
        all_goals (
         repeat' (first|refine nY (fun K0 hK0=>?_)|refine zBw ?_|refine zNw (fun _ _ hs=>?_)|((refine dI (fun hc=>?_) (fun hc=>?_)) <;> (try dsimp only at hc) <;> (try (exfalso;omega)))|(refine hK0 _ _ ?_;clear hK0)|fail)
         )
        all_goals exact he hbad _ (qc hs)
       ·have htr:trcF t l=goT (some l[i]!.rd) (cont rows) (putW (cont rows) (W ++ [(((to:Int),(ds:Int)),(k,J))])) (l.drop (j+1)):=by
         rw[htr,VB (by dsimp only;rw[hst,hJ,a7];exact fun e=>e.elim hcm h128),hst,hJ,xH,<- hrd]
        repeat' (first|refine nY (fun K0 hK0=>?_)|refine zBw ?_|refine zNw (fun _ _ hs=>?_)|((refine dI (fun hc=>?_) (fun hc=>?_)) <;> (try dsimp only at hc) <;> (try (exfalso;omega)))|(refine hK0 _ _ ?_;clear hK0)|fail)
        refine Zp hs 2 rfl hyf (fun H10 hs=>?_);have hs:=WA (A := [_,_,_,_,_]) (R:=rwL rows) (M:=M3) (l:=J) (hs.pickR (A := [_,_,_,_,_,_,_]) [2,3,4,5,6,0] (by decide) (A' := [_,_,_,_,_,_]) rfl)
        repeat' (first|refine nY (fun K0 hK0=>?_)|refine zBw ?_|refine zNw (fun _ _ hs=>?_)|((refine dI (fun hc=>?_) (fun hc=>?_)) <;> (try dsimp only at hc) <;> (try (exfalso;omega)))|(refine hK0 _ _ ?_;clear hK0)|fail)
        exact⟨⟨H10,mb,j+1,_,_⟩,⟨hs,⟨by dsimp only;omega,hjl⟩,hlf.mono (fun _ h=>List.mem_cons_of_mem _ h),wt_ok hW hnew k hjne (by omega) y2 y4,wt_nd hnd hyf _,htr⟩,by dsimp only;omega,Or.inl ⟨⟨rfl,rfl,rfl,rfl,rfl,trivial⟩,rfl⟩⟩
       )
     ·have hJ:joinL yjn e2.2 e1.2=e2.2++e1.2:=by rw[ej];rfl
      have hjne:e2.2++e1.2≠[]:=fun e=>hcm (List.append_eq_nil_iff.1 e).2
      have hla:(e2.2++e1.2).length=e2.2.length+e1.2.length:=List.length_append
      have hn2 : ∃ v2,lfV e2.1 e2.2=v2/\(e2.2 = []/\v2 = .slice none 0 0\/e2.2≠[]/\v2=sv e2.1 e2.2.length):=by
       by_cases hc2:e2.2 = []
       ·exact⟨_,rfl, .inl ⟨hc2,by rw[hc2];rfl⟩⟩
       ·exact⟨_,rfl, .inr ⟨hc2,zL hc2⟩⟩
      obtain ⟨v2,hv2,hv3⟩:=hn2;rw[hv2,zL hcm];rcases hv3 with ⟨hc2,rfl⟩ | ⟨hc2,rfl⟩
      ·have hz2:e2.2.length=0:=by rw[hc2];rfl
       repeat' (first|refine nY (fun K0 hK0=>?_)|refine zBw ?_|refine zNw (fun _ _ hs=>?_)|((refine dI (fun hc=>?_) (fun hc=>?_)) <;> (try dsimp only at hc) <;> (try (exfalso;omega)))|(refine hK0 _ _ ?_;clear hK0)|fail)
       refine⟨(e2.2++e1.2).length,(e2.2++e1.2).length,⟨by omega,by omega⟩,⟨Nat.le_refl _,by show _*(16+1)<=_;omega⟩,vg (e2.2++e1.2).length [.int .i64 0, .int .i64 0],rfl, ?_⟩;refine qi hs (fun H10 k e10 l10 hs=>?_);clear e10 l10
       repeat' (first|refine nY (fun K0 hK0=>?_)|refine zBw ?_|refine zNw (fun _ _ hs=>?_)|((refine dI (fun hc=>?_) (fun hc=>?_)) <;> (try dsimp only at hc) <;> (try (exfalso;omega)))|(refine hK0 _ _ ?_;clear hK0)|fail)
       refine aI ⟨Nat.zero_le _,Nat.le_refl _⟩ ?_
       repeat' (first|refine nY (fun K0 hK0=>?_)|refine zBw ?_|refine zNw (fun _ _ hs=>?_)|((refine dI (fun hc=>?_) (fun hc=>?_)) <;> (try dsimp only at hc) <;> (try (exfalso;omega)))|(refine hK0 _ _ ?_;clear hK0)|fail)
       rw[show min e1.2.length ((e2.2++e1.2).length-0)=e1.2.length from by omega];refine Or.inr (And.intro (by omega) ?_);have hleaf:=(hs.mem (List.mem_cons_of_mem _ (List.mem_append_right _ (f1 hcm))));simp only[hs.get 0 rfl,hleaf];have ecx:((orgC e1.2).drop 0).take (e1.2.length*2)=orgC e1.2:=by rw[List.drop_zero,List.take_of_length_le (by rw[qP];omega)]
       refine⟨⟨by rw[qP];show 0+_*2<=_;omega,by rw[yB];show 0+0*2+_*2<=_;omega,(by show (((orgC e1.2).drop 0).take (e1.2.length*2)).all qU=true;rw[ecx];exact yc _)⟩,setSeg _ _ (orgC e1.2),(by show setSeg _ _ (((orgC e1.2).drop 0).take (e1.2.length*2))=_;rw[ecx]), ?_⟩;refine wY (hs.lt 0 rfl) fun H11 h1 h2 h3=>?_
       have hs:=hs.set 0 rfl h1 h2 h3;clear h1 h2 h3 ecx hleaf;have hs:=hs.pickR (A := [_,_,_,_,_,_,_,_]) [0,2,3,4,5,6,7] (by decide) (A' := [_,_,_,_,_,_,_]) rfl
       have ec:setSeg (vg (e2.2++e1.2).length [.int .i64 0, .int .i64 0]) (0+0*2) (orgC e1.2)=orgC (e2.2++e1.2):=by
        have:=WI (l1:=e2.2) (l2:=e1.2) (n:=(e2.2++e1.2).length) (a:=0) (c:=0) hla rfl (by omega);rw[hc2] at this ⊢;exact this
       have hs:=hs_as hs ec;obtain ⟨J,hJe⟩ : ∃ J,J=e2.2++e1.2:=⟨_,rfl⟩
       replace hJ:=hJ.trans hJe.symm
       have hJl:J.length=(e2.2++e1.2).length:=by rw[hJe]
       rw[<- hJe] at hs hjne ⊢;by_cases h128:128<J.length
       ·have hbad:trcF t l=none:=by
         rw[htr];exact WB (.inr (by rw[hst,hJ];exact h128))
        first
         | (exfalso;omega)
         | skip
        all_goals (
         repeat' (first|refine nY (fun K0 hK0=>?_)|refine zBw ?_|refine zNw (fun _ _ hs=>?_)|((refine dI (fun hc=>?_) (fun hc=>?_)) <;> (try dsimp only at hc) <;> (try (exfalso;omega)))|(refine hK0 _ _ ?_;clear hK0)|fail)
         )
        all_goals exact he hbad _ (qc hs)
       ·have htr:trcF t l=goT (some l[i]!.rd) (cont rows) (putW (cont rows) (W ++ [(((to:Int),(ds:Int)),(k,J))])) (l.drop (j+1)):=by
         rw[htr,VB (by dsimp only;rw[hst,hJ,a7];exact fun e=>e.elim hcm h128),hst,hJ,xH,<- hrd]
        repeat' (first|refine nY (fun K0 hK0=>?_)|refine zBw ?_|refine zNw (fun _ _ hs=>?_)|((refine dI (fun hc=>?_) (fun hc=>?_)) <;> (try dsimp only at hc) <;> (try (exfalso;omega)))|(refine hK0 _ _ ?_;clear hK0)|fail)
        refine Zp hs 2 rfl hyf (fun H10 hs=>?_);have hs:=WA (A := [_,_,_,_,_]) (R:=rwL rows) (M:=M3) (l:=J) (hs.pickR (A := [_,_,_,_,_,_,_]) [2,3,4,5,6,0] (by decide) (A' := [_,_,_,_,_,_]) rfl)
        repeat' (first|refine nY (fun K0 hK0=>?_)|refine zBw ?_|refine zNw (fun _ _ hs=>?_)|((refine dI (fun hc=>?_) (fun hc=>?_)) <;> (try dsimp only at hc) <;> (try (exfalso;omega)))|(refine hK0 _ _ ?_;clear hK0)|fail)
        exact⟨⟨H10,mb,j+1,_,_⟩,⟨hs,⟨by dsimp only;omega,hjl⟩,hlf.mono (fun _ h=>List.mem_cons_of_mem _ h),wt_ok hW hnew k hjne (by omega) y2 y4,wt_nd hnd hyf _,htr⟩,by dsimp only;omega,Or.inl ⟨⟨rfl,rfl,rfl,rfl,rfl,trivial⟩,rfl⟩⟩
      ·have hcl2:e2.2.length≠0:=fun e=>hc2 (List.length_eq_zero_iff.1 e)
       repeat' (first|refine nY (fun K0 hK0=>?_)|refine zBw ?_|refine zNw (fun _ _ hs=>?_)|((refine dI (fun hc=>?_) (fun hc=>?_)) <;> (try dsimp only at hc) <;> (try (exfalso;omega)))|(refine hK0 _ _ ?_;clear hK0)|fail)
       refine⟨(e2.2++e1.2).length,(e2.2++e1.2).length,⟨by omega,by omega⟩,⟨Nat.le_refl _,by show _*(16+1)<=_;omega⟩,vg (e2.2++e1.2).length [.int .i64 0, .int .i64 0],rfl, ?_⟩;refine qi hs (fun H10 k e10 l10 hs=>?_);clear e10 l10
       repeat' (first|refine nY (fun K0 hK0=>?_)|refine zBw ?_|refine zNw (fun _ _ hs=>?_)|((refine dI (fun hc=>?_) (fun hc=>?_)) <;> (try dsimp only at hc) <;> (try (exfalso;omega)))|(refine hK0 _ _ ?_;clear hK0)|fail)
       rw[show min e2.2.length (e2.2++e1.2).length=e2.2.length from by omega];refine Or.inr (And.intro (by omega) ?_);have hleaf:=(hs.mem (List.mem_cons_of_mem _ (List.mem_append_right _ (f2 hc2))));simp only[hs.get 0 rfl,hleaf];have ecx:((orgC e2.2).drop 0).take (e2.2.length*2)=orgC e2.2:=by rw[List.drop_zero,List.take_of_length_le (by rw[qP];omega)]
       refine⟨⟨by rw[qP];show 0+_*2<=_;omega,by rw[yB];show 0+_*2<=_;omega,(by show (((orgC e2.2).drop 0).take (e2.2.length*2)).all qU=true;rw[ecx];exact yc _)⟩,setSeg _ _ (orgC e2.2),(by show setSeg _ _ (((orgC e2.2).drop 0).take (e2.2.length*2))=_;rw[ecx]), ?_⟩;refine wY (hs.lt 0 rfl) fun H11 h1 h2 h3=>?_
       have hs:=hs.set 0 rfl h1 h2 h3;clear h1 h2 h3 ecx hleaf
       repeat' (first|refine nY (fun K0 hK0=>?_)|refine zBw ?_|refine zNw (fun _ _ hs=>?_)|((refine dI (fun hc=>?_) (fun hc=>?_)) <;> (try dsimp only at hc) <;> (try (exfalso;omega)))|(refine hK0 _ _ ?_;clear hK0)|fail)
       rw[show min e1.2.length ((e2.2++e1.2).length-e2.2.length)=e1.2.length from by omega];refine Or.inr (And.intro (by omega) ?_);have hleaf:=(hs.mem (List.mem_cons_of_mem _ (List.mem_append_right _ (f1 hcm))));simp only[hs.get 0 rfl,hleaf];have ecx:((orgC e1.2).drop 0).take (e1.2.length*2)=orgC e1.2:=by rw[List.drop_zero,List.take_of_length_le (by rw[qP];omega)]
       refine⟨⟨by rw[qP];show 0+_*2<=_;omega,by rw[vX,yB];show 0+e2.2.length*2+_*2<=_;omega,(by show (((orgC e1.2).drop 0).take (e1.2.length*2)).all qU=true;rw[ecx];exact yc _)⟩,setSeg _ _ (orgC e1.2),(by show setSeg _ _ (((orgC e1.2).drop 0).take (e1.2.length*2))=_;rw[ecx]), ?_⟩;refine wY (hs.lt 0 rfl) fun H11 h1 h2 h3=>?_
       have hs:=hs.set 0 rfl h1 h2 h3;clear h1 h2 h3 ecx hleaf;have hs:=hs.pickR (A := [_,_,_,_,_,_,_,_]) [0,2,3,4,5,6,7] (by decide) (A' := [_,_,_,_,_,_,_]) rfl;have ec:setSeg (setSeg (vg (e2.2++e1.2).length [.int .i64 0, .int .i64 0]) 0 (orgC e2.2)) (0+e2.2.length*2) (orgC e1.2)=orgC (e2.2++e1.2):=WI hla rfl (by omega);have hs:=hs_as hs ec;obtain ⟨J,hJe⟩ : ∃ J,J=e2.2++e1.2:=⟨_,rfl⟩
       replace hJ:=hJ.trans hJe.symm
       have hJl:J.length=(e2.2++e1.2).length:=by rw[hJe]
       rw[<- hJe] at hs hjne ⊢;by_cases h128:128<J.length
       ·have hbad:trcF t l=none:=by
         rw[htr];exact WB (.inr (by rw[hst,hJ];exact h128))
        first
         | (exfalso;omega)
         | skip
        all_goals (
         repeat' (first|refine nY (fun K0 hK0=>?_)|refine zBw ?_|refine zNw (fun _ _ hs=>?_)|((refine dI (fun hc=>?_) (fun hc=>?_)) <;> (try dsimp only at hc) <;> (try (exfalso;omega)))|(refine hK0 _ _ ?_;clear hK0)|fail)
         )
        all_goals exact he hbad _ (qc hs)
       ·have htr:trcF t l=goT (some l[i]!.rd) (cont rows) (putW (cont rows) (W ++ [(((to:Int),(ds:Int)),(k,J))])) (l.drop (j+1)):=by
         rw[htr,VB (by dsimp only;rw[hst,hJ,a7];exact fun e=>e.elim hcm h128),hst,hJ,xH,<- hrd]
        repeat' (first|refine nY (fun K0 hK0=>?_)|refine zBw ?_|refine zNw (fun _ _ hs=>?_)|((refine dI (fun hc=>?_) (fun hc=>?_)) <;> (try dsimp only at hc) <;> (try (exfalso;omega)))|(refine hK0 _ _ ?_;clear hK0)|fail)
        refine Zp hs 2 rfl hyf (fun H10 hs=>?_);have hs:=WA (A := [_,_,_,_,_]) (R:=rwL rows) (M:=M3) (l:=J) (hs.pickR (A := [_,_,_,_,_,_,_]) [2,3,4,5,6,0] (by decide) (A' := [_,_,_,_,_,_]) rfl)
        repeat' (first|refine nY (fun K0 hK0=>?_)|refine zBw ?_|refine zNw (fun _ _ hs=>?_)|((refine dI (fun hc=>?_) (fun hc=>?_)) <;> (try dsimp only at hc) <;> (try (exfalso;omega)))|(refine hK0 _ _ ?_;clear hK0)|fail)
        exact⟨⟨H10,mb,j+1,_,_⟩,⟨hs,⟨by dsimp only;omega,hjl⟩,hlf.mono (fun _ h=>List.mem_cons_of_mem _ h),wt_ok hW hnew k hjne (by omega) y2 y4,wt_nd hnd hyf _,htr⟩,by dsimp only;omega,Or.inl ⟨⟨rfl,rfl,rfl,rfl,rfl,trivial⟩,rfl⟩⟩
   ·have hex:(l.length<=j\/l[j]!.rd≠l[i]!.rd)/\i≠j:=by
     constructor
     ·by_cases h1:j<l.length
      ·exact .inr (fun e=>hgo ⟨h1,e⟩)
      ·exact .inl (by omega)
     ·intro e
      exact hgo ⟨by omega,by rw[e]⟩
    have hend:j<l.length->some l[i]!.rd≠some l[j]!.rd:=fun h1 h2=>hgo ⟨h1,(Option.some.inj h2).symm⟩
    have hWk:WtOk W:=⟨fun w hw=>by obtain ⟨_,_,_,h1,h2,_⟩:=hW w hw;exact⟨h1.1,h2.1⟩,hnd⟩;by_cases hjl:j<l.length
    ·have hrd:l[j]!.rd≠l[i]!.rd:=fun e=>hgo ⟨hjl,e⟩
     refine qm tok mx [0,0,2,6,15,31,63,127,63,511,1023,2047,63,4159,63,28735,61503,127039,262143,524287] [false,false,false,false,false,false,false,false,true,false,false,false,true,true,true,true,true,true,false,false] (.first 0 (.first 1 (.first 2 (.first 3 (.first 4 (.first 5 (.first 6 (.first 7 (.first 8 (.first 9 (.first 10 (.first 11 (.first 12 (.first 13 (.first 14 (.first 15 (.first 16 (.first 17 (.first 18 (.first 19 .done)))))))))))))))))))) (by kernel_rfl) ?_;refine ql (fun K0 hK0=>?_)
     repeat' (first|refine nY (fun K0 hK0=>?_)|refine zBw ?_|refine zNw (fun _ _ hs=>?_)|((refine dI (fun hc=>?_) (fun hc=>?_)) <;> (try dsimp only at hc) <;> (try (exfalso;omega)))|(refine hK0 _ _ ?_;clear hK0)|fail)
     iterate 8 (
      all_goals try exact trivial
      all_goals try (first | refine uA (k:=0) hjl (by decide) rfl ?_ | refine uA (k:=0) hlt (by decide) rfl ?_)
      all_goals try (first | refine And.intro ?_ trivial | refine And.intro ?_ (And.intro ?_ trivial) | refine And.intro ?_ (And.intro ?_ (And.intro ?_ trivial)))
      all_goals try (
       repeat' (first|refine nY (fun K0 hK0=>?_)|refine zBw ?_|refine zNw (fun _ _ hs=>?_)|((refine dI (fun hc=>?_) (fun hc=>?_)) <;> (try dsimp only at hc) <;> (try (exfalso;omega)))|(refine hK0 _ _ ?_;clear hK0)|fail)
       ))
     refine c194m (fun H9 x hn=>?_);have hs:=hs.call hn rfl;clear hn
     repeat' (first|refine nY (fun K0 hK0=>?_)|refine zBw ?_|refine zNw (fun _ _ hs=>?_)|((refine dI (fun hc=>?_) (fun hc=>?_)) <;> (try dsimp only at hc) <;> (try (exfalso;omega)))|(refine hK0 _ _ ?_;clear hK0)|fail)
     have hnm:=hs_name hs;clear hs;obtain ⟨lb,LB,hlb,hLB,hs⟩:=hnm;subst hlb;refine qf tok Tryz.call291 Tryz.func291 rfl Tryz.ntmps291 rfl (by simp) ?_
     repeat' (first|refine nY (fun K0 hK0=>?_)|refine zBw ?_|refine zNw (fun _ _ hs=>?_)|(refine hK0 _ _ ?_;clear hK0)|fail)
     refine zo (hs.get 2 rfl) ?_;refine qi hs (fun H11 it e11 l11 hs=>?_);clear e11 l11
     repeat' (first|refine nY (fun K0 hK0=>?_)|refine zBw ?_|refine zNw (fun _ _ hs=>?_)|(refine hK0 _ _ ?_;clear hK0)|fail)
     refine qE (α := F5) tok (fun z=>HS H none' ((true,it, .iter (.mapIter (some mb) W.length z.seen.toArray W.length))::(true,lb,LB)::(true,mb,mpV W)::(true,cb, .cells true 1 [sv ob r])::(true,ob, .cells true 1 (outC z.rows 0))::(true,b1,shB t alg b c d l.length)::(false,d, .cells w1 6 (stsC l))::(rwL z.rows++lfL M3)) z.H/\z.seen.Nodup/\(∀ y∈z.seen,y<W.length)/\LfIn z.rows M3/\Dim z.rows r n/\cont z.rows=putW (cont rows) (z.seen.map (fun i=>W[i]!)))
      (fun _=>[(0, .func (.yield lb) #[] #[]),(6, .pointer (some ⟨it,0,some 0⟩))]) (fun z=>z.H) (fun z=>W.length-z.seen.length)
      ⟨H11,[],rows⟩ ⟨hs.pickR (A := [_,_,_,_,_,_,_,_]) [0,1,3,4,5,6,7] (by decide) (A' := [_,_,_,_,_,_,_]) rfl,List.nodup_nil,fun y hy=>by simp at hy,hlf,hdm,rfl⟩ (Or.inl ⟨⟨rfl,rfl,trivial⟩,rfl⟩) ?_
     clear hs;rintro ⟨H12,seen,rows5⟩ ⟨hs,hsn,hsb,hlf5,hdm5,hco5⟩;dsimp only at hs hsn hsb hlf5 hdm5 hco5 ⊢;have hsl:=xy hsn (m:=List.range W.length) (fun y hy=>List.mem_range.2 (hsb y hy));rw[List.length_range] at hsl
     repeat' (first|refine nY (fun K0 hK0=>?_)|refine zBw ?_|refine zNw (fun _ _ hs=>?_)|((refine dI (fun hc=>?_) (fun hc=>?_)) <;> (try dsimp only at hc) <;> (try (exfalso;omega)))|(refine hK0 _ _ ?_;clear hK0)|fail)
     refine xG (hs.get 0 rfl) ?_;refine zo (hs.get 2 rfl) ⟨Ze W seen,fun e he2 hse=>?_,fun hall=>?_⟩
     ·obtain ⟨q,hq,rfl⟩:=Um he2
      have hns:q ∉ seen:=by simpa using hse
      refine wY (hs.lt 0 rfl) (fun H6 h1 h2 h3=>?_);have hs:=hs.set (B' := .iter (.mapIter (some mb) W.length (seen ++ [q]).toArray W.length)) 0 rfl h1 (by rw[h2];simp) h3;clear h1 h2 h3
      have hsn' : (seen ++ [q]).Nodup:=by
       rw[List.nodup_append];exact⟨hsn,by simp,fun a h1 b h2 e=>hns (by simp at h2;rw[<- h2,<- e];exact h1)⟩
      have hsb' : ∀ y∈seen ++ [q],y<W.length:=fun y hy=>by
       rcases List.mem_append.1 hy with h1 | h1
       ·exact hsb y h1
       ·simp at h1;omega
      have hsl' := xy hsn' (m:=List.range W.length) (fun y hy=>List.mem_range.2 (hsb' y hy));rw[List.length_range,List.length_append,List.length_singleton] at hsl'
      repeat' (first|refine nY (fun K0 hK0=>?_)|refine zBw ?_|refine zNw (fun _ _ hs=>?_)|((refine dI (fun hc=>?_) (fun hc=>?_)) <;> (try dsimp only at hc) <;> (try (exfalso;omega)))|(refine hK0 _ _ ?_;clear hK0)|fail)
      refine xG (hs.get 0 rfl) ?_;refine zo (hs.get 2 rfl) ⟨rfl,q,by simp,_,XO hq, ?_⟩;obtain ⟨m1,m2,m3,m4,m5,_⟩:=hW _ (List.getElem_mem hq);have hwq:W[q]! = W[q]:=getElem!_pos W q hq;generalize W[q]=w at m1 m2 m3 m4 m5 hwq ⊢;obtain ⟨⟨wto,wds⟩,wk,J⟩:=w;dsimp only at m1 m2 m3 m4 m5 ⊢;obtain ⟨to,rfl⟩ : ∃ k:Nat,wto=k:=⟨wto.toNat,by omega⟩;obtain ⟨ds,rfl⟩ : ∃ k:Nat,wds=k:=⟨wds.toNat,by omega⟩;obtain ⟨q3,e3,g1,g2,g3,g4,g5,g6,g7⟩:=hdm5.at m4 m5;rw[Int.toNat_natCast] at g1 g2
      repeat' (first|refine nY (fun K0 hK0=>?_)|refine zBw ?_|refine zNw (fun _ _ hs=>?_)|((refine dI (fun hc=>?_) (fun hc=>?_)) <;> (try dsimp only at hc) <;> (try (exfalso;omega)))|(refine hK0 _ _ ?_;clear hK0)|fail)
      rw[hLB] at hs;refine Qc tok (hs.get 2 rfl) ?_;change vcg _ _ _ _ _ _ _ _ _
      repeat' (first|refine nY (fun K0 hK0=>?_)|refine zBw ?_|refine zNw (fun _ _ hs=>?_)|((refine dI (fun hc=>?_) (fun hc=>?_)) <;> (try dsimp only at hc) <;> (try (exfalso;omega)))|(refine hK0 _ _ ?_;clear hK0)|fail)
      refine xX hs 3 rfl (fun H7 hs=>?_)
      repeat' (first|refine nY (fun K0 hK0=>?_)|refine zBw ?_|refine zNw (fun _ _ hs=>?_)|((refine dI (fun hc=>?_) (fun hc=>?_)) <;> (try dsimp only at hc) <;> (try (exfalso;omega)))|(refine hK0 _ _ ?_;clear hK0)|fail)
      have hs:=hs.pickR (A := [_,_,_,_,_,_,_,_,_]) [0,1,2,3,4,5,6,7,8] (by decide) (A' := [_,_,_,_,_,_,_,_,_]) rfl;have ho2:=xZ rows5 0 to q3 g1;rw[g5] at ho2;have hb2:=hs.mem (c:=true) (b:=q3.1) (B:=rowB q3.2) (List.mem_append_right _ (List.mem_append_left _ (QF g3)));refine qm tok mx [0,0,2,7,15,0,32,0,255,511] [false,true,true,false,false,true,true,true,false,false] (.first 0 (.first 1 (.first 2 (.first 3 (.first 4 (.first 5 (.first 6 (.first 7 (.first 8 (.first 9 .done)))))))))) (by kernel_rfl) ?_;refine ql (fun K0 hK0=>?_)
      repeat' (first|refine nY (fun K0 hK0=>?_)|refine zBw ?_|refine zNw (fun _ _ hs=>?_)|(refine hK0 _ _ ?_;clear hK0)|fail)
      iterate 12 (
       all_goals try exact trivial
       all_goals try (first | refine xu ho1 ?_ | refine xu hr1 ?_ | refine qH hb1 ?_ | refine qG hb1 ?_ | refine xu ho2 ?_ | refine xu hr2 ?_ | refine qH hb2 ?_ | refine qG hb2 ?_)
       all_goals try (first | refine And.intro ?_ trivial | refine And.intro ?_ (And.intro ?_ trivial) | refine And.intro ?_ (And.intro ?_ (And.intro ?_ trivial)))
       all_goals try (
        repeat' (first|refine nY (fun K0 hK0=>?_)|refine zBw ?_|refine zNw (fun _ _ hs=>?_)|(refine hK0 _ _ ?_;clear hK0)|fail)
        ))
      refine vz hs (9+to) (at_row (A := [_,_,_,_,_,_,_,_,_]) g1) _ rfl rfl (by rw[ZC,g5];show 0+ds*1+1<=_;omega) (Ua (es:=q3.2) (x:=(ds:Int)) (i:=ds) (l:=J) rfl (zL m2).symm) (fun H10 e10 hs=>?_);clear e10;have hs:=hs_row (A := [_,_,_,_,_,_,_,_,_]) (by rw[hdm5.p];omega) hs;have hs:=hs.pickR (A := [_,_,_,_,_,_,_,_,_]) [2,3,4,5,6,7,8] (by decide) (A' := [_,_,_,_,_,_,_]) rfl;rw[<- XA (m:=0) (q' := (q3.1,q3.2.set (ds:Int).toNat (wk,J))) g1 rfl (by rw[List.length_set])] at hs
      repeat' (first|refine nY (fun K0 hK0=>?_)|refine zBw ?_|refine zNw (fun _ _ hs=>?_)|((refine dI (fun hc=>?_) (fun hc=>?_)) <;> (try dsimp only at hc) <;> (try (exfalso;omega)))|(refine hK0 _ _ ?_;clear hK0)|fail)
      refine uf hs 1 rfl (fun H13 hs=>?_);rw[<- hLB] at hs;have hs:=hs.pickR (A := [_,_,_,_,_,_,_]) [0,1,2,3,4,5,6] (by decide) (A' := [_,_,_,_,_,_,_]) rfl
      repeat' (first|refine nY (fun K0 hK0=>?_)|refine zBw ?_|refine zNw (fun _ _ hs=>?_)|((refine dI (fun hc=>?_) (fun hc=>?_)) <;> (try dsimp only at hc) <;> (try (exfalso;omega)))|(refine hK0 _ _ ?_;clear hK0)|fail)
      exact⟨⟨H13,seen ++ [q],_⟩,⟨hs,hsn',hsb',Yb (r:=(to:Int)) (s:=(ds:Int)) hlf5 g1 m1,Dim.set (r:=(to:Int)) (s:=(ds:Int)) hdm5 g1 wk m3,by
       dsimp only;rw[List.map_append];show _=putW (cont rows) (_ ++ [W[q]!]);rw[xH,hwq,<- hco5]
       exact UJ (r:=(to:Int)) (s:=(ds:Int)) g1 wk J⟩,by dsimp only;rw[List.length_append,List.length_singleton];omega,Or.inl ⟨⟨rfl,rfl,trivial⟩,rfl⟩⟩
     ·have hfull : ∀ y,y<W.length->y∈seen:=fun y hy=>by
       have:=hall _ (UE hy) (by dsimp only;exact hy)
       simpa using this
      have hpm:=Xz hWk (YY hsn hsb hfull) (cont rows);rw[<- hpm] at hco5;rw[<- hco5] at htr;rw[hLB] at hs
      repeat' (first|refine nY (fun K0 hK0=>?_)|refine zBw ?_|refine zNw (fun _ _ hs=>?_)|((refine dI (fun hc=>?_) (fun hc=>?_)) <;> (try dsimp only at hc) <;> (try (exfalso;omega)))|(refine hK0 _ _ ?_;clear hK0)|fail)
      refine uM hs 1 rfl (by intro h;cases h) (fun H14 hs=>?_);have hs:=hs.pickR (A := [_,_,_,_,_,_]) [2,3,4,5] (by decide) (A' := [_,_,_,_]) rfl;unfold Wv
      repeat' (first|refine nY (fun K0 hK0=>?_)|refine zBw ?_|refine zNw (fun _ _ hs=>?_)|((refine dI (fun hc=>?_) (fun hc=>?_)) <;> (try dsimp only at hc) <;> (try (exfalso;omega)))|(refine hK0 _ _ ?_;clear hK0)|fail)
      exact⟨⟨H14,j,rows5,M3⟩,⟨hs,hj,hlf5,hdm5,some l[i]!.rd,cont rows,htr,hend⟩,by dsimp only;omega,Or.inl ⟨⟨rfl,rfl,rfl,trivial⟩,rfl⟩⟩
    ·refine qm tok mx [0,0,2,6,15,31,63,127,63,511,1023,2047,63,4159,63,28735,61503,127039,262143,524287] [false,false,false,false,false,false,false,false,true,false,false,false,true,true,true,true,true,true,false,false] (.first 0 (.first 1 (.first 2 (.first 3 (.first 4 (.first 5 (.first 6 (.first 7 (.first 8 (.first 9 (.first 10 (.first 11 (.first 12 (.first 13 (.first 14 (.first 15 (.first 16 (.first 17 (.first 18 (.first 19 .done)))))))))))))))))))) (by kernel_rfl) ?_
     refine ql (fun K0 hK0=>?_)
     repeat' (first|refine nY (fun K0 hK0=>?_)|refine zBw ?_|refine zNw (fun _ _ hs=>?_)|((refine dI (fun hc=>?_) (fun hc=>?_)) <;> (try dsimp only at hc) <;> (try (exfalso;omega)))|(refine hK0 _ _ ?_;clear hK0)|(refine c194m (fun H9 x hn=>?_);have hs:=hs.call hn rfl;clear hn)|fail)
     have hnm:=hs_name hs;clear hs;obtain ⟨lb,LB,hlb,hLB,hs⟩:=hnm;subst hlb;refine qf tok Tryz.call291 Tryz.func291 rfl Tryz.ntmps291 rfl (by simp) ?_
     repeat' (first|refine nY (fun K0 hK0=>?_)|refine zBw ?_|refine zNw (fun _ _ hs=>?_)|(refine hK0 _ _ ?_;clear hK0)|fail)
     refine zo (hs.get 2 rfl) ?_;refine qi hs (fun H11 it e11 l11 hs=>?_);clear e11 l11
     repeat' (first|refine nY (fun K0 hK0=>?_)|refine zBw ?_|refine zNw (fun _ _ hs=>?_)|(refine hK0 _ _ ?_;clear hK0)|fail)
     refine qE (α := F5) tok (fun z=>HS H none' ((true,it, .iter (.mapIter (some mb) W.length z.seen.toArray W.length))::(true,lb,LB)::(true,mb,mpV W)::(true,cb, .cells true 1 [sv ob r])::(true,ob, .cells true 1 (outC z.rows 0))::(true,b1,shB t alg b c d l.length)::(false,d, .cells w1 6 (stsC l))::(rwL z.rows++lfL M3)) z.H/\z.seen.Nodup/\(∀ y∈z.seen,y<W.length)/\LfIn z.rows M3/\Dim z.rows r n/\cont z.rows=putW (cont rows) (z.seen.map (fun i=>W[i]!)))
      (fun _=>[(0, .func (.yield lb) #[] #[]),(6, .pointer (some ⟨it,0,some 0⟩))]) (fun z=>z.H) (fun z=>W.length-z.seen.length)
      ⟨H11,[],rows⟩ ⟨hs.pickR (A := [_,_,_,_,_,_,_,_]) [0,1,3,4,5,6,7] (by decide) (A' := [_,_,_,_,_,_,_]) rfl,List.nodup_nil,fun y hy=>by simp at hy,hlf,hdm,rfl⟩ (Or.inl ⟨⟨rfl,rfl,trivial⟩,rfl⟩) ?_
     clear hs;rintro ⟨H12,seen,rows5⟩ ⟨hs,hsn,hsb,hlf5,hdm5,hco5⟩;dsimp only at hs hsn hsb hlf5 hdm5 hco5 ⊢;have hsl:=xy hsn (m:=List.range W.length) (fun y hy=>List.mem_range.2 (hsb y hy));rw[List.length_range] at hsl
     repeat' (first|refine nY (fun K0 hK0=>?_)|refine zBw ?_|refine zNw (fun _ _ hs=>?_)|((refine dI (fun hc=>?_) (fun hc=>?_)) <;> (try dsimp only at hc) <;> (try (exfalso;omega)))|(refine hK0 _ _ ?_;clear hK0)|fail)
     refine xG (hs.get 0 rfl) ?_;refine zo (hs.get 2 rfl) ⟨Ze W seen,fun e he2 hse=>?_,fun hall=>?_⟩
     ·obtain ⟨q,hq,rfl⟩:=Um he2
      have hns:q ∉ seen:=by simpa using hse
      refine wY (hs.lt 0 rfl) (fun H6 h1 h2 h3=>?_);have hs:=hs.set (B' := .iter (.mapIter (some mb) W.length (seen ++ [q]).toArray W.length)) 0 rfl h1 (by rw[h2];simp) h3;clear h1 h2 h3
      have hsn' : (seen ++ [q]).Nodup:=by
       rw[List.nodup_append];exact⟨hsn,by simp,fun a h1 b h2 e=>hns (by simp at h2;rw[<- h2,<- e];exact h1)⟩
      have hsb' : ∀ y∈seen ++ [q],y<W.length:=fun y hy=>by
       rcases List.mem_append.1 hy with h1 | h1
       ·exact hsb y h1
       ·simp at h1;omega
      have hsl' := xy hsn' (m:=List.range W.length) (fun y hy=>List.mem_range.2 (hsb' y hy));rw[List.length_range,List.length_append,List.length_singleton] at hsl'
      repeat' (first|refine nY (fun K0 hK0=>?_)|refine zBw ?_|refine zNw (fun _ _ hs=>?_)|((refine dI (fun hc=>?_) (fun hc=>?_)) <;> (try dsimp only at hc) <;> (try (exfalso;omega)))|(refine hK0 _ _ ?_;clear hK0)|fail)
      refine xG (hs.get 0 rfl) ?_;refine zo (hs.get 2 rfl) ⟨rfl,q,by simp,_,XO hq, ?_⟩;obtain ⟨m1,m2,m3,m4,m5,_⟩:=hW _ (List.getElem_mem hq);have hwq:W[q]! = W[q]:=getElem!_pos W q hq;generalize W[q]=w at m1 m2 m3 m4 m5 hwq ⊢;obtain ⟨⟨wto,wds⟩,wk,J⟩:=w;dsimp only at m1 m2 m3 m4 m5 ⊢;obtain ⟨to,rfl⟩ : ∃ k:Nat,wto=k:=⟨wto.toNat,by omega⟩;obtain ⟨ds,rfl⟩ : ∃ k:Nat,wds=k:=⟨wds.toNat,by omega⟩;obtain ⟨q3,e3,g1,g2,g3,g4,g5,g6,g7⟩:=hdm5.at m4 m5;rw[Int.toNat_natCast] at g1 g2
      repeat' (first|refine nY (fun K0 hK0=>?_)|refine zBw ?_|refine zNw (fun _ _ hs=>?_)|((refine dI (fun hc=>?_) (fun hc=>?_)) <;> (try dsimp only at hc) <;> (try (exfalso;omega)))|(refine hK0 _ _ ?_;clear hK0)|fail)
      rw[hLB] at hs;refine Qc tok (hs.get 2 rfl) ?_;change vcg _ _ _ _ _ _ _ _ _
      repeat' (first|refine nY (fun K0 hK0=>?_)|refine zBw ?_|refine zNw (fun _ _ hs=>?_)|((refine dI (fun hc=>?_) (fun hc=>?_)) <;> (try dsimp only at hc) <;> (try (exfalso;omega)))|(refine hK0 _ _ ?_;clear hK0)|fail)
      refine xX hs 3 rfl (fun H7 hs=>?_)
      repeat' (first|refine nY (fun K0 hK0=>?_)|refine zBw ?_|refine zNw (fun _ _ hs=>?_)|((refine dI (fun hc=>?_) (fun hc=>?_)) <;> (try dsimp only at hc) <;> (try (exfalso;omega)))|(refine hK0 _ _ ?_;clear hK0)|fail)
      have hs:=hs.pickR (A := [_,_,_,_,_,_,_,_,_]) [0,1,2,3,4,5,6,7,8] (by decide) (A' := [_,_,_,_,_,_,_,_,_]) rfl;have ho2:=xZ rows5 0 to q3 g1;rw[g5] at ho2;have hb2:=hs.mem (c:=true) (b:=q3.1) (B:=rowB q3.2) (List.mem_append_right _ (List.mem_append_left _ (QF g3)));refine qm tok mx [0,0,2,7,15,0,32,0,255,511] [false,true,true,false,false,true,true,true,false,false] (.first 0 (.first 1 (.first 2 (.first 3 (.first 4 (.first 5 (.first 6 (.first 7 (.first 8 (.first 9 .done)))))))))) (by kernel_rfl) ?_;refine ql (fun K0 hK0=>?_)
      repeat' (first|refine nY (fun K0 hK0=>?_)|refine zBw ?_|refine zNw (fun _ _ hs=>?_)|(refine hK0 _ _ ?_;clear hK0)|fail)
      iterate 12 (
       all_goals try exact trivial
       all_goals try (first | refine xu ho1 ?_ | refine xu hr1 ?_ | refine qH hb1 ?_ | refine qG hb1 ?_ | refine xu ho2 ?_ | refine xu hr2 ?_ | refine qH hb2 ?_ | refine qG hb2 ?_)
       all_goals try (first | refine And.intro ?_ trivial | refine And.intro ?_ (And.intro ?_ trivial) | refine And.intro ?_ (And.intro ?_ (And.intro ?_ trivial)))
       all_goals try (
        repeat' (first|refine nY (fun K0 hK0=>?_)|refine zBw ?_|refine zNw (fun _ _ hs=>?_)|(refine hK0 _ _ ?_;clear hK0)|fail)
        ))
      refine vz hs (9+to) (at_row (A := [_,_,_,_,_,_,_,_,_]) g1) _ rfl rfl (by rw[ZC,g5];show 0+ds*1+1<=_;omega) (Ua (es:=q3.2) (x:=(ds:Int)) (i:=ds) (l:=J) rfl (zL m2).symm) (fun H10 e10 hs=>?_);clear e10;have hs:=hs_row (A := [_,_,_,_,_,_,_,_,_]) (by rw[hdm5.p];omega) hs;have hs:=hs.pickR (A := [_,_,_,_,_,_,_,_,_]) [2,3,4,5,6,7,8] (by decide) (A' := [_,_,_,_,_,_,_]) rfl;rw[<- XA (m:=0) (q' := (q3.1,q3.2.set (ds:Int).toNat (wk,J))) g1 rfl (by rw[List.length_set])] at hs
      repeat' (first|refine nY (fun K0 hK0=>?_)|refine zBw ?_|refine zNw (fun _ _ hs=>?_)|((refine dI (fun hc=>?_) (fun hc=>?_)) <;> (try dsimp only at hc) <;> (try (exfalso;omega)))|(refine hK0 _ _ ?_;clear hK0)|fail)
      refine uf hs 1 rfl (fun H13 hs=>?_);rw[<- hLB] at hs;have hs:=hs.pickR (A := [_,_,_,_,_,_,_]) [0,1,2,3,4,5,6] (by decide) (A' := [_,_,_,_,_,_,_]) rfl
      repeat' (first|refine nY (fun K0 hK0=>?_)|refine zBw ?_|refine zNw (fun _ _ hs=>?_)|((refine dI (fun hc=>?_) (fun hc=>?_)) <;> (try dsimp only at hc) <;> (try (exfalso;omega)))|(refine hK0 _ _ ?_;clear hK0)|fail)
      exact⟨⟨H13,seen ++ [q],_⟩,⟨hs,hsn',hsb',Yb (r:=(to:Int)) (s:=(ds:Int)) hlf5 g1 m1,Dim.set (r:=(to:Int)) (s:=(ds:Int)) hdm5 g1 wk m3,by
       dsimp only;rw[List.map_append];show _=putW (cont rows) (_ ++ [W[q]!]);rw[xH,hwq,<- hco5]
       exact UJ (r:=(to:Int)) (s:=(ds:Int)) g1 wk J⟩,by dsimp only;rw[List.length_append,List.length_singleton];omega,Or.inl ⟨⟨rfl,rfl,trivial⟩,rfl⟩⟩
     ·have hfull : ∀ y,y<W.length->y∈seen:=fun y hy=>by
       have:=hall _ (UE hy) (by dsimp only;exact hy)
       simpa using this
      have hpm:=Xz hWk (YY hsn hsb hfull) (cont rows);rw[<- hpm] at hco5;rw[<- hco5] at htr;rw[hLB] at hs
      repeat' (first|refine nY (fun K0 hK0=>?_)|refine zBw ?_|refine zNw (fun _ _ hs=>?_)|((refine dI (fun hc=>?_) (fun hc=>?_)) <;> (try dsimp only at hc) <;> (try (exfalso;omega)))|(refine hK0 _ _ ?_;clear hK0)|fail)
      refine uM hs 1 rfl (by intro h;cases h) (fun H14 hs=>?_);have hs:=hs.pickR (A := [_,_,_,_,_,_]) [2,3,4,5] (by decide) (A' := [_,_,_,_]) rfl;unfold Wv
      repeat' (first|refine nY (fun K0 hK0=>?_)|refine zBw ?_|refine zNw (fun _ _ hs=>?_)|((refine dI (fun hc=>?_) (fun hc=>?_)) <;> (try dsimp only at hc) <;> (try (exfalso;omega)))|(refine hK0 _ _ ?_;clear hK0)|fail)
      exact⟨⟨H14,j,rows5,M3⟩,⟨hs,hj,hlf5,hdm5,some l[i]!.rd,cont rows,htr,hend⟩,by dsimp only;omega,Or.inl ⟨⟨rfl,rfl,rfl,trivial⟩,rfl⟩⟩
  ·have hie:i=l.length:=by simp at hc;omega
   subst hie;rw[List.drop_length,goT] at htr
   repeat' (first|refine nY (fun K0 hK0=>?_)|refine zBw ?_|refine zNw (fun _ _ hs=>?_)|(refine hK0 _ _ ?_;clear hK0)|fail)
   have hs:=(hs.pickR (A := [_,_,_,_]) [1] (by decide) (A' := [_]) rfl);rw[<- hdm.p];exact h _ ob rows M hs hlf hdm htr
end Go.Af.Tryz
