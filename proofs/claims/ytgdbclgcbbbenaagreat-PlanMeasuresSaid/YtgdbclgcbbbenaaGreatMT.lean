/-

-/
import Derived.Test.YtgdbclgcbbbenaaGreatMSA
import Derived.Test.YtgdbclgcbbbenaaGreatMCA
set_option linter.all false
namespace Go.Af.Tryz.Ne
open Go Go.Proofs
attribute [local irreducible] awp qj qm qP qH xH

def goodF (g:List Int):Bool:=g.all fun m=>betw m 2 16
theorem goodF_mem {g:List Int} (h:goodF g=true) : ∀ m∈g,2<=m/\m<=16:=fun m hm=>by
 have:=List.all_eq_true.1 h m hm
 simpa [betw] using this
theorem fold_ge (g:List Int) : ∀ n:Int,1<=n->goodF g=true->n<=g.foldl (fun n m=>n*m) n:=by
 induction g with
 | nil=>intro n _ _;exact Int.le_refl _
 | cons m r ih =>
   intro n hn hg
   have hm:=goodF_mem hg m (by simp)
   have h1:n<=n*m:=by have:=Int.mul_le_mul_of_nonneg_left hm.1 (show 0<=n by omega);omega
   have:=ih (n*m) (by omega) (by simp only[goodF,List.all_cons,Bool.and_eq_true] at hg ⊢; exact hg.2)
   simp only[List.foldl_cons];omega
theorem gridN_some (g:List Int) : ∀ n:Int,1<=n->goodF g=true->g.foldl (fun n m=>n*m) n<=256->∃ k,gridN g n=some k:=by
 induction g with
 | nil=>intro n _ _ _;exact⟨n,rfl⟩
 | cons m r ih =>
   intro n hn hg hp
   have hg' := hg
   simp only[goodF,List.all_cons,Bool.and_eq_true] at hg'
   have hm:=goodF_mem hg m (by simp)
   have h1:1<=n*m:=by have:=Int.mul_le_mul_of_nonneg_left hm.1 (show 0<=n by omega);omega
   have h2:=fold_ge r (n*m) h1 hg'.2
   simp only[List.foldl_cons] at hp
   obtain ⟨k,hk⟩:=ih (n*m) h1 hg'.2 hp
   exact⟨k,by simp only[gridN,hg'.1,decide_eq_true (show n*m<=256 by omega),Bool.and_self,if_true,hk]⟩
theorem gridN_good {g:List Int} {n k:Int} (hn:1<=n) (h:gridN g n=some k):goodF g=true/\(g = []\/g.foldl (fun n m=>n*m) n<=256):=by
 obtain ⟨h1,h2⟩:=prod_take g n k hn h
 refine⟨List.all_eq_true.2 fun m hm=>by simpa [betw] using h1 m hm, ?_⟩
 have:=(h2 g.length).2
 rw[List.take_of_length_le (Nat.le_refl _)] at this
 rcases this with h | h | h
 ·exact .inr h
 ·exact .inl (List.length_eq_zero_iff.1 h)
 ·exact .inl h

def eF (s:Option Sh):Int :=
 match s with
 | none=>2
 | some _=>0
theorem eF1 {hosts:Int} {sides:List Int}:eF (qw 1 sides hosts)=if (betw sides.length 1 4&&betw hosts 1 4)&&(goodF sides&&decide (zL sides<=256)) then 0 else 2:=by
 simp only[qw,if_true]
 by_cases hc:(betw sides.length 1 4&&betw hosts 1 4)=true
 ·have hl:sides≠[]:=fun h=>by subst h;simp[betw] at hc
  rw[hc]
  cases hg:gridN sides 1 with
  | none =>
    by_cases h:(goodF sides&&decide (zL sides<=256))=true
    ·simp only[Bool.and_eq_true,decide_eq_true_eq] at h
     obtain ⟨k,hk⟩:=gridN_some sides 1 (by decide) h.1 h.2
     rw[hg] at hk;cases hk
    ·simp[h,eF]
  | some k =>
    obtain ⟨h1,h2⟩:=gridN_good (by decide) hg
    have h3:zL sides<=256:=by rcases h2 with h | h;exact absurd h hl;exact h
    simp[h1,h3,eF]
 ·simp only[hc,Bool.false_and,Bool.false_eq_true,if_false]
  cases gridN sides 1 <;> rfl

theorem goodF_snoc {g:List Int} {i:Nat} (hi:i<g.length):goodF (g.take (i+1))=(goodF (g.take i)&&betw g[i]! 2 16):=by
 unfold goodF;rw[List.take_succ_eq_append_getElem hi,getElem!_pos g i hi,List.all_append];simp

theorem prod_le {g:List Int} : ∀ {i:Nat},goodF (g.take i)=true->i<=4->1<=zL (g.take i)/\zL (g.take i)<=16 ^ i
 | 0,_,_=>by simp[zL]
 | i+1,h,hi=>by
   by_cases hl:i<g.length
   ·rw[goodF_snoc hl,Bool.and_eq_true] at h
    obtain ⟨h1,h2⟩:=prod_le h.1 (by omega)
    have hb:2<=g[i]! /\ g[i]! <= 16:=by simpa [betw] using h.2
    have hm:=mulb (a:=zL (g.take i)) (b:=g[i]!) (B:=16) (by omega) h2 (by omega) hb.2
    have h3:=Int.mul_le_mul_of_nonneg_left hb.1 (show 0<=zL (g.take i) by omega)
    rw[xI g i hl]
    refine⟨by omega,by rw[Int.pow_succ];exact hm.2⟩
   ·rw[List.take_of_length_le (by omega)] at h ⊢
    have e:g.take i=g:=List.take_of_length_le (by omega)
    obtain ⟨h1,h2⟩:=prod_le (g:=g) (i:=i) (by rw[e];exact h) (by omega)
    rw[e] at h1 h2
    refine⟨h1,Int.le_trans h2 ?_⟩
    rw[Int.pow_succ]
    have:(0:Int)<=16 ^ i:=Int.le_of_lt (Int.pow_pos (by decide))
    omega


theorem l25 (kind hosts:Int) (sides:List Int):qj Tryz.prog 95 [spV kind (sv 0 sides.length) hosts] [ro sides] (fun v H=>v = .int .i64 (eF (qw kind sides hosts))/\H = [ro sides]):=by
 refine qy (qc tok Tryz.call95 Tryz.func95 rfl Tryz.ntmps95 rfl (by simp) ?_)
 (repeat refine goZ ?_)
 refine And.intro (fun h1=>?_) (fun h1=>?_)
 ·have h1:kind=1:=by simpa using h1
  subst h1
  (repeat refine goZ ?_)
  (first | refine x60 _ _ _ ?_ | refine (x60 _ _ _ ?_).call)
  refine And.intro (fun hA=>?_) (fun hA=>?_)
  ·(repeat refine goZ ?_)
   (first | refine x60 _ _ _ ?_ | refine (x60 _ _ _ ?_).call)
   (repeat refine goZ ?_)
   refine qF (α := Nat × Bool × Int) tok (fun | (i,g,n)=>i<=sides.length/\(g=true->(betw sides.length 1 4&&betw hosts 1 4)=true/\goodF (sides.take i)=true/\n=zL (sides.take i))/\(g=false->(betw sides.length 1 4&&betw hosts 1 4)=false\/goodF sides=false))
    (fun | (i,g,n)=>[(1, .pointer (some ⟨1,0,none⟩)),(3, .bool g),(4, .int .i64 n),(5, .int .i64 i)])
    (fun _=>[ro sides, .cells true 1 [.int .i64 1,sv 0 sides.length, .int .i64 hosts]]) (fun p=>sides.length-p.1) (0,betw hosts 1 4,1) ⟨Nat.zero_le _,fun h=>⟨(by rw[hA];simpa using h),rfl,rfl⟩,fun h=>.inl (by rw[hA];simpa using h)⟩ (Or.inl ⟨⟨rfl,rfl,rfl,rfl,trivial⟩,rfl⟩) ?_
   rintro ⟨i,g,n⟩ ⟨hi,hg1,hg2⟩
   (repeat refine goZ ?_)
   refine And.intro (fun hc=>?_) (fun hc=>?_)
   ·have hlt:i<sides.length:=by simpa using hc
    (repeat refine goZ ?_)
    cases g with
    | true =>
      obtain ⟨k1,k2,k3⟩:=hg1 rfl
      have k4:sides.length<=4:=by simp[betw] at k1;omega
      (repeat refine goZ ?_)
      refine qU i sides[i]! (by simp) (by simp[hlt]) ?_
      (first | refine x60 _ _ _ ?_ | refine (x60 _ _ _ ?_).call)
      (repeat refine goZ ?_)
      refine qU i sides[i]! (by simp) (by simp[hlt]) ?_
      obtain ⟨p1,p2⟩:=prod_le k2 (by omega)
      by_cases hb:betw sides[i]! 2 16=true
      ·have hb' : 2<=sides[i]! /\ sides[i]! <= 16:=by simpa [betw] using hb
       have p3:(16:Int) ^ i<=65536:=(powle (by decide) (by decide) i (by omega)).2
       have hm:=mulb (a:=n) (b:=sides[i]!) (A:=65536) (B:=16) (by omega) (by omega) (by omega) hb'.2
       refine Or.inl ⟨n*sides[i]!,rfl,by unfold I64;omega, ?_⟩
       refine Or.inl ⟨((i+1:Nat):Int),by simp,by unfold I64;omega, ?_⟩
       refine⟨(i+1,betw sides[i]! 2 16,n*sides[i]!),⟨hlt,fun _=>⟨k1, ?_, ?_⟩,fun h=>absurd (hb.symm.trans h) (by decide)⟩,by simp only;omega, .inl ⟨⟨rfl,rfl,rfl,rfl,trivial⟩,rfl⟩⟩
       ·rw[goodF_snoc hlt,k2,hb];rfl
       ·rw[xI sides i hlt,k3]
      ·refine Or.inr ?_
       refine Or.inl ⟨((i+1:Nat):Int),by simp,by unfold I64;omega, ?_⟩
       refine⟨(i+1,betw sides[i]! 2 16,_),⟨hlt,fun h=>absurd h hb,fun _=>.inr ?_⟩,by simp only;omega, .inl ⟨⟨rfl,rfl,rfl,rfl,trivial⟩,rfl⟩⟩
       rw[Bool.eq_false_iff];intro h
       exact hb (by have:=List.all_eq_true.1 h sides[i]! (by rw[getElem!_pos sides i hlt];exact List.getElem_mem hlt);exact this)
    | false =>
      (repeat refine goZ ?_)
      have e:eF (qw 1 sides hosts)=2:=by
       rw[eF1];rcases hg2 rfl with h | h <;> simp[h]
      refine⟨[(0,0)],_,[ro (sides)],by simp,qg rfl,⟨⟨_,rfl,BRen.ints _ _ _⟩,trivial⟩,rfl,VRen.plain rfl,(by rw[e];rfl),rfl⟩
   ·have hge : ¬ i<sides.length:=by simpa using hc
    (repeat refine goZ ?_)
    cases g with
    | true =>
      obtain ⟨k1,k2,k3⟩:=hg1 rfl
      rw[List.take_of_length_le (by omega)] at k2 k3
      (repeat refine goZ ?_)
      refine And.intro (fun hd=>?_) (fun hd=>?_)
      ·have hd:256<n:=by simpa using hd
       (repeat refine goZ ?_)
       have e:eF (qw 1 sides hosts)=2:=by rw[eF1,k1,k2,<- k3];simp;omega
       refine⟨[(0,0)],_,[ro (sides)],by simp,qg rfl,⟨⟨_,rfl,BRen.ints _ _ _⟩,trivial⟩,rfl,VRen.plain rfl,(by rw[e];rfl),rfl⟩
      ·have hd:n<=256:=by simpa using hd
       (repeat refine goZ ?_)
       have e:eF (qw 1 sides hosts)=0:=by rw[eF1,k1,k2,<- k3];simp[hd]
       refine⟨[(0,0)],_,[ro (sides)],by simp,qg rfl,⟨⟨_,rfl,BRen.ints _ _ _⟩,trivial⟩,rfl,VRen.plain rfl,(by rw[e];rfl),rfl⟩
    | false =>
      (repeat refine goZ ?_)
      have e:eF (qw 1 sides hosts)=2:=by
       rw[eF1];rcases hg2 rfl with h | h <;> simp[h]
      refine⟨[(0,0)],_,[ro (sides)],by simp,qg rfl,⟨⟨_,rfl,BRen.ints _ _ _⟩,trivial⟩,rfl,VRen.plain rfl,(by rw[e];rfl),rfl⟩
  ·(repeat refine goZ ?_)
   refine qF (α := Nat × Bool × Int) tok (fun | (i,g,n)=>i<=sides.length/\(g=true->(betw sides.length 1 4&&betw hosts 1 4)=true/\goodF (sides.take i)=true/\n=zL (sides.take i))/\(g=false->(betw sides.length 1 4&&betw hosts 1 4)=false\/goodF sides=false))
    (fun | (i,g,n)=>[(1, .pointer (some ⟨1,0,none⟩)),(3, .bool g),(4, .int .i64 n),(5, .int .i64 i)])
    (fun _=>[ro sides, .cells true 1 [.int .i64 1,sv 0 sides.length, .int .i64 hosts]]) (fun p=>sides.length-p.1) (0,false,1) ⟨Nat.zero_le _,fun h=>⟨(by cases h),rfl,rfl⟩,fun h=>.inl (by rw[hA];rfl)⟩ (Or.inl ⟨⟨rfl,rfl,rfl,rfl,trivial⟩,rfl⟩) ?_
   rintro ⟨i,g,n⟩ ⟨hi,hg1,hg2⟩
   (repeat refine goZ ?_)
   refine And.intro (fun hc=>?_) (fun hc=>?_)
   ·have hlt:i<sides.length:=by simpa using hc
    (repeat refine goZ ?_)
    cases g with
    | true =>
      obtain ⟨k1,k2,k3⟩:=hg1 rfl
      have k4:sides.length<=4:=by simp[betw] at k1;omega
      (repeat refine goZ ?_)
      refine qU i sides[i]! (by simp) (by simp[hlt]) ?_
      (first | refine x60 _ _ _ ?_ | refine (x60 _ _ _ ?_).call)
      (repeat refine goZ ?_)
      refine qU i sides[i]! (by simp) (by simp[hlt]) ?_
      obtain ⟨p1,p2⟩:=prod_le k2 (by omega)
      by_cases hb:betw sides[i]! 2 16=true
      ·have hb' : 2<=sides[i]! /\ sides[i]! <= 16:=by simpa [betw] using hb
       have p3:(16:Int) ^ i<=65536:=(powle (by decide) (by decide) i (by omega)).2
       have hm:=mulb (a:=n) (b:=sides[i]!) (A:=65536) (B:=16) (by omega) (by omega) (by omega) hb'.2
       refine Or.inl ⟨n*sides[i]!,rfl,by unfold I64;omega, ?_⟩
       refine Or.inl ⟨((i+1:Nat):Int),by simp,by unfold I64;omega, ?_⟩
       refine⟨(i+1,betw sides[i]! 2 16,n*sides[i]!),⟨hlt,fun _=>⟨k1, ?_, ?_⟩,fun h=>absurd (hb.symm.trans h) (by decide)⟩,by simp only;omega, .inl ⟨⟨rfl,rfl,rfl,rfl,trivial⟩,rfl⟩⟩
       ·rw[goodF_snoc hlt,k2,hb];rfl
       ·rw[xI sides i hlt,k3]
      ·refine Or.inr ?_
       refine Or.inl ⟨((i+1:Nat):Int),by simp,by unfold I64;omega, ?_⟩
       refine⟨(i+1,betw sides[i]! 2 16,_),⟨hlt,fun h=>absurd h hb,fun _=>.inr ?_⟩,by simp only;omega, .inl ⟨⟨rfl,rfl,rfl,rfl,trivial⟩,rfl⟩⟩
       rw[Bool.eq_false_iff];intro h
       exact hb (by have:=List.all_eq_true.1 h sides[i]! (by rw[getElem!_pos sides i hlt];exact List.getElem_mem hlt);exact this)
    | false =>
      (repeat refine goZ ?_)
      have e:eF (qw 1 sides hosts)=2:=by
       rw[eF1];rcases hg2 rfl with h | h <;> simp[h]
      refine⟨[(0,0)],_,[ro (sides)],by simp,qg rfl,⟨⟨_,rfl,BRen.ints _ _ _⟩,trivial⟩,rfl,VRen.plain rfl,(by rw[e];rfl),rfl⟩
   ·have hge : ¬ i<sides.length:=by simpa using hc
    (repeat refine goZ ?_)
    cases g with
    | true =>
      obtain ⟨k1,k2,k3⟩:=hg1 rfl
      rw[List.take_of_length_le (by omega)] at k2 k3
      (repeat refine goZ ?_)
      refine And.intro (fun hd=>?_) (fun hd=>?_)
      ·have hd:256<n:=by simpa using hd
       (repeat refine goZ ?_)
       have e:eF (qw 1 sides hosts)=2:=by rw[eF1,k1,k2,<- k3];simp;omega
       refine⟨[(0,0)],_,[ro (sides)],by simp,qg rfl,⟨⟨_,rfl,BRen.ints _ _ _⟩,trivial⟩,rfl,VRen.plain rfl,(by rw[e];rfl),rfl⟩
      ·have hd:n<=256:=by simpa using hd
       (repeat refine goZ ?_)
       have e:eF (qw 1 sides hosts)=0:=by rw[eF1,k1,k2,<- k3];simp[hd]
       refine⟨[(0,0)],_,[ro (sides)],by simp,qg rfl,⟨⟨_,rfl,BRen.ints _ _ _⟩,trivial⟩,rfl,VRen.plain rfl,(by rw[e];rfl),rfl⟩
    | false =>
      (repeat refine goZ ?_)
      have e:eF (qw 1 sides hosts)=2:=by
       rw[eF1];rcases hg2 rfl with h | h <;> simp[h]
      refine⟨[(0,0)],_,[ro (sides)],by simp,qg rfl,⟨⟨_,rfl,BRen.ints _ _ _⟩,trivial⟩,rfl,VRen.plain rfl,(by rw[e];rfl),rfl⟩
 ·have h1 : ¬ kind=1:=by simpa using h1
  refine And.intro (fun h2=>?_) (fun h2=>?_)
  ·have h2:kind=2:=by simpa using h2
   subst h2
   refine qG tok mx [0,1,3,7,15,31,63,127,255,511,1023,2047,4095,8191,16383,32767,65535,131071,262143,524287,1048575,2097151,4194303,524287,8912895,25690111,59244543,134217727,268435455,536870911,1073741823,2147483647,4294967295,2147483647,10737418239,27917287423,62277025791,137438953471,274877906943,549755813887] [false,false,false,false,false,false,false,false,false,false,false,false,false,false,false,false,false,false,false,false,false,false,false,true,true,true,true,false,false,false,false,false,false,true,true,true,true,false,false,false] [0,1,2,3,4,5,6,7,8,9,10,11,12,13,14,15,16,17,18,19,20,21,22,23,24,25,26,27,28,29,30,31,32,33,34,35,36,37,38,39] (by kernel_rfl) ?_
   by_cases hl:sides.length=2
   ·obtain ⟨k,n,rfl⟩ : ∃ k n,sides = [k,n]:=by
     match sides,hl with
     | [k,n],_=>exact⟨k,n,rfl⟩
    (repeat refine gsZ ?_)
    refine And.intro (fun _=>?_) (fun h=>absurd h (by simp))
    (repeat refine gsZ ?_)
    (first | refine x60 _ _ _ ?_ | refine (x60 _ _ _ ?_).call)
    refine And.intro (fun hk=>?_) (fun hk=>?_)
    ·have hk2:2<=k/\k<=8:=by simpa [betw] using hk
     (repeat refine gsZ ?_)
     (first | refine x60 _ _ _ ?_ | refine (x60 _ _ _ ?_).call)
     refine And.intro (fun hn=>?_) (fun hn=>?_)
     ·have hn2:1<=n/\n<=4:=by simpa [betw] using hn
      (repeat refine gsZ ?_)
      (first | refine c61 k n (powb (by omega) (by omega) (by omega)) (by omega) ?_ | refine (c61 k n (powb (by omega) (by omega) (by omega)) (by omega) ?_).call)
      (repeat refine gsZ ?_)
      refine And.intro (fun hp=>?_) (fun hp=>?_)
      ·(repeat refine gsZ ?_)
       refine And.intro (fun hh=>?_) (fun hh=>?_)
       ·have e:eF (qw 2 [k,n] hosts)=2:=by
         have hh : ¬ hosts=k:=by simpa using hh
         simp[qw,hh,eF]
        (repeat refine gsZ ?_)
        refine⟨[(0,0)],_,[ro ([k,n])],by simp,qg rfl,⟨⟨_,rfl,BRen.ints _ _ _⟩,trivial⟩,rfl,VRen.plain rfl,(by rw[e];rfl),rfl⟩
       ·have e:eF (qw 2 [k,n] hosts)=0:=by
         have hh:hosts=k:=by simpa using hh
         have hp:k ^ n.toNat<=256:=by simpa using hp
         subst hh
         simp[qw,hk,hn,hp,eF]
        (repeat refine gsZ ?_)
        refine⟨[(0,0)],_,[ro ([k,n])],by simp,qg rfl,⟨⟨_,rfl,BRen.ints _ _ _⟩,trivial⟩,rfl,VRen.plain rfl,(by rw[e];rfl),rfl⟩
      ·have e:eF (qw 2 [k,n] hosts)=2:=by
        have hp : ¬ k ^ n.toNat<=256:=by simpa using hp
        simp[qw,hp,eF]
       (repeat refine gsZ ?_)
       refine⟨[(0,0)],_,[ro ([k,n])],by simp,qg rfl,⟨⟨_,rfl,BRen.ints _ _ _⟩,trivial⟩,rfl,VRen.plain rfl,(by rw[e];rfl),rfl⟩
     ·have e:eF (qw 2 [k,n] hosts)=2:=by simp[qw,hn,eF]
      (repeat refine gsZ ?_)
      refine⟨[(0,0)],_,[ro ([k,n])],by simp,qg rfl,⟨⟨_,rfl,BRen.ints _ _ _⟩,trivial⟩,rfl,VRen.plain rfl,(by rw[e];rfl),rfl⟩
    ·have e:eF (qw 2 [k,n] hosts)=2:=by simp[qw,hk,eF]
     (repeat refine gsZ ?_)
     refine⟨[(0,0)],_,[ro ([k,n])],by simp,qg rfl,⟨⟨_,rfl,BRen.ints _ _ _⟩,trivial⟩,rfl,VRen.plain rfl,(by rw[e];rfl),rfl⟩
   ·refine And.intro (by decide) ?_
    refine⟨_,rfl, ?_⟩
    refine And.intro (fun h=>absurd (show (sides.length:Int)=2 by simpa using h) (by omega)) (fun _=>?_)
    (repeat refine gsZ ?_)
    have e:eF (qw 2 sides hosts)=2:=by
     match sides,hl with
     | [],_=>rfl
     | [_],_=>rfl
     | _::_::_::_,_=>rfl
    refine⟨[(0,0)],_,[ro (sides)],by simp,qg rfl,⟨⟨_,rfl,BRen.ints _ _ _⟩,trivial⟩,rfl,VRen.plain rfl,(by rw[e];rfl),rfl⟩
  ·have h2 : ¬ kind=2:=by simpa using h2
   refine And.intro (fun h3=>?_) (fun h3=>?_)
   ·have h3:kind=3:=by simpa using h3
    subst h3
    refine qG tok mx [0,1,3,7,15,31,63,127,255,511,1023,2047,4095,8191,16383,32767,65535,131071,262143,524287,1048575,2097151,4194303,524287,8912895,25690111,59244543,524287,134742015,403177471,940048383,2139619327,4287102975,8589934591,17179869183,34359738367,68719476735,137438953471,274877906943,549755813887,1099511627775,2199023255551] [false,false,false,false,false,false,false,false,false,false,false,false,false,false,false,false,false,false,false,false,false,false,false,true,true,true,true,true,true,true,true,true,true,false,false,false,false,false,false,false,false,false] [0,1,2,3,4,5,6,7,8,9,10,11,12,13,14,15,16,17,18,19,20,21,22,23,24,25,26,27,28,29,30,31,32,33,34,35,36,37,38,39,40,41] (by kernel_rfl) ?_
    by_cases hl:sides.length=2
    ·obtain ⟨a,b,rfl⟩ : ∃ a b,sides = [a,b]:=by
      match sides,hl with
      | [k,n],_=>exact⟨k,n,rfl⟩
     (repeat refine gsZ ?_)
     refine And.intro (fun _=>?_) (fun h=>absurd h (by simp))
     (repeat refine gsZ ?_)
     (first | refine x60 _ _ _ ?_ | refine (x60 _ _ _ ?_).call)
     refine And.intro (fun hk=>?_) (fun hk=>?_)
     ·have hk2:1<=a/\a<=16:=by simpa [betw] using hk
      (repeat refine gsZ ?_)
      (first | refine x60 _ _ _ ?_ | refine (x60 _ _ _ ?_).call)
      refine And.intro (fun hn=>?_) (fun hn=>?_)
      ·have hn2:1<=b/\b<=4:=by simpa [betw] using hn
       have hm:=mulb (a:=a) (b:=b) (A:=16) (B:=4) (by omega) (by omega) (by omega) (by omega)
       have hm2:=mulb (a:=a) (b:=a*b+1) (A:=16) (B:=65) (by omega) (by omega) (by omega) (by omega)
       (repeat refine gsZ ?_)
       refine And.intro (fun hp=>?_) (fun hp=>?_)
       ·have hp:a*(a*b+1)<=256:=by simpa using hp
        (repeat refine gsZ ?_)
        (first | refine x60 _ _ _ ?_ | refine (x60 _ _ _ ?_).call)
        (repeat refine gsZ ?_)
        refine And.intro (fun hh=>?_) (fun hh=>?_)
        ·have hh:betw hosts 1 4=false:=by simpa using hh
         have e:eF (qw 3 [a,b] hosts)=2:=by simp[qw,hh,eF]
         (repeat refine gsZ ?_)
         refine⟨[(0,0)],_,[ro ([a,b])],by simp,qg rfl,⟨⟨_,rfl,BRen.ints _ _ _⟩,trivial⟩,rfl,VRen.plain rfl,(by rw[e];rfl),rfl⟩
        ·have hh:betw hosts 1 4=true:=by simpa using hh
         have e:eF (qw 3 [a,b] hosts)=0:=by simp[qw,hh,hk,hn,hp,eF]
         (repeat refine gsZ ?_)
         refine⟨[(0,0)],_,[ro ([a,b])],by simp,qg rfl,⟨⟨_,rfl,BRen.ints _ _ _⟩,trivial⟩,rfl,VRen.plain rfl,(by rw[e];rfl),rfl⟩
       ·have hp : ¬ a*(a*b+1)<=256:=by simpa using hp
        have e:eF (qw 3 [a,b] hosts)=2:=by simp[qw,hp,eF]
        (repeat refine gsZ ?_)
        refine⟨[(0,0)],_,[ro ([a,b])],by simp,qg rfl,⟨⟨_,rfl,BRen.ints _ _ _⟩,trivial⟩,rfl,VRen.plain rfl,(by rw[e];rfl),rfl⟩
      ·have e:eF (qw 3 [a,b] hosts)=2:=by simp[qw,hn,eF]
       (repeat refine gsZ ?_)
       refine⟨[(0,0)],_,[ro ([a,b])],by simp,qg rfl,⟨⟨_,rfl,BRen.ints _ _ _⟩,trivial⟩,rfl,VRen.plain rfl,(by rw[e];rfl),rfl⟩
     ·have e:eF (qw 3 [a,b] hosts)=2:=by simp[qw,hk,eF]
      (repeat refine gsZ ?_)
      refine⟨[(0,0)],_,[ro ([a,b])],by simp,qg rfl,⟨⟨_,rfl,BRen.ints _ _ _⟩,trivial⟩,rfl,VRen.plain rfl,(by rw[e];rfl),rfl⟩
    ·refine And.intro (by decide) ?_
     refine⟨_,rfl, ?_⟩
     refine And.intro (fun h=>absurd (show (sides.length:Int)=2 by simpa using h) (by omega)) (fun _=>?_)
     (repeat refine gsZ ?_)
     have e:eF (qw 3 sides hosts)=2:=by
      match sides,hl with
      | [],_=>rfl
      | [_],_=>rfl
      | _::_::_::_,_=>rfl
     refine⟨[(0,0)],_,[ro (sides)],by simp,qg rfl,⟨⟨_,rfl,BRen.ints _ _ _⟩,trivial⟩,rfl,VRen.plain rfl,(by rw[e];rfl),rfl⟩
   ·have h3 : ¬ kind=3:=by simpa using h3
    (repeat refine gsZ ?_)
    have e:eF (qw kind sides hosts)=2:=by simp[qw,h1,h2,h3,eF]
    refine⟨[(0,0)],_,[ro (sides)],by simp,qg rfl,⟨⟨_,rfl,BRen.ints _ _ _⟩,trivial⟩,rfl,VRen.plain rfl,(by rw[e];rfl),rfl⟩
end Go.Af.Tryz.Ne
namespace Go.Af.Tryz.Ne
open Go Go.Proofs
attribute [local irreducible] awp qj qm qP qH

theorem c25 {H:List Blk} {R:Value->List Blk->Prop} {b c:Nat} {wr:Bool} {kind hosts:Int} {sides:List Int} (hb:bget H b=some (.cells wr 1 (ints sides))) (hl:sides.length<=c) (h:R (.int .i64 (eF (qw kind sides hosts))) H) :
 qm Tryz.prog 95 [spV kind (.slice (some ⟨b,0,none⟩) sides.length c) hosts] H R:=wu rfl (l25 kind hosts sides) hb hl rfl h

def isF (s:Option Sh) (x:Int):Int :=
 match s with
 | none=>2
 | some s=>if 0<=x/\x<s.sw then 0 else 3

theorem l63 (kind hosts:Int) (sides:List Int) (x:Int):qj Tryz.prog 324 [spV kind (sv 0 sides.length) hosts, .int .i64 x] [ro sides] (fun v H=>v = .int .i64 (isF (qw kind sides hosts) x)/\H = [ro sides]):=by
 refine qy (qc tok Tryz.call324 Tryz.func324 rfl Tryz.ntmps324 rfl (by simp) ?_)
 (repeat refine goZ ?_)
 (first | refine c25 rfl (Nat.le_refl _) ?_ | refine (c25 rfl (Nat.le_refl _) ?_).call)
 cases hs:qw kind sides hosts with
 | none =>
   (repeat refine goZ ?_)
   refine⟨[(0,0)],_,[ro (sides)],by simp,qg rfl,⟨⟨_,rfl,BRen.ints _ _ _⟩,trivial⟩,rfl,VRen.plain rfl,rfl,rfl⟩
 | some s =>
   have hok:=zJ hs
   have hof:=xK hs
   simp only[eF]
   (repeat refine goZ ?_)
   refine And.intro (fun hn=>?_) (fun hn=>?_)
   ·have hn : ¬ x<0:=by simpa using hn
    (repeat refine goZ ?_)
    (first | refine c58 hok hof rfl (Nat.le_refl _) ?_ | refine (c58 hok hof rfl (Nat.le_refl _) ?_).call)
    (repeat refine goZ ?_)
    refine And.intro (fun hg=>?_) (fun hg=>?_)
    ·have hg:s.sw<=x:=by simpa using hg
     (repeat refine goZ ?_)
     refine⟨[(0,0)],_,[ro (sides)],by simp,qg rfl,⟨⟨_,rfl,BRen.ints _ _ _⟩,trivial⟩,rfl,VRen.plain rfl,(by simp only[isF];rw[if_neg (by omega)];rfl),rfl⟩
    ·have hg : ¬ s.sw<=x:=by simpa using hg
     (repeat refine goZ ?_)
     refine⟨[(0,0)],_,[ro (sides)],by simp,qg rfl,⟨⟨_,rfl,BRen.ints _ _ _⟩,trivial⟩,rfl,VRen.plain rfl,(by simp only[isF];rw[if_pos (by omega)];rfl),rfl⟩
   ·have hn:x<0:=by simpa using hn
    (repeat refine goZ ?_)
    refine⟨[(0,0)],_,[ro (sides)],by simp,qg rfl,⟨⟨_,rfl,BRen.ints _ _ _⟩,trivial⟩,rfl,VRen.plain rfl,(by simp only[isF];rw[if_neg (by omega)];rfl),rfl⟩
theorem c63 {H:List Blk} {R:Value->List Blk->Prop} {b c:Nat} {wr:Bool} {kind hosts:Int} {sides:List Int} {x:Int} (hb:bget H b=some (.cells wr 1 (ints sides))) (hl:sides.length<=c) (h:R (.int .i64 (isF (qw kind sides hosts) x)) H) :
 qm Tryz.prog 324 [spV kind (.slice (some ⟨b,0,none⟩) sides.length c) hosts, .int .i64 x] H R:=wu rfl (l63 kind hosts sides x) hb hl rfl h

theorem l64 (kind hosts:Int) (g:List Int) (hg : ∀ m∈g,2<=m) (hl:g.length<=1000) (x:Int) (hx:I64 x) :
 qj Tryz.prog 220 [spV kind (sv 0 g.length) hosts, .int .i64 x] [ro g] (fun v H=>v=sv 1 g.length/\H = [ro g,rw' (vY g x)]):=by
 refine qy (qc tok Tryz.call220 Tryz.func220 rfl Tryz.ntmps220 rfl (by simp) ?_)
 refine And.intro (by decide) ?_
 refine⟨_,rfl, ?_⟩
 refine And.intro ⟨by decide,rfl⟩ ?_
 refine⟨g.length,g.length,⟨rfl,rfl⟩,⟨Nat.le_refl _, ?_⟩,_,rfl, ?_⟩
 ·show g.length*9<=_
  omega
 refine And.intro (by decide) ?_
 refine⟨_,rfl, ?_⟩
 refine Or.inl ⟨(g.length:Int)-1,rfl,by unfold I64;omega, ?_⟩
 refine qF tok (fun j:Nat=>j<=g.length) (fun j=>[(2, .pointer (some ⟨1,0,none⟩)),(1, .int .i64 (quoF (g.drop j) x)),(5,sv 2 g.length),(6, .int .i64 ((j:Int)-1))])
  (fun j=>[ro g, .cells true 1 [.int .i64 kind,sv 0 g.length, .int .i64 hosts], .cells true 1 (ints (List.replicate j 0++vY (g.drop j) x))]) (fun j=>j) g.length (Nat.le_refl _) ?_ ?_
 ·refine Or.inl ⟨⟨rfl,by rw[List.drop_length];rfl,rfl,rfl,trivial⟩, ?_⟩
  simp[vI,ints,vY,qK]
 intro j hj
 refine And.intro (fun hc=>?_) (fun hc=>?_)
 ·have hc' : 0<j:=by simp at hc;omega
  obtain ⟨i,rfl⟩ : ∃ i,j=i+1:=⟨j-1,by omega⟩
  have hi:i<g.length:=by omega
  have hm:2<=g[i]! := by rw[getElem!_pos g i hi];exact hg _ (List.getElem_mem hi)
  have hq:=quo_i64 (g.drop (i+1)) (fun m h=>hg m (List.mem_of_mem_drop h)) hx
  have hd:g.drop i=g[i]! :: g.drop (i+1):=by rw[getElem!_pos g i hi];exact List.drop_eq_getElem_cons hi
  refine And.intro (by decide) ?_
  refine⟨_,rfl, ?_⟩
  refine⟨i,by omega,by omega, ?_⟩
  refine qU i g[i]! (by simp) (by simp[hi]) ?_
  refine⟨by omega,_,rfl, ?_⟩
  refine⟨i,by omega,by omega, ?_⟩
  refine⟨⟨rfl,rfl, ?_⟩,_,rfl, ?_⟩
  ·simp[coords_len]
  refine And.intro (by decide) ?_
  refine⟨_,rfl, ?_⟩
  refine⟨i,by omega,by omega, ?_⟩
  refine qU i g[i]! (by simp) (by simp[hi]) ?_
  refine⟨by omega,Or.inl ⟨_,rfl,tdiv_i64 hq hm, ?_⟩⟩
  refine Or.inl ⟨(i:Int)-1,by omega,by unfold I64;omega, ?_⟩
  refine⟨i,by omega,by omega,Or.inl ⟨⟨rfl, ?_,rfl,rfl,trivial⟩, ?_⟩⟩
  ·have e1:quoF (g.drop i) x=(quoF (g.drop (i+1)) x).tdiv g[i]! := by rw[hd];rfl
   rw[e1];rfl
  have e2:(List.replicate (i+1) 0++vY (g.drop (i+1)) x).set i ((quoF (g.drop (i+1)) x).tmod g[i]!)=List.replicate i 0++vY (g.drop i) x:=by
   rw[hd,List.replicate_succ',List.append_assoc,List.set_append_right _ _ (by simp)];simp[vY]
  rw[<- e2,<- ints_set]
  simp[setSeg_one,qK,coords_len]
 ·have:j=0:=by simp at hc;omega
  subst this
  exact⟨[(0,0),(2,0)],sv 1 g.length,[ro g,rw' (vY g x)],by simp,qg rfl,⟨⟨_,rfl,BRen.ints _ _ _⟩,⟨_,rfl,BRen.ints _ _ _⟩,trivial⟩,rfl,VRen.slice rfl rfl (Nat.le_refl _),rfl,rfl⟩
theorem c64 {H:List Blk} {R:Value->List Blk->Prop} {b c:Nat} {wr:Bool} {kind hosts:Int} {g:List Int} {x:Int} (hg : ∀ m∈g,2<=m) (hl:g.length<=1000) (hx:I64 x) (hb:bget H b=some (.cells wr 1 (ints g))) (hc:g.length<=c)
 (h:wV H 0 (rw' (vY g x)) (fun i H' => R (.slice (some ⟨i,0,none⟩) g.length g.length) H')) :
 qm Tryz.prog 220 [spV kind (.slice (some ⟨b,0,none⟩) g.length c) hosts, .int .i64 x] H R:=acallx_spr rfl (l64 kind hosts g hg hl x hx) hb hc h

/-! Places. -/
theorem yc {x w:Int} (hx:I64 x) (hw:1<=w):I64 (x.tdiv w):=by
 by_cases h:w=1
 ·subst h;rw[Int.tdiv_one];exact hx
 ·exact tdiv_i64 hx (by omega)
theorem powpos {k:Int} (hk:1<=k) (i:Nat):1<=k ^ i:=by have:=Int.pow_pos (n:=k) (m:=i) (by omega);omega

theorem l142 (k n x:Int) (hk:2<=k/\k<=8) (hn:1<=n/\n<=4) (hx:I64 x):qj Tryz.prog 393 [twoV k n, .int .i64 x] [] (fun v H=>v=sv 0 2/\H = [rw' [x.tdiv (k ^ (n-1).toNat),x.tmod (k ^ (n-1).toNat)]]):=by
 refine qy (qc tok Tryz.call393 Tryz.func393 rfl Tryz.ntmps393 rfl (by simp) ?_)
 have hp:=powpos (k:=k) (by omega) (n-1).toNat
 refine qG tok mx [0,0,2,7,0,0,38,118,255,511] [false,false,true,true,true,true,false,false,false,false] [0,1,4,5,2,3,6,7,8,9] (by kernel_rfl) ?_
 (repeat refine goZ ?_)
 (first | refine c146 k n hk hn ?_ | refine (c146 k n hk hn ?_).call)
 refine⟨by omega,Or.inl ⟨_,rfl,yc hx hp, ?_⟩⟩
 (repeat refine goZ ?_)
 (first | refine c146 k n hk hn ?_ | refine (c146 k n hk hn ?_).call)
 (repeat refine goZ ?_)
 exact⟨[(1,0)],sv 0 2,[rw' [_,_]],by simp,qg rfl,⟨⟨_,rfl,BRen.ints _ _ [_,_]⟩,trivial⟩,rfl,VRen.slice rfl rfl (Nat.le_refl _),rfl,rfl⟩
theorem x_ho {H : List Blk} {R : Value → List Blk → Prop} {s : Sh} {b n : Nat} (hs : s.ok) (ha : s.at H b n) (h : R (.int .i64 s.hm) H) : xH Tryz.prog (shT s) (shU (sv b n) s) "armada/net.homes" [] H R := by
 cases s with
 | grid g =>
   obtain ⟨e,wr,hb⟩:=ha
   subst e
   refine⟨382,me_ho_grid,vF (V := .int .i64 (zL g)) (H2 := [ro g]) (args2 := [sv 0 g.length]) ?_ [(b,0)] rfl (.cons (VRen.slice rfl rfl (Nat.le_refl _)) .nil)
    ⟨⟨_,hb,BRen.seg fun i x hx=>by rw[Nat.zero_add,qQ,hx];rfl⟩,trivial⟩ rfl h⟩
   obtain ⟨_,h2,_,h4⟩:=hs
   refine qc tok Tryz.call382 Tryz.func382 rfl Tryz.ntmps382 rfl (by simp) ?_
   (repeat refine goZ ?_)
   refine (l135 g (by omega) (fun i _=>wM (by have:=h4 i;omega))).mono ?_
   rintro v H ⟨rfl,rfl⟩
   exact⟨rfl,rfl⟩
 | fat k n' => exact⟨391,me_ho_fat,vF (l140 k n' hs.1 hs.2.1) [] rfl (.cons zN .nil) trivial rfl h⟩
 | fly k n' => exact⟨403,me_ho_fly,vF (l152 k n' hs.1 hs.2.1) [] rfl (.cons zN .nil) trivial rfl h⟩
end Go.Af.Tryz.Ne
namespace Go.Af
open Go
end Go.Af
namespace Go.Af.Tryz.Ne
open Go Go.Proofs
attribute [local irreducible] awp qj qm qP qH

theorem sw_bd {s:Sh} (h:s.ok):(1<=s.sw/\s.sw<=1024)/\(1<=s.hm/\s.hm<=65536):=by
 cases s with
 | grid g =>
   have:=h.2.2.2 g.length
   rw[List.take_of_length_le (Nat.le_refl _)] at this
   simp only[Sh.sw,Sh.hm];omega
 | fat k n =>
   obtain ⟨hk,hn,hp⟩:=h
   have h1:=powpos (k:=k) (by omega) (n-1).toNat
   have h2:=powle (k:=k) (by omega) (by omega) (n-1).toNat (by omega)
   have e:k ^ n.toNat=k ^ (n-1).toNat*k:=by rw[<- Int.pow_succ];congr 1;omega
   have h3:=Int.mul_le_mul_of_nonneg_left (show (1:Int)<=k by omega) (show 0<=k ^ (n-1).toNat by omega)
   have h4:=mulb (a:=n) (b:=k ^ (n-1).toNat) (A:=4) (B:=256) (by omega) (by omega) (by omega) (by omega)
   have h5:=Int.mul_le_mul_of_nonneg_right (show (1:Int)<=n by omega) (show 0<=k ^ (n-1).toNat by omega)
   simp only[Sh.sw,Sh.hm];omega
 | fly a b =>
   obtain ⟨ha,hb,hp⟩:=h
   have h3:=mulb (a:=a) (b:=b) (A:=16) (B:=4) (by omega) (by omega) (by omega) (by omega)
   have h5:=Int.mul_le_mul ha.1 (show (1:Int)<=a*b+1 by omega) (by decide) (by omega)
   simp only[Sh.sw,Sh.hm];omega
theorem yu {kind hosts:Int} {sides:List Int} {s:Sh} (h:qw kind sides hosts=some s):1<=hosts/\hosts<=8:=by
 unfold qw at h
 split at h
 ·split at h
  ·split at h
   ·rename_i hc;simp only[betw,Bool.and_eq_true,decide_eq_true_eq] at hc;omega
   ·cases h
  ·cases h
 ·split at h
  ·split at h
   ·split at h
    ·rename_i hc;simp only[betw,Bool.and_eq_true,decide_eq_true_eq] at hc;omega
    ·cases h
   ·cases h
  ·split at h
   ·split at h
    ·split at h
     ·rename_i hc;simp only[betw,Bool.and_eq_true,decide_eq_true_eq] at hc;omega
     ·cases h
    ·cases h
   ·cases h
theorem at_of {kind:Int} {sides:List Int} {s:Sh} {H:List Blk} {b:Nat} {wr:Bool} (h:s.of kind sides) (hb:bget H b=some (.cells wr 1 (ints sides))):s.at H b sides.length:=by
 cases s with
 | grid g=>obtain ⟨_,rfl⟩:=h;exact⟨rfl,wr,hb⟩
 | fat k n=>trivial
 | fly k n=>trivial

def sizeV (hosts:Int):Option Sh->Value
 | none=>.tuple ⟨[.int .i64 0, .int .i64 0, .int .i64 2]⟩
 | some s=>.tuple ⟨[.int .i64 s.sw, .int .i64 (s.hm*hosts), .int .i64 0]⟩

theorem l22 (kind hosts:Int) (sides:List Int):qj Tryz.prog 56 [spV kind (sv 0 sides.length) hosts] [ro sides] (fun v H=>v=sizeV hosts (qw kind sides hosts)/\H = [ro sides]):=by
 refine qy (qc tok Tryz.call56 Tryz.func56 rfl Tryz.ntmps56 rfl (by simp) ?_)
 (repeat refine goZ ?_)
 (first | refine c57 kind hosts rfl (Nat.le_refl _) ?_ | refine (c57 kind hosts rfl (Nat.le_refl _) ?_).call)
 cases hs:qw kind sides hosts with
 | none =>
   (repeat refine goZ ?_)
   refine⟨[(0,0)],_,[ro (sides)],by simp,qg rfl,⟨⟨_,rfl,BRen.ints _ _ _⟩,trivial⟩,rfl,VRen.plain rfl,rfl,rfl⟩
 | some s =>
   have hok:=zJ hs
   have hof:=xK hs
   have hh:=yu hs
   have hbd:=sw_bd hok
   have hm:=mulb (a:=s.hm) (b:=hosts) (A:=65536) (B:=8) (by omega) (by omega) (by omega) (by omega)
   (repeat refine goZ ?_)
   refine qG tok mx [0,1,0,7,0,16,63,15,255,511] [false,true,false,true,false,false,false,true,false,false] [0,2,4,5,1,3,6,7,8,9] (by kernel_rfl) ?_
   (repeat refine goZ ?_)
   (first | refine x_sw hok (at_of hof rfl) ?_ | refine (x_sw hok (at_of hof rfl) ?_).call)
   (repeat refine goZ ?_)
   (first | refine x_ho hok (at_of hof rfl) ?_ | refine (x_ho hok (at_of hof rfl) ?_).call)
   (repeat refine goZ ?_)
   refine⟨[(0,0)],_,[ro (sides)],by simp,qg rfl,⟨⟨_,rfl,BRen.ints _ _ _⟩,trivial⟩,rfl,VRen.plain rfl,rfl,rfl⟩
theorem c22 {H:List Blk} {R:Value->List Blk->Prop} {b c:Nat} {wr:Bool} {kind hosts:Int} {sides:List Int} (hb:bget H b=some (.cells wr 1 (ints sides))) (hl:sides.length<=c) (h:R (sizeV hosts (qw kind sides hosts)) H) :
 qm Tryz.prog 56 [spV kind (.slice (some ⟨b,0,none⟩) sides.length c) hosts] H R:=wu rfl (l22 kind hosts sides) hb hl (by cases qw kind sides hosts <;> rfl) h

theorem l23 (kind hosts:Int) (sides:List Int):qj Tryz.prog 47 [spV kind (sv 0 sides.length) hosts] [ro sides] (fun v H=>v=sizeV hosts (qw kind sides hosts)/\H = [ro sides]):=by
 refine qy (qc tok Tryz.call47 Tryz.func47 rfl Tryz.ntmps47 rfl (by simp) ?_)
 (repeat refine goZ ?_)
 (first | refine c25 rfl (Nat.le_refl _) ?_ | refine (c25 rfl (Nat.le_refl _) ?_).call)
 cases hs:qw kind sides hosts with
 | none =>
   (repeat refine goZ ?_)
   refine⟨[(0,0)],_,[ro (sides)],by simp,qg rfl,⟨⟨_,rfl,BRen.ints _ _ _⟩,trivial⟩,rfl,VRen.plain rfl,rfl,rfl⟩
 | some s =>
   have hok:=zJ hs
   have hof:=xK hs
   have hh:=yu hs
   have hbd:=sw_bd hok
   have hm:=mulb (a:=s.hm) (b:=hosts) (A:=65536) (B:=8) (by omega) (by omega) (by omega) (by omega)
   simp only[eF]
   (repeat refine goZ ?_)
   refine qG tok mx [0,1,0,7,0,16,63,15,255,511] [false,true,true,true,true,true,false,true,false,false] [0,2,4,5,1,3,6,7,8,9] (by kernel_rfl) ?_
   (repeat refine goZ ?_)
   (first | refine c58 hok hof rfl (Nat.le_refl _) ?_ | refine (c58 hok hof rfl (Nat.le_refl _) ?_).call)
   (repeat refine goZ ?_)
   (first | refine c59 hok hof rfl (Nat.le_refl _) ?_ | refine (c59 hok hof rfl (Nat.le_refl _) ?_).call)
   (repeat refine goZ ?_)
   refine⟨[(0,0)],_,[ro (sides)],by simp,qg rfl,⟨⟨_,rfl,BRen.ints _ _ _⟩,trivial⟩,rfl,VRen.plain rfl,rfl,rfl⟩
theorem c23 {H:List Blk} {R:Value->List Blk->Prop} {b c:Nat} {wr:Bool} {kind hosts:Int} {sides:List Int} (hb:bget H b=some (.cells wr 1 (ints sides))) (hl:sides.length<=c) (h:R (sizeV hosts (qw kind sides hosts)) H) :
 qm Tryz.prog 47 [spV kind (.slice (some ⟨b,0,none⟩) sides.length c) hosts] H R:=wu rfl (l23 kind hosts sides) hb hl (by cases qw kind sides hosts <;> rfl) h

def homeV (hosts:Int) (x:Int):Option Sh->Value
 | none=>.tuple ⟨[.int .i64 0, .int .i64 2]⟩
 | some s=>if x<0\/s.hm*hosts<=x then .tuple ⟨[.int .i64 0, .int .i64 3]⟩ else .tuple ⟨[.int .i64 (x.tdiv hosts), .int .i64 0]⟩


theorem homeV_plain (hosts x:Int) (o:Option Sh):wo 6 (homeV hosts x o)=true:=by
 cases o with
 | none=>rfl
 | some s=>simp only[homeV];split <;> rfl
theorem l27 (kind hosts:Int) (sides:List Int) (x:Int) (hx:I64 x):qj Tryz.prog 199 [spV kind (sv 0 sides.length) hosts, .int .i64 x] [ro sides] (fun v H=>v=homeV hosts x (qw kind sides hosts)/\H = [ro sides]):=by
 refine qy (qc tok Tryz.call199 Tryz.func199 rfl Tryz.ntmps199 rfl (by simp) ?_)
 (repeat refine goZ ?_)
 (first | refine c23 rfl (Nat.le_refl _) ?_ | refine (c23 rfl (Nat.le_refl _) ?_).call)
 cases hs:qw kind sides hosts with
 | none =>
   (repeat refine goZ ?_)
   refine⟨[(0,0)],_,[ro (sides)],by simp,qg rfl,⟨⟨_,rfl,BRen.ints _ _ _⟩,trivial⟩,rfl,VRen.plain rfl,rfl,rfl⟩
 | some s =>
   have hh:=yu hs
   (repeat refine goZ ?_)
   refine And.intro (fun hn=>?_) (fun hn=>?_)
   ·have hn : ¬ x<0:=by simpa using hn
    (repeat refine goZ ?_)
    refine And.intro (fun hg=>?_) (fun hg=>?_)
    ·have hg:s.hm*hosts<=x:=by simpa using hg
     (repeat refine goZ ?_)
     refine⟨[(0,0)],_,[ro (sides)],by simp,qg rfl,⟨⟨_,rfl,BRen.ints _ _ _⟩,trivial⟩,rfl,VRen.plain rfl,(by simp only[homeV];rw[if_pos (by omega)];rfl),rfl⟩
    ·have hg : ¬ s.hm*hosts<=x:=by simpa using hg
     (repeat refine goZ ?_)
     refine Or.inl ⟨_,rfl,yc hx hh.1, ?_⟩
     (repeat refine goZ ?_)
     refine⟨[(0,0)],_,[ro (sides)],by simp,qg rfl,⟨⟨_,rfl,BRen.ints _ _ _⟩,trivial⟩,rfl,VRen.plain rfl,(by simp only[homeV];rw[if_neg (by omega)];rfl),rfl⟩
   ·have hn:x<0:=by simpa using hn
    (repeat refine goZ ?_)
    refine⟨[(0,0)],_,[ro (sides)],by simp,qg rfl,⟨⟨_,rfl,BRen.ints _ _ _⟩,trivial⟩,rfl,VRen.plain rfl,(by simp only[homeV];rw[if_pos (by omega)];rfl),rfl⟩
theorem c27 {H:List Blk} {R:Value->List Blk->Prop} {b c:Nat} {wr:Bool} {kind hosts:Int} {sides:List Int} {x:Int} (hx:I64 x) (hb:bget H b=some (.cells wr 1 (ints sides))) (hl:sides.length<=c) (h:R (homeV hosts x (qw kind sides hosts)) H) :
 qm Tryz.prog 199 [spV kind (.slice (some ⟨b,0,none⟩) sides.length c) hosts, .int .i64 x] H R:=wu rfl (l27 kind hosts sides x hx) hb hl (homeV_plain _ _ _) h

theorem vback_with {ι : List (Nat × Nat)} {j i n:Nat} (h : ι[j]? = some (i,0)) (s:Option Sh) (l:List Int):vP ι (withR (sv j n) s l) (withR (sv i n) s l):=by
 match s with
 | none=>exact vP.plain rfl
 | some s =>
   simp only[withR]
   split
   ·cases s with
    | grid g=>exact vP.tuple (.cons (.iface _ (vback_sv h)) (.cons (.int _ _) .nil))
    | fat k n=>exact vP.plain rfl
    | fly k n=>exact vP.plain rfl
   ·exact vP.plain rfl
theorem c62 {H:List Blk} {R:Value->List Blk->Prop} {b c j d:Nat} {wr wr2:Bool} {sides l:List Int} (kind hosts:Int) (hb:bget H b=some (.cells wr 1 (ints sides))) (hc:sides.length<=c) (hj:bget H j=some (.cells wr2 1 (ints l))) (hd:l.length<=d) (hl:l.length<=1000)
 (h:R (withR (sv b sides.length) (qw kind sides hosts) l) H):qm Tryz.prog 215 [spV kind (.slice (some ⟨b,0,none⟩) sides.length c) hosts, .slice (some ⟨j,0,none⟩) l.length d] H R :=
 yj (l62 kind hosts sides l hl) [(b,0),(j,0)] rfl (.cons (.agg (.cons (.int _ _) (.cons (VRen.slice rfl rfl hc) (.cons (.int _ _) .nil)))) (.cons (VRen.slice rfl rfl hd) .nil))
  ⟨⟨_,hb,BRen.seg fun i x hx=>by rw[Nat.zero_add,qQ,hx];rfl⟩,⟨_,hj,BRen.seg fun i x hx=>by rw[Nat.zero_add,qQ,hx];rfl⟩,trivial⟩ (by
    rintro v2 H2' ⟨rfl,rfl⟩
    exact⟨_,[],[],by simp,rfl,fun k b2 hk=>by simp at hk,vback_with rfl _ _,by simpa using h⟩)

end Go.Af.Tryz.Ne
