/-

-/
import Derived.Test.YtgdbclgcbbbenaaGreatMSA
set_option linter.all false
namespace Go.Af.Tryz.Ne
open Go Go.Proofs
attribute [local irreducible] awp ql qy qK qH xB

end Go.Af.Tryz.Ne
namespace Go.Af.Tryz.Ne
open Go Go.Proofs
attribute [local irreducible] awp ql qy qK qH

/-! Places. -/
theorem div_i64 {x w:Int} (hx:I64 x) (hw:1<=w):I64 (x.tdiv w):=by
 by_cases h:w=1
 ·subst h;rw[Int.tdiv_one];exact hx
 ·exact tdiv_i64 hx (by omega)
theorem powpos {k:Int} (hk:1<=k) (i:Nat):1<=k ^ i:=by have:=Int.pow_pos (n:=k) (m:=i) (by omega);omega

theorem l142 (k n x:Int) (hk:2<=k/\k<=8) (hn:1<=n/\n<=4) (hx:I64 x):ql Tryz.prog 393 [twoV k n, .int .i64 x] [] (fun v H=>v=sv 0 2/\H = [rw' [x.tdiv (k ^ (n-1).toNat),x.tmod (k ^ (n-1).toNat)]]):=by
 refine qQ (qj tok Tryz.call393 Tryz.func393 rfl Tryz.ntmps393 rfl (by simp) ?_)
 have hp:=powpos (k:=k) (by omega) (n-1).toNat
 refine qJ tok mx [0,0,2,7,0,0,38,118,255,511] [false,false,true,true,true,true,false,false,false,false] [0,1,4,5,2,3,6,7,8,9] (by kernel_rfl) ?_
 (repeat (first | refine And.intro (fun _=>?_) (fun h=>absurd h (by decide)) | refine And.intro (fun h=>absurd h (by decide)) (fun _=>?_) | refine Exists.intro _ (And.intro rfl ?_) | refine And.intro (by decide) ?_ | refine And.intro (by omega) ?_ | refine Or.inl (Exists.intro _ (And.intro rfl (And.intro (by unfold I64;omega) ?_)))))
 (first | refine c146 k n hk hn ?_ | refine (c146 k n hk hn ?_).call)
 refine⟨by omega,Or.inl ⟨_,rfl,div_i64 hx hp, ?_⟩⟩
 (repeat (first | refine And.intro (fun _=>?_) (fun h=>absurd h (by decide)) | refine And.intro (fun h=>absurd h (by decide)) (fun _=>?_) | refine Exists.intro _ (And.intro rfl ?_) | refine And.intro (by decide) ?_ | refine And.intro (by omega) ?_ | refine Or.inl (Exists.intro _ (And.intro rfl (And.intro (by unfold I64;omega) ?_)))))
 (first | refine c146 k n hk hn ?_ | refine (c146 k n hk hn ?_).call)
 (repeat (first | refine And.intro (fun _=>?_) (fun h=>absurd h (by decide)) | refine And.intro (fun h=>absurd h (by decide)) (fun _=>?_) | refine Exists.intro _ (And.intro rfl ?_) | refine And.intro (by decide) ?_ | refine And.intro (by omega) ?_ | refine Or.inl (Exists.intro _ (And.intro rfl (And.intro (by unfold I64;omega) ?_)))))
 exact⟨[(1,0)],sv 0 2,[rw' [_,_]],by simp,qE rfl,⟨⟨_,rfl,BRen.ints _ _ [_,_]⟩,trivial⟩,rfl,VRen.slice rfl rfl (Nat.le_refl _),rfl,rfl⟩
theorem l154 (a b x:Int) (ha:1<=a/\a<=16) (hx:I64 x):ql Tryz.prog 405 [twoV a b, .int .i64 x] [] (fun v H=>v=sv 0 2/\H = [rw' [x.tdiv a,x.tmod a]]):=by
 refine qQ (qj tok Tryz.call405 Tryz.func405 rfl Tryz.ntmps405 rfl (by simp) ?_)
 refine qJ tok mx [0,0,2,7,0,0,32,112,255,511] [false,false,false,false,true,true,true,true,false,false] [0,1,2,3,4,5,6,7,8,9] (by kernel_rfl) ?_
 (repeat (first | refine And.intro (fun _=>?_) (fun h=>absurd h (by decide)) | refine And.intro (fun h=>absurd h (by decide)) (fun _=>?_) | refine Exists.intro _ (And.intro rfl ?_) | refine And.intro (by decide) ?_ | refine And.intro (by omega) ?_ | refine Or.inl (Exists.intro _ (And.intro rfl (And.intro (by unfold I64;omega) ?_)))))
 refine Or.inl ⟨_,rfl,div_i64 hx ha.1, ?_⟩
 (repeat (first | refine And.intro (fun _=>?_) (fun h=>absurd h (by decide)) | refine And.intro (fun h=>absurd h (by decide)) (fun _=>?_) | refine Exists.intro _ (And.intro rfl ?_) | refine And.intro (by decide) ?_ | refine And.intro (by omega) ?_ | refine Or.inl (Exists.intro _ (And.intro rfl (And.intro (by unfold I64;omega) ?_)))))
 exact⟨[(1,0)],sv 0 2,[rw' [_,_]],by simp,qE rfl,⟨⟨_,rfl,BRen.ints _ _ [_,_]⟩,trivial⟩,rfl,VRen.slice rfl rfl (Nat.le_refl _),rfl,rfl⟩

theorem x_ho {H : List Blk} {R : Value → List Blk → Prop} {s : Sh} {b n : Nat} (hs : s.ok) (ha : s.at H b n) (h : R (.int .i64 s.hm) H) : xB Tryz.prog (shT s) (shU (sv b n) s) "armada/net.homes" [] H R := by
 cases s with
 | grid g =>
   obtain ⟨e,wr,hb⟩:=ha
   subst e
   refine⟨382,me_ho_grid,vK (V := .int .i64 (yB g)) (H2 := [ro g]) (args2 := [sv 0 g.length]) ?_ [(b,0)] rfl (.cons (VRen.slice rfl rfl (Nat.le_refl _)) .nil)
    ⟨⟨_,hb,BRen.seg fun i x hx=>by rw[Nat.zero_add,qY,hx];rfl⟩,trivial⟩ rfl h⟩
   obtain ⟨_,h2,_,h4⟩:=hs
   refine qj tok Tryz.call382 Tryz.func382 rfl Tryz.ntmps382 rfl (by simp) ?_
   (repeat (first | refine And.intro (fun _=>?_) (fun h=>absurd h (by decide)) | refine And.intro (fun h=>absurd h (by decide)) (fun _=>?_) | refine Exists.intro _ (And.intro rfl ?_) | refine And.intro (by decide) ?_ | refine And.intro (by omega) ?_ | refine Or.inl (Exists.intro _ (And.intro rfl (And.intro (by unfold I64;omega) ?_)))))
   refine (l135 g (by omega) (fun i _=>xN (by have:=h4 i;omega))).mono ?_
   rintro v H ⟨rfl,rfl⟩
   exact⟨rfl,rfl⟩
 | fat k n' => exact⟨391,me_ho_fat,vK (l140 k n' hs.1 hs.2.1) [] rfl (.cons zi .nil) trivial rfl h⟩
 | fly k n' => exact⟨403,me_ho_fly,vK (l152 k n' hs.1 hs.2.1) [] rfl (.cons zi .nil) trivial rfl h⟩
end Go.Af.Tryz.Ne
namespace Go.Af
open Go
end Go.Af
namespace Go.Af.Tryz.Ne
open Go Go.Proofs
attribute [local irreducible] awp ql qy qK qH

theorem sw_bd {s:Sh} (h:s.ok):(1<=s.sw/\s.sw<=1024)/\(1<=s.hm/\s.hm<=65536):=by
 cases s with
 | grid g =>
   have:=h.2.2.2 g.length
   rw[List.take_of_length_le (Nat.le_refl _)] at this
   simp only[Sh.sw,Sh.hm];omega
 | fat k n =>
   obtain ⟨hk,hn,hp⟩:=h
   have h1:=powpos (k:=k) (by omega) (n-1).toNat
   have h2:=powle (k:=k) (by omega) (by omega) (n-1).toNat (by omega)
   have e:k ^ n.toNat=k ^ (n-1).toNat*k:=by rw[<- Int.pow_succ];congr 1;omega
   have h3:=Int.mul_le_mul_of_nonneg_left (show (1:Int)<=k by omega) (show 0<=k ^ (n-1).toNat by omega)
   have h4:=mulb (a:=n) (b:=k ^ (n-1).toNat) (A:=4) (B:=256) (by omega) (by omega) (by omega) (by omega)
   have h5:=Int.mul_le_mul_of_nonneg_right (show (1:Int)<=n by omega) (show 0<=k ^ (n-1).toNat by omega)
   simp only[Sh.sw,Sh.hm];omega
 | fly a b =>
   obtain ⟨ha,hb,hp⟩:=h
   have h3:=mulb (a:=a) (b:=b) (A:=16) (B:=4) (by omega) (by omega) (by omega) (by omega)
   have h5:=Int.mul_le_mul ha.1 (show (1:Int)<=a*b+1 by omega) (by decide) (by omega)
   simp only[Sh.sw,Sh.hm];omega
theorem shapeF_hosts {kind hosts:Int} {sides:List Int} {s:Sh} (h:qO kind sides hosts=some s):1<=hosts/\hosts<=8:=by
 unfold qO at h
 split at h
 ·split at h
  ·split at h
   ·rename_i hc;simp only[betw,Bool.and_eq_true,decide_eq_true_eq] at hc;omega
   ·cases h
  ·cases h
 ·split at h
  ·split at h
   ·split at h
    ·rename_i hc;simp only[betw,Bool.and_eq_true,decide_eq_true_eq] at hc;omega
    ·cases h
   ·cases h
  ·split at h
   ·split at h
    ·split at h
     ·rename_i hc;simp only[betw,Bool.and_eq_true,decide_eq_true_eq] at hc;omega
     ·cases h
    ·cases h
   ·cases h
theorem at_of {kind:Int} {sides:List Int} {s:Sh} {H:List Blk} {b:Nat} {wr:Bool} (h:s.of kind sides) (hb:bget H b=some (.cells wr 1 (ints sides))):s.at H b sides.length:=by
 cases s with
 | grid g=>obtain ⟨_,rfl⟩:=h;exact⟨rfl,wr,hb⟩
 | fat k n=>trivial
 | fly k n=>trivial

def sizeV (hosts:Int):Option Sh->Value
 | none=>.tuple ⟨[.int .i64 0, .int .i64 0, .int .i64 2]⟩
 | some s=>.tuple ⟨[.int .i64 s.sw, .int .i64 (s.hm*hosts), .int .i64 0]⟩

theorem l22 (kind hosts:Int) (sides:List Int):ql Tryz.prog 56 [spV kind (sv 0 sides.length) hosts] [ro sides] (fun v H=>v=sizeV hosts (qO kind sides hosts)/\H = [ro sides]):=by
 refine qQ (qj tok Tryz.call56 Tryz.func56 rfl Tryz.ntmps56 rfl (by simp) ?_)
 (repeat (first | refine And.intro (fun _=>?_) (fun h=>absurd h (by decide)) | refine And.intro (fun h=>absurd h (by decide)) (fun _=>?_) | refine Exists.intro _ (And.intro rfl ?_) | refine And.intro (by decide) ?_ | refine And.intro (by omega) ?_ | refine Or.inl (Exists.intro _ (And.intro rfl (And.intro (by unfold I64;omega) ?_)))))
 (first | refine c57 kind hosts rfl (Nat.le_refl _) ?_ | refine (c57 kind hosts rfl (Nat.le_refl _) ?_).call)
 cases hs:qO kind sides hosts with
 | none =>
   (repeat (first | refine And.intro (fun _=>?_) (fun h=>absurd h (by decide)) | refine And.intro (fun h=>absurd h (by decide)) (fun _=>?_) | refine Exists.intro _ (And.intro rfl ?_) | refine And.intro (by decide) ?_ | refine And.intro (by omega) ?_ | refine Or.inl (Exists.intro _ (And.intro rfl (And.intro (by unfold I64;omega) ?_)))))
   refine⟨[(0,0)],_,[ro (sides)],by simp,qE rfl,⟨⟨_,rfl,BRen.ints _ _ _⟩,trivial⟩,rfl,VRen.plain rfl,rfl,rfl⟩
 | some s =>
   have hok:=yx hs
   have hof:=shapeF_of hs
   have hh:=shapeF_hosts hs
   have hbd:=sw_bd hok
   have hm:=mulb (a:=s.hm) (b:=hosts) (A:=65536) (B:=8) (by omega) (by omega) (by omega) (by omega)
   (repeat (first | refine And.intro (fun _=>?_) (fun h=>absurd h (by decide)) | refine And.intro (fun h=>absurd h (by decide)) (fun _=>?_) | refine Exists.intro _ (And.intro rfl ?_) | refine And.intro (by decide) ?_ | refine And.intro (by omega) ?_ | refine Or.inl (Exists.intro _ (And.intro rfl (And.intro (by unfold I64;omega) ?_)))))
   refine qJ tok mx [0,1,0,7,0,16,63,15,255,511] [false,true,false,true,false,false,false,true,false,false] [0,2,4,5,1,3,6,7,8,9] (by kernel_rfl) ?_
   (repeat (first | refine And.intro (fun _=>?_) (fun h=>absurd h (by decide)) | refine And.intro (fun h=>absurd h (by decide)) (fun _=>?_) | refine Exists.intro _ (And.intro rfl ?_) | refine And.intro (by decide) ?_ | refine And.intro (by omega) ?_ | refine Or.inl (Exists.intro _ (And.intro rfl (And.intro (by unfold I64;omega) ?_)))))
   (first | refine x_sw hok (at_of hof rfl) ?_ | refine (x_sw hok (at_of hof rfl) ?_).call)
   (repeat (first | refine And.intro (fun _=>?_) (fun h=>absurd h (by decide)) | refine And.intro (fun h=>absurd h (by decide)) (fun _=>?_) | refine Exists.intro _ (And.intro rfl ?_) | refine And.intro (by decide) ?_ | refine And.intro (by omega) ?_ | refine Or.inl (Exists.intro _ (And.intro rfl (And.intro (by unfold I64;omega) ?_)))))
   (first | refine x_ho hok (at_of hof rfl) ?_ | refine (x_ho hok (at_of hof rfl) ?_).call)
   (repeat (first | refine And.intro (fun _=>?_) (fun h=>absurd h (by decide)) | refine And.intro (fun h=>absurd h (by decide)) (fun _=>?_) | refine Exists.intro _ (And.intro rfl ?_) | refine And.intro (by decide) ?_ | refine And.intro (by omega) ?_ | refine Or.inl (Exists.intro _ (And.intro rfl (And.intro (by unfold I64;omega) ?_)))))
   refine⟨[(0,0)],_,[ro (sides)],by simp,qE rfl,⟨⟨_,rfl,BRen.ints _ _ _⟩,trivial⟩,rfl,VRen.plain rfl,rfl,rfl⟩
theorem c22 {H:List Blk} {R:Value->List Blk->Prop} {b c:Nat} {wr:Bool} {kind hosts:Int} {sides:List Int} (hb:bget H b=some (.cells wr 1 (ints sides))) (hl:sides.length<=c) (h:R (sizeV hosts (qO kind sides hosts)) H) :
 qy Tryz.prog 56 [spV kind (.slice (some ⟨b,0,none⟩) sides.length c) hosts] H R:=acallx_sp rfl (l22 kind hosts sides) hb hl (by cases qO kind sides hosts <;> rfl) h

theorem vback_with {ι : List (Nat × Nat)} {j i n:Nat} (h : ι[j]? = some (i,0)) (s:Option Sh) (l:List Int):vV ι (withR (sv j n) s l) (withR (sv i n) s l):=by
 match s with
 | none=>exact vV.plain rfl
 | some s =>
   simp only[withR]
   split
   ·cases s with
    | grid g=>exact vV.tuple (.cons (.iface _ (vback_sv h)) (.cons (.int _ _) .nil))
    | fat k n=>exact vV.plain rfl
    | fly k n=>exact vV.plain rfl
   ·exact vV.plain rfl
theorem c62 {H:List Blk} {R:Value->List Blk->Prop} {b c j d:Nat} {wr wr2:Bool} {sides l:List Int} (kind hosts:Int) (hb:bget H b=some (.cells wr 1 (ints sides))) (hc:sides.length<=c) (hj:bget H j=some (.cells wr2 1 (ints l))) (hd:l.length<=d) (hl:l.length<=1000)
 (h:R (withR (sv b sides.length) (qO kind sides hosts) l) H):qy Tryz.prog 215 [spV kind (.slice (some ⟨b,0,none⟩) sides.length c) hosts, .slice (some ⟨j,0,none⟩) l.length d] H R :=
 acallx_ro (l62 kind hosts sides l hl) [(b,0),(j,0)] rfl (.cons (.agg (.cons (.int _ _) (.cons (VRen.slice rfl rfl hc) (.cons (.int _ _) .nil)))) (.cons (VRen.slice rfl rfl hd) .nil))
  ⟨⟨_,hb,BRen.seg fun i x hx=>by rw[Nat.zero_add,qY,hx];rfl⟩,⟨_,hj,BRen.seg fun i x hx=>by rw[Nat.zero_add,qY,hx];rfl⟩,trivial⟩ (by
    rintro v2 H2' ⟨rfl,rfl⟩
    exact⟨_,[],[],by simp,rfl,fun k b2 hk=>by simp at hk,vback_with rfl _ _,by simpa using h⟩)

end Go.Af.Tryz.Ne
