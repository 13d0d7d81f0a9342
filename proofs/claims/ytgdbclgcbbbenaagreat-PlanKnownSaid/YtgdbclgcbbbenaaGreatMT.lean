/-

-/
import Derived.Test.YtgdbclgcbbbenaaGreatMSA
import Derived.Test.YtgdbclgcbbbenaaGreatMCA
set_option linter.all false
namespace Go.Af.Tryz.Ne
open Go Go.Proofs
attribute [local irreducible] awp qi qw qH qy zX

end Go.Af.Tryz.Ne
namespace Go.Af.Tryz.Ne
open Go Go.Proofs
attribute [local irreducible] awp qi qw qH qy

/-! Places. -/
theorem div_i64 {x w:Int} (hx:I64 x) (hw:1<=w):I64 (x.tdiv w):=by
 by_cases h:w=1
 ·subst h;rw[Int.tdiv_one];exact hx
 ·exact tdiv_i64 hx (by omega)
theorem powpos {k:Int} (hk:1<=k) (i:Nat):1<=k ^ i:=by have:=Int.pow_pos (n:=k) (m:=i) (by omega);omega

theorem l142 (k n x:Int) (hk:2<=k/\k<=8) (hn:1<=n/\n<=4) (hx:I64 x):qi Tryz.prog 393 [twoV k n, .int .i64 x] [] (fun v H=>v=sv 0 2/\H = [rw' [x.tdiv (k ^ (n-1).toNat),x.tmod (k ^ (n-1).toNat)]]):=by
 refine qR (qh tok Tryz.call393 Tryz.func393 rfl Tryz.ntmps393 rfl (by simp) ?_)
 have hp:=powpos (k:=k) (by omega) (n-1).toNat
 refine qZ tok mx [0,0,2,7,0,0,38,118,255,511] [false,false,true,true,true,true,false,false,false,false] [0,1,4,5,2,3,6,7,8,9] (by kernel_rfl) ?_
 (repeat refine goZ ?_)
 (first | refine c146 k n hk hn ?_ | refine (c146 k n hk hn ?_).call)
 refine⟨by omega,Or.inl ⟨_,rfl,div_i64 hx hp, ?_⟩⟩
 (repeat refine goZ ?_)
 (first | refine c146 k n hk hn ?_ | refine (c146 k n hk hn ?_).call)
 (repeat refine goZ ?_)
 exact⟨[(1,0)],sv 0 2,[rw' [_,_]],by simp,qF rfl,⟨⟨_,rfl,BRen.ints _ _ [_,_]⟩,trivial⟩,rfl,VRen.slice rfl rfl (Nat.le_refl _),rfl,rfl⟩
theorem x_ho {H : List Blk} {R : Value → List Blk → Prop} {s : Sh} {b n : Nat} (hs : s.ok) (ha : s.at H b n) (h : R (.int .i64 s.hm) H) : zX Tryz.prog (shT s) (shU (sv b n) s) "armada/net.homes" [] H R := by
 cases s with
 | grid g =>
   obtain ⟨e,wr,hb⟩:=ha
   subst e
   refine⟨382,me_ho_grid,vP (V := .int .i64 (prodF g)) (H2 := [ro g]) (args2 := [sv 0 g.length]) ?_ [(b,0)] rfl (.cons (VRen.slice rfl rfl (Nat.le_refl _)) .nil)
    ⟨⟨_,hb,BRen.seg fun i x hx=>by rw[Nat.zero_add,ve,hx];rfl⟩,trivial⟩ rfl h⟩
   obtain ⟨_,h2,_,h4⟩:=hs
   refine qh tok Tryz.call382 Tryz.func382 rfl Tryz.ntmps382 rfl (by simp) ?_
   (repeat refine goZ ?_)
   refine (l135 g (by omega) (fun i _=>xO (by have:=h4 i;omega))).mono ?_
   rintro v H ⟨rfl,rfl⟩
   exact⟨rfl,rfl⟩
 | fat k n' => exact⟨391,me_ho_fat,vP (l140 k n' hs.1 hs.2.1) [] rfl (.cons zt .nil) trivial rfl h⟩
 | fly k n' => exact⟨403,me_ho_fly,vP (l152 k n' hs.1 hs.2.1) [] rfl (.cons zt .nil) trivial rfl h⟩
end Go.Af.Tryz.Ne
namespace Go.Af
open Go
end Go.Af
namespace Go.Af.Tryz.Ne
open Go Go.Proofs
attribute [local irreducible] awp qi qw qH qy

theorem sw_bd {s:Sh} (h:s.ok):(1<=s.sw/\s.sw<=1024)/\(1<=s.hm/\s.hm<=65536):=by
 cases s with
 | grid g =>
   have:=h.2.2.2 g.length
   rw[List.take_of_length_le (Nat.le_refl _)] at this
   simp only[Sh.sw,Sh.hm];omega
 | fat k n =>
   obtain ⟨hk,hn,hp⟩:=h
   have h1:=powpos (k:=k) (by omega) (n-1).toNat
   have h2:=powle (k:=k) (by omega) (by omega) (n-1).toNat (by omega)
   have e:k ^ n.toNat=k ^ (n-1).toNat*k:=by rw[<- Int.pow_succ];congr 1;omega
   have h3:=Int.mul_le_mul_of_nonneg_left (show (1:Int)<=k by omega) (show 0<=k ^ (n-1).toNat by omega)
   have h4:=mulb (a:=n) (b:=k ^ (n-1).toNat) (A:=4) (B:=256) (by omega) (by omega) (by omega) (by omega)
   have h5:=Int.mul_le_mul_of_nonneg_right (show (1:Int)<=n by omega) (show 0<=k ^ (n-1).toNat by omega)
   simp only[Sh.sw,Sh.hm];omega
 | fly a b =>
   obtain ⟨ha,hb,hp⟩:=h
   have h3:=mulb (a:=a) (b:=b) (A:=16) (B:=4) (by omega) (by omega) (by omega) (by omega)
   have h5:=Int.mul_le_mul ha.1 (show (1:Int)<=a*b+1 by omega) (by decide) (by omega)
   simp only[Sh.sw,Sh.hm];omega
theorem shapeF_hosts {kind hosts:Int} {sides:List Int} {s:Sh} (h:qP kind sides hosts=some s):1<=hosts/\hosts<=8:=by
 unfold qP at h
 split at h
 ·split at h
  ·split at h
   ·rename_i hc;simp only[betw,Bool.and_eq_true,decide_eq_true_eq] at hc;omega
   ·cases h
  ·cases h
 ·split at h
  ·split at h
   ·split at h
    ·rename_i hc;simp only[betw,Bool.and_eq_true,decide_eq_true_eq] at hc;omega
    ·cases h
   ·cases h
  ·split at h
   ·split at h
    ·split at h
     ·rename_i hc;simp only[betw,Bool.and_eq_true,decide_eq_true_eq] at hc;omega
     ·cases h
    ·cases h
   ·cases h
theorem at_of {kind:Int} {sides:List Int} {s:Sh} {H:List Blk} {b:Nat} {wr:Bool} (h:s.of kind sides) (hb:bget H b=some (.cells wr 1 (ints sides))):s.at H b sides.length:=by
 cases s with
 | grid g=>obtain ⟨_,rfl⟩:=h;exact⟨rfl,wr,hb⟩
 | fat k n=>trivial
 | fly k n=>trivial

theorem vback_with {ι : List (Nat × Nat)} {j i n:Nat} (h : ι[j]? = some (i,0)) (s:Option Sh) (l:List Int):qY ι (withR (sv j n) s l) (withR (sv i n) s l):=by
 match s with
 | none=>exact qY.plain rfl
 | some s =>
   simp only[withR]
   split
   ·cases s with
    | grid g=>exact qY.tuple (.cons (.iface _ (vback_sv h)) (.cons (.int _ _) .nil))
    | fat k n=>exact qY.plain rfl
    | fly k n=>exact qY.plain rfl
   ·exact qY.plain rfl
theorem c62 {H:List Blk} {R:Value->List Blk->Prop} {b c j d:Nat} {wr wr2:Bool} {sides l:List Int} (kind hosts:Int) (hb:bget H b=some (.cells wr 1 (ints sides))) (hc:sides.length<=c) (hj:bget H j=some (.cells wr2 1 (ints l))) (hd:l.length<=d) (hl:l.length<=1000)
 (h:R (withR (sv b sides.length) (qP kind sides hosts) l) H):qw Tryz.prog 215 [spV kind (.slice (some ⟨b,0,none⟩) sides.length c) hosts, .slice (some ⟨j,0,none⟩) l.length d] H R :=
 xU (l62 kind hosts sides l hl) [(b,0),(j,0)] rfl (.cons (.agg (.cons (.int _ _) (.cons (VRen.slice rfl rfl hc) (.cons (.int _ _) .nil)))) (.cons (VRen.slice rfl rfl hd) .nil))
  ⟨⟨_,hb,BRen.seg fun i x hx=>by rw[Nat.zero_add,ve,hx];rfl⟩,⟨_,hj,BRen.seg fun i x hx=>by rw[Nat.zero_add,ve,hx];rfl⟩,trivial⟩ (by
    rintro v2 H2' ⟨rfl,rfl⟩
    exact⟨_,[],[],by simp,rfl,fun k b2 hk=>by simp at hk,vback_with rfl _ _,by simpa using h⟩)

end Go.Af.Tryz.Ne
