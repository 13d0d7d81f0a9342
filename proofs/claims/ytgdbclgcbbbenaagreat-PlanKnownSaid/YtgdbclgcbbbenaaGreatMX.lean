/-
  Routes in a dragonfly, as the reference finds them.
  Routes: what both sides come to. No program is in sight.
  Route and Classes, of both sides.
  Route and Classes, of both sides.
  Route and Classes of the reference.
-/
import Derived.Test.YtgdbclgcbbbenaaGreatMV
import Derived.Test.YtgdbclgcbbbenaaGreatMC
import Derived.Test.YtgdbclgcbbbenaaGreatMCA
set_option linter.all false
namespace Go.Af.Tryz.Ne
open Go Go.Proofs
attribute [local irreducible] awp qi qw qH qy

end Go.Af.Tryz.Ne
namespace Go.Af.Tryz.Ne
open Go

theorem step_in {m d a:Int} (hm:2<=m) (hd:d=1\/d = -1) (h0:0<=a):0<=vk m d a/\vk m d a<m:=by
 unfold vk
 exact⟨Int.tmod_nonneg _ (by omega),Int.tmod_lt_of_pos _ (by omega)⟩
theorem inn_len (g:List Int) (i:Nat) (m d:Int) : ∀ (k:Nat) (e:List Int) (c:Int) (p q:List Int),(inn g i m d k e c p q).2.1.length=p.length+k/\(inn g i m d k e c p q).2.2.length=q.length+k
 | 0,_,_,_,_=>⟨rfl,rfl⟩
 | k+1,e,c,p,q=>by
   have:=inn_len g i m d k (e.set i (vk m d e[i]!)) (if vk m d e[i]! - e[i]! ≠ d then 1 else c) (p ++ [numF g (e.set i (vk m d e[i]!))]) (q ++ [if vk m d e[i]! - e[i]! ≠ d then 1 else c])
   simp only[inn]
   rw[this.1,this.2]
   simp;omega
theorem inn_in {g:List Int} {i:Nat} {d:Int} (hi:i<g.length) (hm:2<=g[i]!) (hd:d=1\/d = -1) : ∀ (k:Nat) (e:List Int) (c:Int) (p q:List Int),InR g e->InR g (inn g i g[i]! d k e c p q).1
 | 0,_,_,_,_,h=>h
 | k+1,e,c,p,q,h=>by
   have hs:=step_in hm hd (h.2 i hi).1
   simp only[inn]
   exact inn_in hi hm hd k _ _ _ _ (h.set hi hs.1 hs.2)
theorem outr_len {g ts:List Int} (hg : ∀ i,i<g.length->2<=g[i]! /\ g[i]! <= 16) (ht:InR g ts) : ∀ (k i:Nat) (e p q:List Int),i+k=g.length->InR g e ->
 (outr g ts k i e p q).1.length<=p.length+16*k/\(outr g ts k i e p q).2.length+p.length=(outr g ts k i e p q).1.length+q.length
 | 0,_,_,_,_,_,_=>by simp only[outr];omega
 | k+1,i,e,p,q,h,hin=>by
   have hi:i<g.length:=by omega
   have hd:=dirF_two g[i]! e[i]! ts[i]!
   have hl:=inn_len g i g[i]! (dirF g[i]! e[i]! ts[i]!) (distF g[i]! (dirF g[i]! e[i]! ts[i]!) e[i]! ts[i]!) e 0 p q
   have hr:=inn_in hi (hg i hi).1 hd (distF g[i]! (dirF g[i]! e[i]! ts[i]!) e[i]! ts[i]!) e 0 p q hin
   have hb:=dist_le (m:=g[i]!) (d:=dirF g[i]! e[i]! ts[i]!) (hg i hi).2 (hin.2 i hi).1 (hin.2 i hi).2 (ht.2 i hi).1 (ht.2 i hi).2
   simp only[outr]
   have:=outr_len hg ht k (i+1) _ (inn g i g[i]! (dirF g[i]! e[i]! ts[i]!) (distF g[i]! (dirF g[i]! e[i]! ts[i]!) e[i]! ts[i]!) e 0 p q).2.1 (inn g i g[i]! (dirF g[i]! e[i]! ts[i]!) (distF g[i]! (dirF g[i]! e[i]! ts[i]!) e[i]! ts[i]!) e 0 p q).2.2 (by omega) hr
   omega
theorem torF_len {g:List Int} (hok:(Sh.grid g).ok) {x y:Int} (hx:0<=x) (hy:0<=y):(torF g x y).1.length<=65/\(torF g x y).2.length+1=(torF g x y).1.length:=by
 obtain ⟨h1,h2,h3,h4⟩:=hok
 have hg : ∀ i,i<g.length->2<=g[i]! /\ g[i]! <= 16:=fun i hi=>by rw[getElem!_pos g i hi];exact h3 _ (List.getElem_mem hi)
 have:=outr_len hg (coords_in hy g (fun m hm=>(h3 m hm).1)) g.length 0 (wR g x) [x] [] (by omega) (coords_in hx g (fun m hm=>(h3 m hm).1))
 unfold torF
 simp at this ⊢
 omega

theorem upF_len (k y W:Int) : ∀ (f l:Nat) (w:Int) (p:List Int),(upF k y W f l w p).2.2.length<=p.length+f/\(upF k y W f l w p).1<=l+f/\p.length<=(upF k y W f l w p).2.2.length
 | 0,_,_,_=>⟨Nat.le_refl _,Nat.le_refl _,Nat.le_refl _⟩
 | f+1,l,w,p=>by
   simp only[upF]
   split
   ·simp
   ·have:=upF_len k y W f (l+1) (likF k w l y) (p ++ [((l+1:Nat):Int)*W+likF k w l y])
    simp only[List.length_append,List.length_singleton] at this
    omega
theorem dnF_len (k y W:Int) : ∀ (l:Nat) (w:Int) (p:List Int),(dnF k y W l w p).length=p.length+l
 | 0,_,_=>rfl
 | l+1,w,p=>by
   simp only[dnF]
   rw[dnF_len k y W l]
   simp;omega
theorem treF_len {k:Int} {N:Nat} {x y:Int} (hx:(x.tdiv (k ^ N)).toNat<=4) (hN:N<=3):1<=(treF k N x y).length/\(treF k N x y).length<=100:=by
 unfold treF
 have h1:=upF_len k y (k ^ N) (N-(x.tdiv (k ^ N)).toNat) (x.tdiv (k ^ N)).toNat (x.tmod (k ^ N)) [x]
 rw[dnF_len]
 simp only[List.length_singleton] at h1
 omega

def wQ (s:Sh) (x y:Int):List Int × List Int :=
 match s with
 | .grid g=>torF g x y
 | .fat k n=>(treF k (n-1).toNat x y,List.replicate ((treF k (n-1).toNat x y).length-1) 0)
 | .fly a h=>flyF a h x y
def goF (o:Option Sh) (x y:Int):Int :=
 match o with
 | none=>2
 | some s=>if (0<=x/\x<s.sw)/\(0<=y/\y<s.sw) then (if s.hm<=y then 2 else 0) else 3

theorem routeF_len {s:Sh} (hok:s.ok) {x y:Int} (hx:0<=x/\x<s.sw) (hy:0<=y/\y<s.hm):(wQ s x y).1.length<=100/\(wQ s x y).2.length<=100:=by
 cases s with
 | grid g=>have:=torF_len hok hx.1 hy.1;simp only[wQ];omega
 | fat k n =>
   obtain ⟨hk,hn,hp⟩:=hok
   have hW:=powpos (k:=k) (by omega) (n-1).toNat
   have:(x.tdiv (k ^ (n-1).toNat)).toNat<=4:=by
    have:x.tdiv (k ^ (n-1).toNat)<n:=by
     rw[Int.tdiv_eq_ediv_of_nonneg hx.1]
     exact Int.ediv_lt_of_lt_mul (by omega) hx.2
    omega
   have:=treF_len (y:=y) this (show (n-1).toNat<=3 by omega)
   simp only[wQ,List.length_replicate];omega
 | fly a h =>
   have h1:=flyL_len a h x y
   have h2:=ddF_le (flyL a h x y) _ (Nat.le_refl _)
   rw[List.take_length] at h2
   simp only[wQ,flyF,clsF,List.length_map,List.length_dropLast];omega
end Go.Af.Tryz.Ne
namespace Go.Af.Tryz.Ne
open Go Go.Proofs
attribute [local irreducible] awp qi qw qH qy

abbrev twoT (a b:Value):Value := .tuple ⟨[a,b]⟩
theorem twoT_back {ι : List (Nat × Nat)} {a b a' b' : Value} (h1:qY ι a a') (h2:qY ι b b'):qY ι (twoT a b) (twoT a' b'):=qY.tuple (.cons h1 (.cons h2 .nil))

theorem me_rt_grid (v : Value) (w : World) : (method (Tryz.prog.types.size + Made.depth) 252 v "armada/net.route").run Tryz.prog w = .ok (384, v) w := by kernel_rfl
theorem me_rt_fat (v : Value) (w : World) : (method (Tryz.prog.types.size + Made.depth) 271 v "armada/net.route").run Tryz.prog w = .ok (394, v) w := by kernel_rfl
theorem me_rt_fly (v : Value) (w : World) : (method (Tryz.prog.types.size + Made.depth) 273 v "armada/net.route").run Tryz.prog w = .ok (406, v) w := by kernel_rfl

theorem x_rt {H:List Blk} {R:Value->List Blk->Prop} {s:Sh} {b n:Nat} {x g:Int} (hs:s.ok) (ha:s.at H b n) (hx:0<=x/\x<s.sw) (hg:0<=g/\g<s.hm)
 (h : ∀ (N : List (List Int)) (v1 v2 : Value), RN H.length N v1 (wQ s x g).1 → RN H.length N v2 (wQ s x g).2 → R (twoT v1 v2) (H ++ N.map rw')) : zX Tryz.prog (shT s) (shU (sv b n) s) "armada/net.route" [.int .i64 x, .int .i64 g] H R := by
 have hb:=sw_bd hs
 cases s with
 | grid g' =>
   obtain ⟨e,wr,hb'⟩:=ha
   subst e
   refine⟨384,me_rt_grid,xC (F:=twoT) (H2 := [ro g']) twoT_back (qi.mono (l133 g' hs x g (by omega) (by omega)) ?_) [(b,0)] rfl (.cons (VRen.slice rfl rfl (Nat.le_refl _)) (.cons (.int _ _) (.cons (.int _ _) .nil))) ⟨⟨_,hb',BRen.seg fun i x hx=>by rw[Nat.zero_add,ve,hx];rfl⟩,trivial⟩ h⟩
   rintro v H' ⟨rfl,rfl⟩
   show ∃ (N:List (List Int)) (v1 v2:Value),_/\_/\RN 1 N v1 (torF g' x g).1/\RN 1 N v2 (torF g' x g).2
   cases hq:(torF g' x g).2 with
   | nil=>exact⟨[(torF g' x g).1],_,_,rfl,rfl,RN.at 0 rfl (Nat.le_refl _),RN.nil _ _⟩
   | cons y q=>exact⟨[(torF g' x g).1,y::q],_,_,rfl,rfl,RN.at 0 rfl (Nat.le_refl _),RN.at 1 rfl (Nat.le_refl _)⟩
 | fat k n' =>
   obtain ⟨hk,hn,hp⟩:=hs
   refine⟨394,me_rt_fat,xC (F:=twoT) (H2 := []) twoT_back (qi.mono (l143 k n' x g hk hn hx hg) ?_) [] rfl (.cons zt (.cons (.int _ _) (.cons (.int _ _) .nil))) trivial h⟩
   rintro v H' ⟨rfl,rfl⟩
   refine⟨[treF k (n' - 1).toNat x g,List.replicate ((treF k (n' - 1).toNat x g).length-1) 0],_,_,rfl,rfl,RN.at 0 rfl (Nat.le_refl _), ?_⟩
   have:=RN.at (n:=0) (N := [treF k (n' - 1).toNat x g,List.replicate ((treF k (n' - 1).toNat x g).length-1) 0]) (xs:=List.replicate ((treF k (n' - 1).toNat x g).length-1) 0) (c:=(treF k (n' - 1).toNat x g).length-1) 1 rfl (by simp)
   rw[List.length_replicate] at this
   exact this
 | fly a c =>
   obtain ⟨ha',hc,hp⟩:=hs
   exact⟨406,me_rt_fly,xC (F:=twoT) (H2 := []) twoT_back (l155 a c x g ha' hc hx hg) [] rfl (.cons zt (.cons (.int _ _) (.cons (.int _ _) .nil))) trivial h⟩

/-! ### The reference's errors -/

end Go.Af.Tryz.Ne
namespace Go.Af.Tryz.Ne
open Go Go.Proofs
attribute [local irreducible] awp qi qw qH qy

abbrev thrT (a b:Value):Value := .tuple ⟨[a,b, .int .i64 0]⟩
theorem thrT_back {ι : List (Nat × Nat)} {a b a' b' : Value} (h1:qY ι a a') (h2:qY ι b b'):qY ι (thrT a b) (thrT a' b'):=qY.tuple (.cons h1 (.cons h2 (.cons (qY.int _ _) .nil)))
theorem thrT_ren {ι : List (Nat × Nat)} {a b a' b' : Value} (h1:VRen ι a a') (h2:VRen ι b b'):VRen ι (thrT a b) (thrT a' b'):=VRen.tuple (.cons h1 (.cons h2 (.cons (VRen.int _ _) .nil)))
abbrev oneT (a:Value) (_:Value):Value := .tuple ⟨[a, .int .i64 0]⟩
theorem oneT_back {ι : List (Nat × Nat)} {a b a' b' : Value} (h1:qY ι a a') (_:qY ι b b'):qY ι (oneT a b) (oneT a' b'):=qY.tuple (.cons h1 (.cons (qY.int _ _) .nil))
theorem oneT_ren {ι : List (Nat × Nat)} {a b a' b' : Value} (h1:VRen ι a a') (_:VRen ι b b'):VRen ι (oneT a b) (oneT a' b'):=VRen.tuple (.cons h1 (.cons (VRen.int _ _) .nil))

theorem l51e (kind hosts:Int) (sides:List Int) (x y:Int) (he:goF (qP kind sides hosts) x y≠0):qi Tryz.prog 193 [spV kind (sv 0 sides.length) hosts, .int .i64 x, .int .i64 y] [ro sides]
 (fun v H=>v = .tuple ⟨[.slice none 0 0, .slice none 0 0, .int .i64 (goF (qP kind sides hosts) x y)]⟩/\H = [ro sides]):=by
 refine qR (qh tok Tryz.call193 Tryz.func193 rfl Tryz.ntmps193 rfl (by simp) ?_)
 (repeat refine goZ ?_)
 (first | refine c62 (l := [x,y]) kind hosts rfl (Nat.le_refl _) rfl (Nat.le_refl _) (by simp) ?_ | refine (c62 (l := [x,y]) kind hosts rfl (Nat.le_refl _) rfl (Nat.le_refl _) (by simp) ?_).call)
 cases hs:qP kind sides hosts with
 | none =>
   rw[show goF none x y=2 from rfl]
   (repeat refine goZ ?_)
   refine⟨[(0,0)],_,[ro (sides)],by simp,qF rfl,⟨⟨_,rfl,BRen.ints _ _ _⟩,trivial⟩,rfl,VRen.plain rfl,rfl,rfl⟩
 | some s =>
   rw[hs] at he
   have hok:=shapeF_ok hs
   have hof:=shapeF_of hs
   by_cases hin:(0<=x/\x<s.sw)/\(0<=y/\y<s.sw)
   ·have e1:withR (sv 0 sides.length) (some s) [x,y] = .tuple ⟨[shV (sv 0 sides.length) s, .int .i64 0]⟩:=by simp[withR,inAll,hin]
    have e2:goF (some s) x y=if s.hm<=y then 2 else 0:=if_pos hin
    have e3:s.hm<=y:=by
     by_cases h:s.hm<=y
     ·exact h
     ·rw[e2,if_neg h] at he;exact absurd rfl he
    rw[e1,e2,if_pos e3]
    (repeat refine goZ ?_)
    (first | refine x_ho hok (at_of hof rfl) ?_ | refine (x_ho hok (at_of hof rfl) ?_).call)
    refine And.intro (fun _=>?_) (fun hc=>absurd hc (by simp[e3]))
    (repeat refine goZ ?_)
    refine⟨[(0,0)],_,[ro (sides)],by simp,qF rfl,⟨⟨_,rfl,BRen.ints _ _ _⟩,trivial⟩,rfl,VRen.plain rfl,rfl,rfl⟩
   ·have e1:withR (sv 0 sides.length) (some s) [x,y] = .tuple ⟨[.nilIface, .int .i64 3]⟩:=by
     have:inAll [x,y] s.sw=false:=by simp[inAll];omega
     simp[withR,this]
    have e2:goF (some s) x y=3:=if_neg hin
    rw[e1,e2]
    (repeat refine goZ ?_)
    refine⟨[(0,0)],_,[ro (sides)],by simp,qF rfl,⟨⟨_,rfl,BRen.ints _ _ _⟩,trivial⟩,rfl,VRen.plain rfl,rfl,rfl⟩

theorem l51 (kind hosts:Int) (sides:List Int) (x y:Int) (s:Sh) (hs:qP kind sides hosts=some s) (hx:0<=x/\x<s.sw) (hy' : 0<=y/\y<s.sw) (hy:0<=y/\y<s.hm):qi Tryz.prog 193 [spV kind (sv 0 sides.length) hosts, .int .i64 x, .int .i64 y] [ro sides]
 (fun v H => ∃ (N:List (List Int)) (v1 v2:Value),v=thrT v1 v2/\H = [ro sides]++N.map rw' /\ RN 1 N v1 (wQ s x y).1/\RN 1 N v2 (wQ s x y).2):=by
 have hok:=shapeF_ok hs
 have hof:=shapeF_of hs
 refine qR (qh tok Tryz.call193 Tryz.func193 rfl Tryz.ntmps193 rfl (by simp) ?_)
 (repeat refine goZ ?_)
 (first | refine c62 (l := [x,y]) kind hosts rfl (Nat.le_refl _) rfl (Nat.le_refl _) (by simp) ?_ | refine (c62 (l := [x,y]) kind hosts rfl (Nat.le_refl _) rfl (Nat.le_refl _) (by simp) ?_).call)
 have e1:withR (sv 0 sides.length) (some s) [x,y] = .tuple ⟨[shV (sv 0 sides.length) s, .int .i64 0]⟩:=by simp[withR,inAll,hx,hy']
 rw[hs,e1]
 (repeat refine goZ ?_)
 (first | refine x_ho hok (at_of hof rfl) ?_ | refine (x_ho hok (at_of hof rfl) ?_).call)
 refine And.intro (fun hc=>?_) (fun _=>?_)
 ·have hc:s.hm<=y:=by simpa using hc
  omega
 (repeat refine goZ ?_)
 (first | refine x_rt hok (at_of hof rfl) hx hy ?_ | refine (x_rt hok (at_of hof rfl) hx hy ?_).call)
 intro N v1 v2 r1 r2
 (repeat refine goZ ?_)
 exact drop_rows (X := [sides]) (E := [_,_]) (F:=thrT) thrT_ren r1 r2 (fun a' b' h1 h2=>⟨N,a',b',rfl,rfl,h1,h2⟩)
theorem c51e {H:List Blk} {R:Value->List Blk->Prop} {b c:Nat} {wr:Bool} {kind hosts:Int} {sides:List Int} {x y:Int} (he:goF (qP kind sides hosts) x y≠0) (hb:bget H b=some (.cells wr 1 (ints sides))) (hl:sides.length<=c)
 (h:R (.tuple ⟨[.slice none 0 0, .slice none 0 0, .int .i64 (goF (qP kind sides hosts) x y)]⟩) H) :
 qw Tryz.prog 193 [spV kind (.slice (some ⟨b,0,none⟩) sides.length c) hosts, .int .i64 x, .int .i64 y] H R:=acallx_sp rfl (l51e kind hosts sides x y he) hb hl rfl h
theorem lren_sp {b c:Nat} {kind hosts:Int} {sides:List Int} {xs:List Value} (hp:xs.all (vY 6)=true) (hl:sides.length<=c):LRen [(b,0)] (spV kind (sv 0 sides.length) hosts::xs) (spV kind (.slice (some ⟨b,0,none⟩) sides.length c) hosts::xs) :=
 .cons (.agg (.cons (.int _ _) (.cons (VRen.slice rfl rfl hl) (.cons (.int _ _) .nil)))) (LRen.of rfl fun i x2 x h1 h2=>by
   rw[h1] at h2;cases h2
   exact VRen.plain (List.all_eq_true.1 hp _ (List.mem_of_getElem? h1)))
theorem blks_sp {H:List Blk} {b:Nat} {wr:Bool} {sides:List Int} (hb:bget H b=some (.cells wr 1 (ints sides))):vW [(b,0)] H [(b,0)] [ro sides] :=
 ⟨⟨_,hb,BRen.seg fun i x hx=>by rw[Nat.zero_add,ve,hx];rfl⟩,trivial⟩
theorem c51 {H:List Blk} {R:Value->List Blk->Prop} {b c:Nat} {wr:Bool} {kind hosts:Int} {sides:List Int} {x y:Int} {s:Sh} (hs:qP kind sides hosts=some s) (hx:0<=x/\x<s.sw) (hy' : 0<=y/\y<s.sw) (hy:0<=y/\y<s.hm)
 (hb:bget H b=some (.cells wr 1 (ints sides))) (hl:sides.length<=c)
 (h : ∀ (N:List (List Int)) (v1 v2:Value),RN H.length N v1 (wQ s x y).1->RN H.length N v2 (wQ s x y).2->R (thrT v1 v2) (H++N.map rw')) :
 qw Tryz.prog 193 [spV kind (.slice (some ⟨b,0,none⟩) sides.length c) hosts, .int .i64 x, .int .i64 y] H R :=
 xC (F:=thrT) (H2 := [ro sides]) thrT_back (l51 kind hosts sides x y s hs hx hy' hy) [(b,0)] rfl (lren_sp rfl hl) (blks_sp hb) h

structure RtOk (kind hosts:Int) (sides:List Int) (s:Sh) (x y:Int):Prop where
 hs:qP kind sides hosts=some s
 hx:0<=x/\x<s.sw
 hy' : 0<=y/\y<s.sw
 hy:0<=y/\y<s.hm
def RowOf (f:FuncId) (kind hosts:Int) (sides:List Int) (x y:Int) (p:Sh->List Int):Prop :=
 (goF (qP kind sides hosts) x y≠0->qi Tryz.prog f [spV kind (sv 0 sides.length) hosts, .int .i64 x, .int .i64 y] [ro sides] (fun v H=>v = .tuple ⟨[.slice none 0 0, .int .i64 (goF (qP kind sides hosts) x y)]⟩/\H = [ro sides])) /\
 ∀ s,RtOk kind hosts sides s x y->qi Tryz.prog f [spV kind (sv 0 sides.length) hosts, .int .i64 x, .int .i64 y] [ro sides] (fun v H => ∃ (N:List (List Int)) (v1 v2:Value),v=oneT v1 v2/\H = [ro sides]++N.map rw' /\ RN 1 N v1 (p s)/\RN 1 N v2 [])
theorem RowOf.ok {f:FuncId} {kind hosts:Int} {sides:List Int} {x y:Int} {p:Sh->List Int} (hr:RowOf f kind hosts sides x y p) {H:List Blk} {R:Value->List Blk->Prop} {b c:Nat} {wr:Bool} {s:Sh} (hs:RtOk kind hosts sides s x y) (hb:bget H b=some (.cells wr 1 (ints sides))) (hl:sides.length<=c)
 (h : ∀ (N:List (List Int)) (v1:Value),RN H.length N v1 (p s)->R (.tuple ⟨[v1, .int .i64 0]⟩) (H++N.map rw')):qw Tryz.prog f [spV kind (.slice (some ⟨b,0,none⟩) sides.length c) hosts, .int .i64 x, .int .i64 y] H R :=
 xC (F:=oneT) (H2 := [ro sides]) oneT_back (hr.2 s hs) [(b,0)] rfl (lren_sp rfl hl) (blks_sp hb) (fun N v1 _ h1 _=>h N v1 h1)

theorem l13 (kind hosts:Int) (sides:List Int) (x y:Int):RowOf 99 kind hosts sides x y (fun s=>(wQ s x y).1):=by
 refine⟨fun he=>?_,fun s hr=>?_⟩
 ·refine qR (qh tok Tryz.call99 Tryz.func99 rfl Tryz.ntmps99 rfl (by simp) ?_)
  (repeat refine goZ ?_)
  (first | refine c51e he rfl (Nat.le_refl _) ?_ | refine (c51e he rfl (Nat.le_refl _) ?_).call)
  (repeat refine goZ ?_)
  refine⟨[(0,0)],_,[ro (sides)],by simp,qF rfl,⟨⟨_,rfl,BRen.ints _ _ _⟩,trivial⟩,rfl,VRen.plain rfl,rfl,rfl⟩
 ·refine qR (qh tok Tryz.call99 Tryz.func99 rfl Tryz.ntmps99 rfl (by simp) ?_)
  (repeat refine goZ ?_)
  (first | refine c51 hr.hs hr.hx hr.hy' hr.hy rfl (Nat.le_refl _) ?_ | refine (c51 hr.hs hr.hx hr.hy' hr.hy rfl (Nat.le_refl _) ?_).call)
  intro N v1 v2 r1 r2
  (repeat refine goZ ?_)
  exact drop_rows (X := [sides]) (E := [_]) (F:=oneT) oneT_ren r1 (RN.nil _ _) (fun a' b' h1 h2=>⟨N,a',b',rfl,rfl,h1,h2⟩)
end Go.Af.Tryz.Ne
namespace Go.Af.Tryz.Ne
open Go Go.Proofs
attribute [local irreducible] awp qi qw qH qy

end Go.Af.Tryz.Ne
