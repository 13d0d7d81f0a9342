/-
  Calls that are computed once and for all: bounds, choices and certificates.
-/
import Derived.Test.YtgdbclgcbbbenaaGreatMWB
set_option linter.all false
noncomputable section
namespace Go.Af
open Go
attribute [local irreducible] awp qi qw qH qy
def ro2M (a b:List Int):Tr EB := .n (.n .e (some (.cells 1 (ints b))) .e) (some (.cells 1 (ints a))) .e
theorem ro2_get {a b:List Int} {i:Nat} {eb:EB} (h:(ro2M a b).get (psOf i)=some eb):(i=0/\eb = .cells 1 (ints a))\/(i=1/\eb = .cells 1 (ints b)):=by
 have e:=psOf_nat i
 generalize psOf i=q at h e
 cases q with
 | h=>cases h;left;exact⟨by rw[<- e];rfl,rfl⟩
 | i q=>cases q <;> cases h
 | o q =>
   cases q with
   | h=>cases h;right;exact⟨by rw[<- e];rfl,rfl⟩
   | i q=>cases q <;> cases h
   | o q=>cases q <;> cases h
theorem hok_ro2 (a b:List Int):HOk (ro2M a b) 2 (ro2M a b) 2 [ro a,ro b]:=by
 refine⟨rfl,Nat.le_refl _,fun i eb he=>?_,fun i hi=>?_,fun i _=>rfl,fun i eb he hr _=>?_⟩
 ·rcases ro2_get he with ⟨rfl,rfl⟩ | ⟨rfl,rfl⟩
  ·exact⟨by decide,_,rfl,rfl⟩
  ·exact⟨by decide,_,rfl,rfl⟩
 ·match i,hi with
  | 0,_=>exact⟨_,rfl⟩
  | 1,_=>exact⟨_,rfl⟩
 ·rcases ro2_get he with ⟨_,rfl⟩ | ⟨_,rfl⟩ <;> cases hr
theorem run_ro2 {P:Program} {E:Env} {FN:Tr FI} (hF:FnOk P FN) (hE:EOk P E) (hm:P.follows .mixedOrders=true) {d f:Nat} {args:List Value} {a b:List Int} {v0:Value} {k:Value->Bool} (hp:vY 6 v0=true) (hk : ∀ v,k v=true->v=v0)
 (h:(evN FN E d).call 2 f args (ro2M a b) 2 (fun v _ _=>k v)=true):qi P f args [ro a,ro b] (fun v H=>v=v0/\H = [ro a,ro b]):=by
 refine qR (((evN_ok hF hE hm d).call h (hok_ro2 a b)).mono fun v H h=>?_)
 obtain ⟨M,n,h0,hv⟩:=h
 have hv:=hk v hv
 subst hv
 have e0:=h0.base 0 (.inl (by decide))
 have e1:=h0.base 1 (.inl (by decide))
 obtain ⟨_,b0,g0,q0⟩:=h0.get 0 _ (e0.trans (rfl:(ro2M a b).get (psOf 0)=some (.cells 1 (ints a))))
 obtain ⟨_,b1,g1,q1⟩:=h0.get 1 _ (e1.trans (rfl:(ro2M a b).get (psOf 1)=some (.cells 1 (ints b))))
 have q0:b0=ro a:=q0
 have q1:b1=ro b:=q1
 subst q0 q1
 refine⟨[(0,0),(1,0)],v,[ro a,ro b],by simp, ?_,⟨⟨_,by rw[qO];exact g0,BRen.ints _ _ _⟩,⟨_,by rw[qO];exact g1,BRen.ints _ _ _⟩,trivial⟩,rfl,VRen.plain hp,rfl,rfl⟩
 intro i hi
 match i,hi with
 | 0,_=>rfl
 | 1,_=>rfl
def pveqL (g:Value->Value->Bool) (xs:List Value):List Value->Bool:=List.rec (motive:=fun _=>List Value->Bool) (fun l=>List.rec true (fun _ _ _=>false) l) (fun x _ ih2 l=>List.rec false (fun y r _=>Bool.rec false (ih2 r) (g x y)) l) xs
def pveqS (ih:Value->Value->Bool) (a b:Value):Bool :=
 match a,b with
  | .int .i64 x, .int .i64 y=>ieq x y
  | .bool x, .bool y=>Bool.rec (Bool.rec true false y) y x
  | .slice none 0 0, .slice none 0 0=>true
  | .agg xs, .agg ys=>pveqL ih xs.toList ys.toList
  | .tuple xs, .tuple ys=>pveqL ih xs.toList ys.toList
  | _,_=>false
def pveq (f:Nat):Value->Value->Bool:=Nat.rec (motive:=fun _=>Value->Value->Bool) (fun _ _=>false) (fun _ ih=>pveqS ih) f
theorem pveqL_ok {g:Value->Value->Bool} (hg : ∀ a b,g a b=true->a=b) : ∀ {xs ys:List Value},pveqL g xs ys=true->xs=ys
 | [],[],_=>rfl
 | [],_::_,h=>by cases h
 | _::_,[],h=>by cases h
 | x::xs,y::ys,h=>by
   have h:Bool.rec (motive:=fun _=>Bool) false (pveqL g xs ys) (g x y)=true:=h
   cases e:g x y with
   | false=>rw[e] at h;cases h
   | true=>rw[e] at h;rw[hg _ _ e,pveqL_ok hg h]
theorem pveq_ok : ∀ (f:Nat) (a b:Value),pveq f a b=true->a=b
 | 0,_,_,h=>by cases h
 | f+1,a,b,h=>by
   have ih:=pveq_ok f
   have h' : pveqS (pveq f) a b=true:=h
   clear h
   unfold pveqS at h'
   split at h' <;> try (cases h'; done)
   ·rw[ieq_eq] at h'
    rw[of_decide_eq_true h']
   ·rename_i x y
    cases x <;> cases y <;> first | rfl | cases h'
   ·rfl
   ·rename_i xs ys
    rw[Array.toList_inj.1 (pveqL_ok ih h')]
   ·rename_i xs ys
    rw[Array.toList_inj.1 (pveqL_ok ih h')]
end Go.Af
namespace Go.Af.Tryz.W
open Go Go.Proofs Go.Af.Tryz
set_option maxRecDepth 100000
attribute [local irreducible] awp qi qw qH qy
def mc1:Value := .agg ⟨[.int .i64 1,sv 0 1, .int .i64 1,sv 1 4, .int .i64 10, .int .i64 1, .int .i64 2, .int .i64 1]⟩
def mcC (E:Env) (f:Nat) (ps:List Value) (a:Value):Bool:=(evN FNt E 100).call 2 f (mc1::ps) (ro2M [4] [0,1,2,3]) 2 (fun v _ _=>pveq 6 v a)
theorem mc_run {E:Env} (he:EOk Tryz.prog E) {f:Nat} {ps:List Value} {a:Value} (ha:vY 6 a=true) (h:mcC E f ps a=true):qi Tryz.prog f (mc1::ps) [ro [4],ro [0,1,2,3]] (fun v H=>v=a/\H = [ro [4],ro [0,1,2,3]]):=run_ro2 fok he mx ha (fun _ h=>pveq_ok _ _ _ h) h
def orcG (ps:List Value) (a:Value):List Value->(Nat->Option (Nat × List Value))->Nat->Option (Value × List (Bool × Nat × List Value))
 | .agg xs::qs,mem,_=>match xs.toList with
   | [.int .i64 kd, .slice (some ⟨b,0,none⟩) l1 c1, .int .i64 ho, .slice (some ⟨c,0,none⟩) l2 c2, .int .i64 st, .int .i64 hp, .int .i64 wd, .int .i64 jn]=>match mem b,mem c with
     | some (1,v1),some (1,v2)=>match intsV v1,intsV v2 with
       | some sd,some hs=>match pveqL (pveq 6) qs ps&&(Nat.beq l1 1&&(Nat.ble 1 c1&&(Nat.beq l2 4&&(Nat.ble 4 c2&&(isI [kd,ho,st,hp,wd,jn] [1,1,10,1,2,1]&&(isI sd [4]&&isI hs [0,1,2,3])))))) with
         | true=>some (a,[])
         | false=>none
       | _,_=>none
     | _,_=>none
   | _=>none
 | _,_,_=>none
theorem lren_plain {ι : List (Nat × Nat)} : ∀ {ps:List Value},ps.all (vY 6)=true->LRen ι ps ps
 | [],_=>.nil
 | p::ps,h=>by
   rw[List.all_cons,Bool.and_eq_true] at h
   exact .cons (VRen.plain h.1) (lren_plain h.2)
theorem orcG_ok {f:Nat} {ps:List Value} {a:Value} (hp:ps.all (vY 6)=true) (hl:qi Tryz.prog f (mc1::ps) [ro [4],ro [0,1,2,3]] (fun v H=>v=a/\H = [ro [4],ro [0,1,2,3]])) (hpa:vY 6 a=true):OrcOk Tryz.prog f (orcG ps a):=by
 intro args mem H v bs hmem hg
 unfold orcG at hg
 split at hg
 ·rename_i xs qs
  split at hg
  ·rename_i kd b l1 c1 ho c l2 c2 st hp2 wd jn hx
   split at hg
   ·rename_i v1 v2 m1 m2
    split at hg
    ·rename_i sd hs i1 i2
     split at hg
     ·rename_i hck
      cases hg
      simp only[Bool.and_eq_true] at hck
      obtain ⟨k0,k1,k2,k3,k4,k5,k6,k7⟩:=hck
      have k5:=isI_ok k5
      cases k5
      have k1:=Nat.eq_of_beq_eq_true k1
      have k3:=Nat.eq_of_beq_eq_true k3
      have k2:=Nat.le_of_ble_eq_true k2
      have k4:=Nat.le_of_ble_eq_true k4
      subst k1 k3
      have ex:xs=⟨_⟩:=Array.toList_inj.1 hx
      subst ex
      rw[pveqL_ok (pveq_ok 6) k0]
      obtain ⟨w1,h1⟩:=hmem _ _ _ m1
      obtain ⟨w2,h2⟩:=hmem _ _ _ m2
      rw[intsV_ok i1,isI_ok k6] at h1
      rw[intsV_ok i2,isI_ok k7] at h2
      refine (vP hl [(b,0),(c,0)] rfl ?_ ⟨⟨_,h1,BRen.seg fun i x hx=>by rw[Nat.zero_add,ve,hx];rfl⟩,⟨_,h2,BRen.seg fun i x hx=>by rw[Nat.zero_add,ve,hx];rfl⟩,trivial⟩ hpa ⟨rfl,by simp⟩).call
      exact .cons (.agg (.cons (.int _ _) (.cons (VRen.slice rfl rfl k2) (.cons (.int _ _) (.cons (VRen.slice rfl rfl k4) (.cons (.int _ _) (.cons (.int _ _) (.cons (.int _ _) (.cons (.int _ _) .nil))))))))) (lren_plain hp)
     ·cases hg
    ·cases hg
   ·cases hg
  ·cases hg
 ·cases hg
def plC (E:Env) (f:Nat) (ps:List Value) (a:Value):Bool:=(evN FNt E 100).call 0 f ps .e 0 (fun v _ _=>pveq 6 v a)
def orcP (ps:List Value) (a:Value):List Value->(Nat->Option (Nat × List Value))->Nat->Option (Value × List (Bool × Nat × List Value)):=fun qs _ _=>match pveqL (pveq 6) qs ps with
 | true=>some (a,[])
 | false=>none
theorem orcP_ok {E:Env} (he:EOk Tryz.prog E) {f:Nat} {ps:List Value} {a:Value} (hp:ps.all (vY 6)=true) (ha:vY 6 a=true) (h:plC E f ps a=true):OrcOk Tryz.prog f (orcP ps a):=by
 intro args mem H v bs hm hg
 clear hm
 unfold orcP at hg
 split at hg
 ·rename_i h1
  cases hg
  rw[pveqL_ok (pveq_ok 6) h1]
  have hl:qi Tryz.prog f ps [] (fun v H=>v=a/\H = []):=qR ((run_ok fok he mx h).mono fun v H h=>by
   have h:=pveq_ok _ _ _ h
   subst h
   exact⟨[],v,[],by simp,qF rfl,trivial,rfl,VRen.plain ha,rfl,rfl⟩)
  exact (vP hl [] rfl (lren_plain hp) trivial ha ⟨rfl,by simp⟩).call
 ·cases hg
def lowV (a b c d e f g k r:Int):List Value := [.int .i64 a, .int .i64 b, .int .i64 c, .int .i64 d, .int .i64 e, .int .i64 f, .int .i64 g, .int .i64 k, .int .i64 r, .slice none 0 0]
def bd1:Value := .tuple ⟨[.agg ⟨lowV 2 2 2 0 26 0 2 1 1⟩, .int .i64 0]⟩
def bd2:Value := .tuple ⟨[.agg ⟨lowV 2 2 2 2 28 0 2 1 0⟩, .int .i64 0]⟩
theorem bnd_run1:mcC EE4 29 [tkQ 1 4 0 2] bd1=true:=by kernel_rfl
theorem bnd_run2:mcC EE4 29 [tkQ 3 4 0 1] bd2=true:=by kernel_rfl
def EE5:Env := { EE4 with ors:=(29,orE (orcG [tkQ 1 4 0 2] bd1) (orcG [tkQ 3 4 0 1] bd2))::EE4.ors }
theorem eok5:EOk Tryz.prog EE5:=eok_add eok4 (orE_ok (orcG_ok rfl (mc_run eok4 rfl bnd_run1) rfl) (orcG_ok rfl (mc_run eok4 rfl bnd_run2) rfl))
end Go.Af.Tryz.W
