/- A part of the proof. -/
import Derived.Test.YtmnjcogpchodhaaGreatMB
set_option linter.all false
namespace Go.Af
open Go
variable {H:List Blk}
variable {rd:Bool}

def Uw (sl:List (Nat × Value)) (c:Operand) (yes no:Prop):Prop :=
 match ev sl c with
 | some (.bool b)=>(b=true->yes)/\(b=false->no)
 | _=>False

def aft (n:Nat) (Q:Ex->List (Nat × Value)->List Blk->Prop):Ex->AF->List Blk->Prop:=fun e a H=>a.n=n/\Q e a.sl H

def vcg (P:Program) (T:TT) (rd:Bool) (n0 n:Nat):Code->(Ex->List (Nat × Value)->List Blk->Prop)->List (Nat × Value)->List Blk->Prop
 | .skip,Q,sl,H=>Q .normal sl H
 | .seq x y,Q,sl,H=>vcg P T rd n0 n x (fun e sl H=>match e with
     | .normal=>vcg P T rd n0 n y Q sl H
     | .exit i=>Q (.exit i) sl H
     | .ret=>Q .ret sl H) sl H
 | .cond c x y,Q,sl,H=>Uw sl c (vcg P T rd n0 n x Q sl H) (vcg P T rd n0 n y Q sl H)
 | .block id c,Q,sl,H=>vcg P T rd n0 n c (fun e sl H=>match e with
     | .normal=>Q .normal sl H
     | .exit i=>match Nat.beq i id with
       | true=>Q .normal sl H
       | false=>Q (.exit i) sl H
     | .ret=>Q .ret sl H) sl H
 | .scope c,Q,sl,H=>vcg P T rd n0 n c Q sl H
 | .exit id,Q,sl,H=>Q (.exit id) sl H
 | .ret,Q,sl,H=>Q .ret sl H
 | .region _ ops false,Q,sl,H=>vops P T n ops.toList ops.toList (fun sl H=>Q .normal sl H) sl H
 | .region id ops true,Q,sl,H=>awp P rd n0 (.region id ops true) (aft n Q) ⟨n,sl⟩ H
 | .loop c,Q,sl,H=>awp P rd n0 (.loop c) (aft n Q) ⟨n,sl⟩ H
 | .rangeFunc f ps as body,Q,sl,H=>match rd with
   | true=>False
   | false=>match ev sl f with
     | some (.func (.func g) ⟨first⟩ ⟨captured⟩)=>xB H 0 (.loop .ready none n sl ps as body) (fun l H1=>qj P g (first++(.func (.yield l) #[] #[]::captured)) H1 (fun _ H2=>qx l H2 (fun e H3=>Q e sl H3)))
     | _=>False
 | _,_,_,_=>False

section
variable {P:Program} {T:TT}

theorem vg (hT:TOk P T) {n0 n:Nat} : ∀ (c:Code) {Q:Ex->List (Nat × Value)->List Blk->Prop} {sl:List (Nat × Value)} {H:List Blk},vcg P T rd n0 n c Q sl H ->
 awp P rd n0 c (aft n Q) ⟨n,sl⟩ H
 | .skip,Q,sl,H,h=>xZ0 ⟨rfl,h⟩
 | .seq x y,Q,sl,H,h=>by
   simp only[vcg] at h;refine VL (wu (vg hT x h) ?_);rintro e ⟨n',sl'⟩ H' ⟨rfl,hq⟩
   cases e with
   | normal=>exact vg hT y hq
   | exit i=>exact⟨rfl,hq⟩
   | ret=>exact⟨rfl,hq⟩
 | .cond c x y,Q,sl,H,h=>by
   simp only[vcg,Uw] at h;split at h
   ·rename_i b hb
    exact yc0 hb (fun hb=>vg hT x (h.1 hb)) (fun hb=>vg hT y (h.2 hb))
   ·exact h.elim
 | .block id c,Q,sl,H,h=>by
   simp only[vcg] at h;refine zk0 (wu (vg hT c h) ?_);rintro e ⟨n',sl'⟩ H' ⟨rfl,hq⟩
   cases e with
   | normal=>exact⟨rfl,hq⟩
   | exit i =>
     simp only at hq;simp only[Ex.inBlock];split at hq
     ·rename_i hb;rw[hb];exact⟨rfl,hq⟩
     ·rename_i hb;rw[hb];exact⟨rfl,hq⟩
   | ret=>exact⟨rfl,hq⟩
 | .scope c,Q,sl,H,h=>zf0 (vg hT c h)
 | .exit id,Q,sl,H,h=>ya0 ⟨rfl,h⟩
 | .ret,Q,sl,H,h=>Qv0 ⟨rfl,h⟩
 | .region id ops false,Q,sl,H,h=>by
   simp only[vcg] at h
   exact wu (vc0 hT (Q:=fun e a H=>e = .normal/\a.n=n/\Q .normal a.sl H) (a:=⟨n,sl⟩) (by
    have hmono : ∀ (l:List Oper) (sl:List (Nat × Value)) (H:List Blk),vops P T n ops.toList l (fun sl H=>Q .normal sl H) sl H->vops P T n ops.toList l (fun sl H=>Ex.normal=Ex.normal/\n=n/\Q .normal sl H) sl H:=by
     intro l sl H h;simpa using h
    exact hmono _ _ _ h)) (fun e a H ⟨h1,h2,h4⟩=>by subst h1;exact⟨h2,h4⟩)
 | .region id ops true,Q,sl,H,h=>h
 | .loop c,Q,sl,H,h=>h
 | .rangeFunc f ps as body,Q,sl,H,h=>by
   simp only[vcg] at h;split at h
   ·exact h.elim
   ·split at h
    ·rename_i g first captured hf
     rw[vH,Nat.zero_add] at h;exact zh0 (a:=⟨n,sl⟩) hf (h.mono fun v H hq=>Xt hq fun e H hq=>⟨rfl,hq⟩)
    ·exact h.elim
 | .label _,_,_,_,h=>h.elim
 | .goto _,_,_,_,h=>h.elim
 | .refuse _,_,_,_,h=>h.elim

theorem Xf (hT:TOk P T) {l:Nat} {args:List Value} {R:Value->List Blk->Prop}
 (h:VN l args H (fun n as body sl=>vcg P T true H.length n as (fun e sl1 H1=>match e with
   | .normal=>qh l H1 (fun H2=>vcg P T true H.length n body (fun e _ H3=>roundEnd l e H3 R) sl1 H2)
   | .exit _=>False
   | .ret=>False) sl H)):qK P l args H R:=by
 refine ze0 (YP h fun n as body sl h=>wu (vg hT as h) ?_);rintro e ⟨n2,sl2⟩ H2 ⟨rfl,hq⟩
 cases e with
 | normal=>exact WU hq fun H3 h=>wu (vg hT body h) fun e a H4 ⟨_,hq⟩=>hq
 | exit i=>exact hq.elim
 | ret=>exact hq.elim

def endQ (T:TT) (rs:List ResultVar) (R:Value->List Blk->Prop) (e:Ex) (sl:List (Nat × Value)) (H:List Blk):Prop :=
 match e with
 | .exit _=>False
 | .normal=>resK T sl H rs (fun vs=>R (resV vs) H)
 | .ret=>resK T sl H rs (fun vs=>R (resV vs) H)

theorem zC (hT:TOk P T) {f:FuncId} {fn:Func} {c:Code} {args:List Value} {R:Value->List Blk->Prop} (hc : ∀ (as:Array Value) (w:World),(callFunc f as).run P w = .ok (.enter f as) w) (hf:P.funcs[f]? = some fn) (hb:fn.body=some c) {n:Nat} (hnt:fn.ntmps=n)
 {rs:Array ResultVar} (hrs:fn.results=rs) (hn:args.length<=n) (h:vcg P T false H.length n c (endQ T rs.toList R) (Vp args 0) H):qj P f args H R:=by
 subst hnt;subst hrs;refine qz0 hT hc hf hb hn (wu (vg hT c h) ?_);rintro e ⟨n',sl'⟩ H' ⟨h1,hq⟩
 cases e with
 | normal=>exact hq
 | exit i=>exact hq.elim
 | ret=>exact hq

theorem YB (hT:TOk P T) {f:FuncId} {fn:Func} {c:Code} {args:List Value} {R:Value->List Blk->Prop} (hf:P.funcs[f]? = some fn) (hb:fn.body=some c) {n:Nat} (hnt:fn.ntmps=n)
 {rs:Array ResultVar} (hrs:fn.results=rs) (hn:args.length<=n) (h:vcg P T false H.length n c (endQ T rs.toList R) (Vp args 0) H) {m:LM} {argsR:Array Value} {w:World} (ha:LRel m args argsR.toList) (hh:HRel m H w) :
 Calls P f argsR w fun e w' => ∃ vR,e = .returned vR/\zW m H w R vR w' := by
 subst hnt;subst hrs;refine xS0 hT hf hb hn (wu (vg hT c h) ?_) ha hh;rintro e ⟨n',sl'⟩ H' ⟨h1,hq⟩
 cases e with
 | normal=>exact hq
 | exit i=>exact hq.elim
 | ret=>exact hq

theorem wo (hT:TOk P T) (hm:P.follows .mixedOrders=true) {n0 n:Nat} {Q:Ex->List (Nat × Value)->List Blk->Prop} {sl:List (Nat × Value)} {H:List Blk} {id:Nat} {ops:List Oper} (bf:List Nat) (qs:List Bool) (σ : List Nat) (hB:wT0 ops.toArray bf.toArray qs σ = true)
 (h:Qx P T n ops qs σ (fun sl H=>Q .normal sl H) sl H):awp P rd n0 (.region id ops.toArray true) (aft n Q) ⟨n,sl⟩ H:=by
 refine wu (yb0 hT hm (Q:=fun e a H=>e = .normal/\a.n=n/\Q .normal a.sl H) (a:=⟨n,sl⟩) bf qs σ hB (by simpa using h)) ?_;intro e a H ⟨h1,h2,h4⟩;subst h1;exact⟨h2,h4⟩

theorem zI0 (hT:TOk P T) {n0 n:Nat} {Q:Ex->List (Nat × Value)->List Blk->Prop} {sl:List (Nat × Value)} {H:List Blk} {c:Code} (I:Nat->List (Nat × Value)->List Blk->Prop) (k:Nat) (h0:I k sl H)
 (round : ∀ k sl H,I k sl H->vcg P T rd n0 n c (fun e sl' H' => match e with
   | .normal => ∃ k',k' < k/\I k' sl' H'
   | .exit i=>Q (.exit i) sl' H'
   | .ret=>Q .ret sl' H') sl H):awp P rd n0 (.loop c) (aft n Q) ⟨n,sl⟩ H:=by
 refine XM (fun k a H=>a.n=n/\I k a.sl H) (n:=k) ⟨rfl,h0⟩ ?_;rintro k ⟨n',sl'⟩ H' ⟨rfl,hI⟩;refine wu (vg hT c (round k sl' H' hI)) ?_;rintro e ⟨n2,sl2⟩ H2 ⟨rfl,hq⟩
 cases e with
 | normal=>obtain ⟨k',h1,h2⟩:=hq;exact⟨k',h1,rfl,h2⟩
 | exit i=>exact⟨rfl,hq⟩
 | ret=>exact⟨rfl,hq⟩

end

/-! ### Rows of numbers -/

def ints (xs:List Int):List Value:=xs.map (Value.int .i64)
@[simp] theorem qU (xs:List Int):(ints xs).length=xs.length:=by simp[ints]
theorem yw (xs:List Int) (i:Nat):(ints xs)[i]? = (xs[i]?).map (Value.int .i64):=by simp[ints]
theorem zi (xs ys:List Int):ints (xs++ys)=ints xs++ints ys:=by simp[ints]
theorem ints_set (xs:List Int) (i:Nat) (x:Int):(ints xs).set i (.int .i64 x)=ints (xs.set i x):=by simp[ints,List.map_set]
theorem Vs0 {xs:List Int} {o:Nat} {K:Value->Prop} (k:Nat) (x:Int) (ho:o=k) (hk:xs[k]? = some x) (h:K (.int .i64 x)):Ld (ints xs) o K:=⟨_,by rw[ho,yw,hk];rfl,h⟩

end Go.Af
namespace Go.Af
open Go
variable {rd:Bool}

def yo0:List (Nat × Value)->List (Nat × Value)->Prop
 | [],_=>True
 | (i,v)::r,sl=>look sl i=some v/\yo0 r sl
theorem yo0.get {sl:List (Nat × Value)} : ∀ {r:List (Nat × Value)} (_:yo0 r sl) (s:Nat) (v:Value) (_:look r s=some v),look sl s=some v
 | [],_,_,_,h=>by cases h
 | (k,v)::r,h,s,u,hl=>by
   simp only[look] at hl;split at hl
   ·rename_i hk;cases hl;have:=Nat.eq_of_beq_eq_true hk;subst this;exact h.1
   ·exact h.2.get s u hl

def Rn (n0:Nat) (sl:List (Nat × Value)) (H:List Blk) (S:List (Nat × Value)) (Hs:List Blk):Prop :=
 (yo0 S sl/\H=Hs)\/∃ ι,n0<=Hs.length/\anch n0 ι/\zI ι H ι Hs/\injB ι Hs=true/\zw0 ι sl S

section
variable {P:Program} {T:TT}

theorem zg0 {n0 n:Nat} {c:Code} {Q:Ex->AF->List Blk->Prop} {sl S:List (Nat × Value)} {H Hs:List Blk} (hr:Rn n0 sl H S Hs) (h:awp P rd n0 c Q ⟨n,S⟩ Hs):awp P rd n0 c Q ⟨n,sl⟩ H:=by
 rcases hr with ⟨h1,rfl⟩ | ⟨ι,h1,h2,h3,h4,h5⟩
 ·intro hn m aR w hs b k cs hb
  exact h hn m aR w ⟨hs.n,fun s v hv=>hs.sl s v (h1.get s v hv),hs.df,hs.heap⟩ b k cs hb
 ·exact Qw0 (a:=⟨n,sl⟩) ι S Hs h1 h2 h3 h4 h5 h

theorem qf (hT:TOk P T) {n0 n:Nat} {Q:Ex->List (Nat × Value)->List Blk->Prop} {sl:List (Nat × Value)} {H:List Blk} {c:Code} {α : Type} (I : α->Prop) (S : α->List (Nat × Value)) (Hf : α->List Blk) (μ : α->Nat)
 (x0 : α) (h0:I x0) (hr:Rn n0 sl H (S x0) (Hf x0))
 (round : ∀ x,I x->vcg P T rd n0 n c (fun e sl' H' => match e with
   | .normal => ∃ x',I x' /\ μ x' < μ x/\Rn n0 sl' H' (S x') (Hf x')
   | .exit i=>Q (.exit i) sl' H'
   | .ret=>Q .ret sl' H') (S x) (Hf x)):awp P rd n0 (.loop c) (aft n Q) ⟨n,sl⟩ H:=by
 refine XM (fun k a H=>a.n=n/\∃ x,I x/\μ x=k/\Rn n0 a.sl H (S x) (Hf x)) (n := μ x0) ⟨rfl,x0,h0,rfl,hr⟩ ?_;rintro k ⟨n',sl'⟩ H' ⟨rfl,x,hI,rfl,hrx⟩;refine zg0 hrx (wu (vg hT c (round x hI)) ?_);rintro e ⟨n2,sl2⟩ H2 ⟨rfl,hq⟩
 cases e with
 | normal=>obtain ⟨x',h1,h2,h3⟩:=hq;exact⟨μ x',h2,rfl,x',h1,rfl,h3⟩
 | exit i=>exact⟨rfl,hq⟩
 | ret=>exact⟨rfl,hq⟩

def Drop (n0:Nat) (R:Value->List Blk->Prop) (v:Value) (H:List Blk):Prop :=
 ∃ ι v2 H2,n0<=H2.length/\anch n0 ι/\zI ι H ι H2/\injB ι H2=true/\VRen ι v2 v/\R v2 H2

theorem Fr.re' {n0:Nat} {m m' : LM} {H H2 H' : List Blk} {w w' : World} {ι : List (Nat × Nat)} (hb:zI ι H' ι H2) (ha:anch n0 ι) (hn:n0<=H2.length) (h:Fr n0 m H w m' H' w'):Fr n0 m H w (m'.re ι) H2 w' := by
 have e : ∀ i,i<n0->m'.re ι i=m' i:=fun i hi=>by simp[LM.re,ha i hi,xM]
 refine⟨h.size,fun _=>hn,fun i hi l hl=>by rw[e i hi];exact h.base i hi l hl,fun i hi hl=>by rw[e i hi];exact h.base' i hi hl,fun i hi b' hb' hr' => ?_,fun r hr hw=>?_,h.out⟩
 ·obtain ⟨b,b2,k1,k2,k3⟩:=hb.get (ha i hi)
  rw[hb'] at k2;cases k2;exact h.rw i hi b k1 (k3.1 hr')
 ·obtain ⟨g1,g2⟩:=h.keep r hr hw
  exact⟨g1,fun hw' => g2 (hw'.re hb)⟩

theorem Qm {f:FuncId} {args:List Value} {H:List Blk} {R:Value->List Blk->Prop} (h:qj P f args H (Drop H.length R)):qj P f args H R :=
 ⟨h.1,fun m argsR w hl hh=>(h.2 m argsR w hl hh).mono fun vR w' ⟨v,H',m',⟨ι,v2,H2,h1,h2,h3,h4,h5,h6⟩,r2,r3,r4⟩ =>
   ⟨v2,H2,m'.re ι,h6,h5 m' _ r2,r3.re h3 h4,r4.re' h3 h2 h1⟩⟩

/-! ### Memory that is only read -/

def Zt:List Blk->Bool
 | []=>true
 | b::r => !b.isRw&&Zt r
theorem Vs : ∀ {H:List Blk} (_:Zt H=true) {i:Nat} {b:Blk} (_:H[i]? = some b),b.isRw=false
 | [],_,i,b,h=>by simp at h
 | x::r,hr,0,b,h=>by simp[Zt] at hr h;subst h;exact hr.1
 | x::r,hr,i+1,b,h=>by simp[Zt] at hr;exact Vs hr.2 (by simpa using h)
theorem zo0 : ∀ {ι : List (Nat × Nat)} {H:List Blk} (_:Zt H=true),injB ι H=true:=by
 intro ι
 induction ι with
 | nil=>intro H _;simp[injB]
 | cons x r ih =>
   intro H hH
   cases H with
   | nil=>simp[injB]
   | cons b bs =>
     simp[Zt] at hH
     have nt : ∀ (l:List (Nat × Nat)) (bs:List Blk),Zt bs=true->VU (x.1,b.isRw) l bs=true:=by
      intro l
      induction l with
      | nil=>intro bs _;simp[VU]
      | cons y l ihl =>
        intro bs hbs
        cases bs with
        | nil=>simp[VU]
        | cons c bs=>simp[Zt] at hbs;simpa [VU,hH.1,hbs.1] using ihl bs hbs.2
     simp[injB,ih hH.2,nt r bs hH.2]

theorem Zv {f:FuncId} {args2 args:List Value} {H2 H:List Blk} {R2 R:Value->List Blk->Prop} (hc:qj P f args2 H2 R2) (ι : List (Nat × Nat)) (hro:Zt H2=true) (ha:LRen ι args2 args) (hb:zI ι H ι H2)
 (hR : ∀ v2 H2',R2 v2 H2' -> ∃ v N2 N,H2' = H2++N2/\N.length=N2.length/\(∀ (k:Nat) (b2:Blk),N2[k]? = some b2->(b2.isRw=true\/b2 = .dead)/\∃ b,N[k]? = some b/\UF (ι ++ (List.range N2.length).map (fun k=>(H.length+k,0))) b2 b) /\
   uF (ι ++ (List.range N2.length).map (fun k=>(H.length+k,0))) v2 v/\R v (H++N)):qI P f args H R :=
 ⟨hc.1,fun m argsR w hl hh=>by
   have hi:injB ι H2=true:=zo0 hro;have hno : ∀ (j i s:Nat) (b2:Blk),ι[j]? = some (i,s)->H2[j]? = some b2->b2.isRw=true->False:=fun j i s b2 _ h2 h3=>by rw[Vs hro h2] at h3;cases h3
   refine (hc.2 (m.re ι) argsR w (ha m _ hl) (hh.re hb hi)).mono ?_;rintro vR w' ⟨v2,H2',m2',r1,r2,r3,r4⟩;obtain ⟨v,N2,N,rfl,e1,e2,e3,e4⟩:=hR v2 H2' r1;have hlen:=hb.len
   obtain ⟨m',k1,k2,k3⟩:=xM0 (H' := H++N) (ι' := ι ++ (List.range N2.length).map (fun k=>(H.length+k,0))) hh hb hi (fun j i s b2 h1 h2 h3=>(hno j i s b2 h1 h2 h3).elim) r3 r4
    ⟨by simp,by simp[e1],by simp,fun j i s b2 h1 h2 h3=>(hno j i s b2 h1 h2 h3).elim,fun i hi _=>by rw[List.getElem?_append_left hi],fun k b2 hk=>by
      rw[List.getElem?_append_right (by omega),Nat.add_sub_cancel_left] at hk;obtain ⟨g1,b,g2,g3⟩:=e2 k b2 hk
      exact⟨g1,b,by rw[List.getElem?_append_right (by omega),Nat.add_sub_cancel_left];exact g2,g3⟩⟩
   refine⟨⟨v,_,m',e4,e3 m2' m' k3 _ r2,k1,k2⟩,r4.size,fun r hr=>(r4.keep r hr ?_).1⟩;rintro ⟨i,b,h1,h2,h3⟩
   rw[Vs hro h2] at h3;cases h3⟩

end
end Go.Af
namespace Go.Af
open Go
abbrev ro (xs:List Int):Blk := .cells false 1 (ints xs)
abbrev rw' (xs:List Int):Blk := .cells true 1 (ints xs)
abbrev sv (b n:Nat):Value := .slice (some ⟨b,0,none⟩) n n

theorem zl0 {n:Nat} {ι : List (Nat × Nat)} (h:((List.range n).all fun i=>decide (ι[i]? = some (i,0)))=true):anch n ι := fun i hi=>by
 rw[List.all_eq_true] at h
 simpa using h i (List.mem_range.2 hi)

theorem BRen.seg {ι : List (Nat × Nat)} {wr:Bool} {z s:Nat} {xs:List Int} {vs:List Value} (h : ∀ (i:Nat) (x:Int),xs[i]? = some x->vs[s+i]? = some (.int .i64 x)):BRen ι s (.cells false z (ints xs)) (.cells wr z vs) :=
 BRen.cells (fun h=>by cases h) fun i x hx=>by
  rw[yw] at hx
  cases hy:xs[i]? with
  | none=>rw[hy] at hx;cases hx
  | some y=>rw[hy] at hx;cases hx;exact⟨_,h i y hy, .int _ _⟩
theorem BRen.ints {ι : List (Nat × Nat)} (wr:Bool) (z:Nat) (xs:List Int):BRen ι 0 (.cells wr z (ints xs)) (.cells wr z (ints xs)) :=
 BRen.cells id fun i x h=>by
  rw[yw] at h
  cases hx:xs[i]? with
  | none=>rw[hx] at h;cases h
  | some y=>rw[hx] at h;cases h;exact⟨_,by rw[Nat.zero_add,yw,hx];rfl, .int _ _⟩
theorem VRel.plain_eq : ∀ (n:Nat) (v:Value) {m:LM} {u:Value},wS n v=true->VRel m v u->u=v:=by
 intro n
 induction n with
 | zero=>intro v m u h;cases h
 | succ n ih =>
   intro v m u h hr
   have lst : ∀ (l:List Value) (us:List Value),l.all (wS n)=true->LRel m l us->us=l:=by
    intro l
    induction l with
    | nil=>intro us _ hu;exact hu.inv_nil
    | cons y l ihl =>
      intro us hl hu;obtain ⟨z,us',rfl,h1,h2⟩:=hu.inv_cons;simp at hl;rw[ih y hl.1 h1,ihl us' (by simpa using hl.2) h2]
   unfold wS at h;split at h <;> first | exact absurd h (by decide) | (cases hr;rfl) | skip
   ·obtain ⟨ys,rfl,hl⟩:=hr.inv_agg
    have:=lst _ _ h hl;rw[Array.ext' this]
   ·obtain ⟨ys,rfl,hl⟩:=hr.inv_tuple
    have:=lst _ _ h hl;rw[Array.ext' this]
   ·cases hr with
    | iface _ _ v' hv=>rw[ih _ h hv]
theorem uF.plain {ι : List (Nat × Nat)} {v:Value} (h:wS 6 v=true):uF ι v v:=fun _ _ _ vR hr=>by
 rw[VRel.plain_eq 6 v h hr];exact VRel.plain _ 6 _ h
theorem VRen.plain {ι : List (Nat × Nat)} {v:Value} (h:wS 6 v=true):VRen ι v v:=fun m vR hr=>by
 rw[VRel.plain_eq 6 v h hr];exact VRel.plain _ 6 _ h
theorem Vt.plain {ι : List (Nat × Nat)} {vs:List Value} (h:vs.all (wS 6)=true):Vt ι vs vs:=Vt.of rfl fun i x2 x h1 h2=>by
 rw[h1] at h2;cases h2;rw[List.all_eq_true] at h;exact uF.plain (h x2 (List.mem_of_getElem? h1))
theorem qT0 (xs:List Int):(ints xs).all (wS 6)=true:=by simp[ints,wS]

/-! ### Rows that can be read -/

section
variable {P:Program} {f:FuncId} {args2 args:List Value} {H2 H:List Blk} {R:Value->List Blk->Prop}

theorem XR {V:Value} (hc:qj P f args2 H2 (fun v H' => v=V/\H' = H2)) (ι : List (Nat × Nat)) (hro:Zt H2=true) (ha:LRen ι args2 args) (hb:zI ι H ι H2) (hV:wS 6 V=true) (h:R V H):qI P f args H R :=
 Zv hc ι hro ha hb (by
  rintro v2 H2' ⟨rfl,rfl⟩
  exact⟨v2,[],[],by simp,rfl,fun k b2 hk=>by simp at hk,uF.plain hV,by simpa using h⟩)

end
end Go.Af
namespace Go.Af
open Go

inductive Plan where
 | done
 | first (i:Nat) (p:Plan)
 | alt (i:Nat) (p q:Plan)
 | no

def Vx (P:Program) (T:TT) (n:Nat) (all:List Oper) (qs:List Bool) (K:List (Nat × Value)->List Blk->Prop):Plan->List (Nat × Value)->List Blk->Prop
 | .done,sl,H=>K sl H
 | .no,_,_=>True
 | .first i p,sl,H=>match uf all i with
   | some o=>uB all o.guard sl (fun sl=>WJ P T (bAt qs i) o.op sl H (fun v H' => putK n o.dst v sl (fun sl' => Vx P T n all qs K p sl' H')))
      (fun sl=>putK n o.dst undef sl (fun sl' => Vx P T n all qs K p sl' H))
   | none=>False
 | .alt i p q,sl,H=>(match uf all i with
   | some o=>uB all o.guard sl (fun sl=>WJ P T (bAt qs i) o.op sl H (fun v H' => putK n o.dst v sl (fun sl' => Vx P T n all qs K p sl' H')))
      (fun sl=>putK n o.dst undef sl (fun sl' => Vx P T n all qs K p sl' H))
   | none=>False)/\Vx P T n all qs K q sl H

def Wn (ops:Array Oper) (bf:Array Nat) (q:Nat->Bool):Plan->Nat->Array Bool->List Nat->Bool
 | .done,_,listed,ks=>ks.isEmpty&&(Region.ready .any ops listed).isEmpty
 | .no,0,_,_=>false
 | .no,_+1,listed,ks => !ks.isEmpty&&(Region.ready .any ops listed).all fun i=>ks.contains i
 | .first _ _,0,_,_=>false
 | .first i p,fuel+1,listed,ks=>ks.isEmpty&&(Region.ready .any ops listed).contains i &&
   (match ops[i]? with
    | none=>false
    | some oi=>(List.range ops.size).all fun j=>j == i||listed.getD j true||waitsFor bf j i||(uC oi.op&&(match ops[j]? with | some oj=>oi.apart ops oj&&(!zV oi.op||q j) | none=>true))) &&
   Wn ops bf q p fuel (listed.setIfInBounds i true) []
 | .alt _ _ _,0,_,_=>false
 | .alt i p r,fuel+1,listed,ks=>(Region.ready .any ops listed).contains i&&Wn ops bf q p fuel (listed.setIfInBounds i true) []&&Wn ops bf q r (fuel+1) listed (i::ks)

def Yh (ops:Array Oper) (bf:Array Nat) (qs:List Bool) (p:Plan):Bool :=
 Region.noSelect ops&&QK ops bf&&Wn ops bf (fun i=>qs.getD i false) p ops.size (Array.replicate ops.size false) []

section
variable {P:Program} {T:TT}

theorem UN (hT:TOk P T) {all:List Oper} {qs:List Bool} {i:Nat} {o:Oper} (ho:all[i]? = some o) {n n0:Nat} {m0:LM} {H0:List Blk} {w0:World} {C:List (Nat × Value)->List Blk->Prop} {X:Act->World->Prop} {dfs:List Deferred}
 {sl:List (Nat × Value)} {H:List Blk} (h:uB all o.guard sl (fun sl=>WJ P T (bAt qs i) o.op sl H (fun v H' => putK n o.dst v sl (fun sl' => C sl' H'))) (fun sl=>putK n o.dst undef sl (fun sl' => C sl' H)))
 {m:LM} {aR:Act} {w:World} (hs:SRel m { n,sl } H aR w) (hf:Fr n0 m0 H0 w0 m H w) (hn:n0<=H.length) (hdf:aR.defers=dfs)
 (hC : ∀ {sl' : List (Nat × Value)} {H' : List Blk} {m' : LM} {aR' : Act} {w' : World},C sl' H' -> SRel m' { n,sl:=sl' } H' aR' w' -> Fr n0 m0 H0 w0 m' H' w' -> n0<=H'.length->aR'.defers=dfs->X aR' w') :
 sOp P all.toArray (fun i=>qs.getD i false) i X aR w:=by
 obtain ⟨sl',hsl,hg⟩:=yf (aR:=aR) h hs.sl o rfl;have ho' : all.toArray[i]? = some o:=by simpa using ho
 have go : ∀ {v:Value} {H' : List Blk} {m' : LM} {vR:Value} {w' : World},putK n o.dst v sl' (fun sl'' => C sl'' H')->VRel m' v vR->HRel m' H' w' -> Fr H.length m H w m' H' w' -> X (aR.put o.dst vR) w' := by
  intro v H' m' vR w' hk hv hh hf';have hle:m.le m' := hf'.le hs.heap.dom;obtain ⟨sl2,hk2,hs2,hn2,hd2⟩:=xO (aR:=aR) hk (hsl.mono hle) hs.n hv;have hfw:=hf'.weaken hn (Nat.le_refl _);exact hC hk2 ⟨hn2,hs2,by rw[hd2];exact hs.df.keep hf'.keep,hh⟩ (hf.trans hfw) (hfw.len hn) (hd2.trans hdf)
 unfold sOp;simp only[ho'];rcases hg with ⟨hw,hg⟩ | ⟨hw,hg⟩
 ·simp only[hw,if_true]
  unfold WJ at hg;rw[qu0] at hg;split at hg
  ·rename_i hq
   obtain ⟨hX,hd⟩:=WG hT hg;obtain ⟨nx,w1,h1,h2⟩:=hX m aR w hsl hs.heap;exact⟨hd,nx,w1,h1,h2.mono fun vR w' ⟨⟨v,H',m',k1,k2,k3,k4⟩,k5⟩=>⟨fun _=>k5,go k1 k2 k3 k4⟩⟩
  ·rename_i hq
   obtain ⟨hS,hd⟩:=ut hT hg;obtain ⟨nx,w1,h1,h2⟩:=hS m aR w hsl hs.heap;exact⟨hd,nx,w1,h1,h2.mono fun vR w' ⟨v,H',m',k1,k2,k3,k4⟩=>⟨fun hq' => absurd hq' (by rw[hq];simp),go k1 k2 k3 k4⟩⟩
 ·simp only[hw,Bool.false_eq_true,if_false]
  exact go hg (VRel.plain m 6 _ rfl) hs.heap (.refl _ _ _ _)

theorem vq0 (hT:TOk P T) {all:List Oper} {qs:List Bool} {bf:Array Nat} (hc:Closed all.toArray bf) (hsel:Region.noSelect all.toArray=true) {i:Nat} {o:Oper} (ho:all[i]? = some o) (hv:uC o.op=true) {n n0:Nat} {m0:LM} {H0:List Blk} {w0:World} {C:List (Nat × Value)->List Blk->Prop} {dfs:List Deferred}
 {sl:List (Nat × Value)} {H:List Blk} (h:uB all o.guard sl (fun sl=>WJ P T (bAt qs i) o.op sl H (fun v H' => putK n o.dst v sl (fun sl' => C sl' H'))) (fun sl=>putK n o.dst undef sl (fun sl' => C sl' H)))
 {m:LM} {aR:Act} {w:World} (hs:SRel m { n,sl } H aR w) (hf:Fr n0 m0 H0 w0 m H w) (hn:n0<=H.length) (hdf:aR.defers=dfs) {fuel:Nat} {listed:Array Bool} (hdc:DC bf listed) (hr' : i∈Region.ready .any all.toArray listed)
 (hfree : ∀ j oj,all.toArray[j]? = some oj->j≠i->listed.getD j true=false->waitsFor bf j i=false->o.apart all.toArray oj=true/\(zV o.op=true->qs.getD j false=true)) {Q:Act->World->Prop}
 (hC : ∀ {sl' : List (Nat × Value)} {H' : List Blk} {m' : LM} {aR' : Act} {w' : World},C sl' H' -> SRel m' { n,sl:=sl' } H' aR' w' -> Fr n0 m0 H0 w0 m' H' w' -> n0<=H'.length->aR'.defers=dfs->sAny P all.toArray (fun i=>qs.getD i false) Q fuel (listed.setIfInBounds i true) aR' w') :
 sAny P all.toArray (fun i=>qs.getD i false) Q (fuel+1) listed aR w:=by
 obtain ⟨sl',hsl,hg⟩:=yf (aR:=aR) h hs.sl o rfl;have ho' : all.toArray[i]? = some o:=by simpa using ho
 have go : ∀ {v:Value} {H' : List Blk} {m' : LM} {vR:Value} {w' : World},putK n o.dst v sl' (fun sl'' => C sl'' H')->VRel m' v vR->HRel m' H' w' -> Fr H.length m H w m' H' w' -> sAny P all.toArray (fun i=>qs.getD i false) Q fuel (listed.setIfInBounds i true) (aR.put o.dst vR) w' := by
  intro v H' m' vR w' hk hv hh hf';have hle:m.le m' := hf'.le hs.heap.dom;obtain ⟨sl2,hk2,hs2,hn2,hd2⟩:=xO (aR:=aR) hk (hsl.mono hle) hs.n hv;have hfw:=hf'.weaken hn (Nat.le_refl _);exact hC hk2 ⟨hn2,hs2,by rw[hd2];exact hs.df.keep hf'.keep,hh⟩ (hf.trans hfw) (hfw.len hn) (hd2.trans hdf)
 rcases hg with ⟨hw,hg⟩ | ⟨hw,hg⟩
 ·have ha:qC P T o.op sl' H (fun v H' => putK n o.dst v sl' (fun sl' => C sl' H')):=by
   unfold WJ at hg;split at hg
   ·exact WF hv hg
   ·exact Zl hv hg
  obtain ⟨hV,hd⟩:=yL hT hv ha;obtain ⟨v,vR,h1,h2,h3⟩:=hV m aR w hsl hs.heap;exact xJ hc ho' (Region.noSelect_spec hsel) _ _ _ _ hdc hfree hr' (.inl ⟨hw,hd,h2⟩) (go h1 h3 hs.heap (.refl _ _ _ _))
 ·exact xJ hc ho' (Region.noSelect_spec hsel) _ _ _ _ hdc hfree hr' (.inr ⟨hw,rfl⟩) (go hg (VRel.plain m 6 _ rfl) hs.heap (.refl _ _ _ _))

theorem vl0 (hT:TOk P T) {all:List Oper} {bf:Array Nat} {qs:List Bool} (hc:Closed all.toArray bf) (hsel:Region.noSelect all.toArray=true) {n n0:Nat} {m0:LM} {H0:List Blk} {w0:World} {K:List (Nat × Value)->List Blk->Prop} {dfs:List Deferred} :
 ∀ (p:Plan) (fuel:Nat) (listed:Array Bool) (ks:List Nat) (_:Wn all.toArray bf (fun i=>qs.getD i false) p fuel listed ks=true) (_:DC bf listed) {sl:List (Nat × Value)} {H:List Blk} (_:Vx P T n all qs K p sl H) {m:LM} {aR:Act} {w:World}
   (_:SRel m { n,sl } H aR w) (_:Fr n0 m0 H0 w0 m H w) (_:n0<=H.length) (_:aR.defers=dfs),
   (ks = []->sAny P all.toArray (fun i=>qs.getD i false) (fun aR' w' => ∃ sl' H' m',K sl' H' /\ SRel m' { n,sl:=sl' } H' aR' w' /\ Fr n0 m0 H0 w0 m' H' w' /\ aR'.defers=dfs) fuel listed aR w) /\
   (ks≠[]->∃ f,fuel=f+1/\∀ j∈Region.ready .any all.toArray listed,j∈ks\/sOp P all.toArray (fun i=>qs.getD i false) j (sAny P all.toArray (fun i=>qs.getD i false) (fun aR' w' => ∃ sl' H' m',K sl' H' /\ SRel m' { n,sl:=sl' } H' aR' w' /\ Fr n0 m0 H0 w0 m' H' w' /\ aR'.defers=dfs) f (listed.setIfInBounds j true)) aR w):=by
 intro p
 induction p with
 | done =>
   intro fuel listed ks hB hdc sl H h m aR w hs hf hn hdf;simp only[Wn,Bool.and_eq_true] at hB;have hk:ks = []:=by simpa using hB.1
   have hr:Region.ready .any all.toArray listed = []:=by simpa using hB.2
   refine⟨fun _=>?_,fun h=>absurd hk h⟩;have hq : ∃ sl' H' m',K sl' H' /\ SRel m' { n,sl:=sl' } H' aR w/\Fr n0 m0 H0 w0 m' H' w/\aR.defers=dfs:=⟨sl,H,m,h,hs,hf,hdf⟩
   cases fuel with
   | zero=>exact⟨hr,hq⟩
   | succ f=>exact⟨fun _=>hq,fun i hi=>by rw[hr] at hi;cases hi⟩
 | no =>
   intro fuel listed ks hB hdc sl H h m aR w hs hf hn hdf
   cases fuel with
   | zero=>simp[Wn] at hB
   | succ fuel =>
   simp only[Wn,Bool.and_eq_true,List.all_eq_true] at hB;refine⟨fun hk=>?_,fun _=>⟨fuel,rfl,fun j hj=>.inl (by simpa using hB.2 j hj)⟩⟩;rw[hk] at hB;simp at hB
 | first i p ih =>
   intro fuel listed ks hB hdc sl H h m aR w hs hf hn hdf
   cases fuel with
   | zero=>simp[Wn] at hB
   | succ fuel =>
   simp only[Wn,Bool.and_eq_true] at hB;obtain ⟨⟨⟨hk,hr⟩,hall⟩,hB'⟩:=hB;have hk:ks = []:=by simpa using hk
   have hr' : i∈Region.ready .any all.toArray listed:=by simpa using hr
   refine⟨fun _=>?_,fun h=>absurd hk h⟩;simp only[Vx,yZ] at h
   cases ho:all[i]? with
   | none=>rw[ho] at h;exact h.elim
   | some o =>
     rw[ho] at h;have ho' : all.toArray[i]? = some o:=by simpa using ho
     simp only[ho',List.all_eq_true,List.mem_range,Bool.or_eq_true,beq_iff_eq,Bool.and_eq_true] at hall;have hdc' := Wh hc hdc hr';by_cases hv:uC o.op=true
     ·refine vq0 hT hc hsel ho hv h hs hf hn hdf hdc hr' (fun j oj hj hne hun hno=>?_) (fun hk hs hf hn hdf=>(ih _ _ _ hB' hdc' hk hs hf hn hdf).1 rfl)
      have h1:=hall j (Array.getElem?_eq_some_iff.1 hj).1;simp only[hne,false_or,hun,hno,hj,Bool.false_eq_true] at h1;have h2:=h1.2;rw[Bool.and_eq_true] at h2;refine⟨h2.1,fun hr=>?_⟩;have h3:=h2.2;rw[hr] at h3;simpa using h3
     ·have hforce : ∀ j oj,all.toArray[j]? = some oj->j≠i->listed.getD j true=false->waitsFor bf j i=true:=fun j oj hj hne hun=>by
       have h1:=hall j (Array.getElem?_eq_some_iff.1 hj).1;simp only[hne,false_or,hun,Bool.false_eq_true] at h1;rcases h1 with h1 | h1
       ·exact h1
       ·exact absurd h1.1 hv
      refine WR hc hdc hr' hforce ?_;exact UN hT ho h hs hf hn hdf (fun hk hs hf hn hdf=>(ih _ _ _ hB' hdc' hk hs hf hn hdf).1 rfl)
 | alt i p r ihp ihr =>
   intro fuel listed ks hB hdc sl H h m aR w hs hf hn hdf
   cases fuel with
   | zero=>simp[Wn] at hB
   | succ fuel =>
   simp only[Wn,Bool.and_eq_true] at hB;obtain ⟨⟨hr,hBp⟩,hBr⟩:=hB;have hr' : i∈Region.ready .any all.toArray listed:=by simpa using hr
   simp only[Vx,yZ] at h;obtain ⟨h,hrest⟩:=h;have hdc' := Wh hc hdc hr';obtain ⟨f,hfu,hres⟩:=(ihr _ _ _ hBr hdc hrest hs hf hn hdf).2 (by simp);cases hfu
   have hi:sOp P all.toArray (fun i=>qs.getD i false) i (sAny P all.toArray (fun i=>qs.getD i false) (fun aR' w' => ∃ sl' H' m',K sl' H' /\ SRel m' { n,sl:=sl' } H' aR' w' /\ Fr n0 m0 H0 w0 m' H' w' /\ aR'.defers=dfs) fuel (listed.setIfInBounds i true)) aR w:=by
    cases ho:all[i]? with
    | none=>rw[ho] at h;exact h.elim
    | some o =>
      rw[ho] at h;exact UN hT ho h hs hf hn hdf (fun hk hs hf hn hdf=>(ihp _ _ _ hBp hdc' hk hs hf hn hdf).1 rfl)
   have all' : ∀ j∈Region.ready .any all.toArray listed,j∈ks\/sOp P all.toArray (fun i=>qs.getD i false) j (sAny P all.toArray (fun i=>qs.getD i false) (fun aR' w' => ∃ sl' H' m',K sl' H' /\ SRel m' { n,sl:=sl' } H' aR' w' /\ Fr n0 m0 H0 w0 m' H' w' /\ aR'.defers=dfs) fuel (listed.setIfInBounds j true)) aR w:=by
    intro j hj;rcases hres j hj with h1 | h1
    ·rcases List.mem_cons.1 h1 with rfl | h1
     ·exact .inr hi
     ·exact .inl h1
    ·exact .inr h1
   refine⟨fun hk=>⟨fun h0=>(by rw[h0] at hr'; cases hr'),fun j hj=>?_⟩,fun _=>⟨fuel,rfl,all'⟩⟩;rcases all' j hj with h1 | h1
   ·rw[hk] at h1;cases h1
   ·exact h1

theorem zi0 (hT:TOk P T) (hm:P.follows .mixedOrders=true) {rd:Bool} {n0:Nat} {Q:Ex->AF->List Blk->Prop} {a:AF} {H:List Blk} {id:Nat} {ops:List Oper} (bf:List Nat) (qs:List Bool) (p:Plan) (hB:Yh ops.toArray bf.toArray qs p=true)
 (h:Vx P T a.n ops qs (fun sl H=>Q .normal { n:=a.n,sl:=sl } H) p a.sl H):awp P rd n0 (.region id ops.toArray true) Q a H:=by
 intro hn m aR w hs b k cs hb;simp only[Yh,Bool.and_eq_true] at hB;obtain ⟨⟨h1,h2⟩,h4⟩:=hB
 have hdc:DC bf.toArray (Array.replicate ops.toArray.size false):=fun j hj=>by
  rcases Nat.lt_or_ge j ops.toArray.size with h | h
  ·simp at h;simp[h] at hj
  ·simp at h;simp[h] at hj
 have hs' : SRel m { n:=a.n,sl:=a.sl } H aR { w with drawn:=w.drawn+1 }:=⟨hs.n,hs.sl,DfOk.keep (w:=w) (w' := { w with drawn:=w.drawn+1 }) (m:=m) (m' := m) (H:=H) (H' := H) (fun _ _ h=>⟨rfl,h⟩) hs.df,hs.heap.drawn _⟩;have hany:=(vl0 hT (uV h2) h1 (n:=a.n) (n0:=n0) (m0:=m) (H0:=H) (w0:=w) (dfs:=aR.defers) p _ _ _ h4 hdc h (w := { w with drawn:=w.drawn+1 }) hs' (Fr.drawn _) hn rfl).1 rfl;obtain ⟨aR',w',⟨sl',H',m',k1,k2,k3,k4⟩,hst⟩:=VA b k cs ops.toArray.size (w.tape w.drawn (.order b.fn id)) _ _ _ hany;refine⟨.normal,_,H',m',aR',w',k1,k2,⟨k3, .of_eq k4⟩, .head yA ?_⟩
 simpa [Region.schedule,hm,Region.linearise] using hst

theorem qp (hT:TOk P T) (hm:P.follows .mixedOrders=true) {rd:Bool} {n0 n:Nat} {Q:Ex->List (Nat × Value)->List Blk->Prop} {sl:List (Nat × Value)} {H:List Blk} {id:Nat} {ops:List Oper} (bf:List Nat) (qs:List Bool) (p:Plan) (hB:Yh ops.toArray bf.toArray qs p=true)
 (h:Vx P T n ops qs (fun sl H=>Q .normal sl H) p sl H):awp P rd n0 (.region id ops.toArray true) (aft n Q) ⟨n,sl⟩ H:=by
 refine wu (zi0 hT hm (Q:=fun e a H=>e = .normal/\a.n=n/\Q .normal a.sl H) (a:=⟨n,sl⟩) bf qs p hB ?_) ?_
 ·simpa using h
 intro e a H ⟨h1,h2,h4⟩;subst h1;exact⟨h2,h4⟩
end
end Go.Af
namespace Go.Af
open Go

theorem qg {P:Program} {T:TT} {n:Nat} {all l:List Oper} {K:List (Nat × Value)->List Blk->Prop} {sl:List (Nat × Value)} {H:List Blk} (h : ∀ K0:List (Nat × Value)->List Blk->Prop,(∀ sl H,K sl H->K0 sl H)->vops P T n all l K0 sl H):vops P T n all l K sl H:=h K (fun _ _ h=>h)
theorem vT {P:Program} {T:TT} {n:Nat} {all:List Oper} {qs:List Bool} {σ : List Nat} {K:List (Nat × Value)->List Blk->Prop} {sl:List (Nat × Value)} {H:List Blk} (h : ∀ K0:List (Nat × Value)->List Blk->Prop,(∀ sl H,K sl H->K0 sl H)->Qx P T n all qs σ K0 sl H):Qx P T n all qs σ K sl H:=h K (fun _ _ h=>h)

section
variable {P:Program} {f:FuncId} {args2 args:List Value} {H2 H:List Blk} {R:Value->List Blk->Prop}
end

end Go.Af
namespace Go.Af
open Go
variable {rd:Bool}
section
variable {P:Program} {T:TT}

theorem vcg_seqL {n0 n:Nat} {Q:Ex->List (Nat × Value)->List Blk->Prop} {sl:List (Nat × Value)} {H:List Blk} {x y:Code}
 (h:awp P rd n0 x (aft n (fun e sl' H' => match e with
   | .normal=>awp P rd n0 y (aft n Q) ⟨n,sl'⟩ H'
   | .exit i=>Q (.exit i) sl' H'
   | .ret=>Q .ret sl' H')) ⟨n,sl⟩ H):awp P rd n0 (.seq x y) (aft n Q) ⟨n,sl⟩ H:=by
 refine VL (wu h ?_);rintro e ⟨n2,sl2⟩ H2 ⟨rfl,hq⟩
 cases e with
 | normal=>exact hq
 | exit i=>exact⟨rfl,hq⟩
 | ret=>exact⟨rfl,hq⟩
theorem QP {n0 n:Nat} {Q:Ex->List (Nat × Value)->List Blk->Prop} {sl:List (Nat × Value)} {H:List Blk} {x y:Code} {α : Type} (I : α->Prop) (S : α->List (Nat × Value)) (Hf : α->List Blk)
 (hx:awp P rd n0 x (aft n (fun e sl' H' => match e with
   | .normal => ∃ z,I z/\Rn n0 sl' H' (S z) (Hf z)
   | .exit i=>Q (.exit i) sl' H'
   | .ret=>Q .ret sl' H')) ⟨n,sl⟩ H)
 (hy : ∀ z,I z->awp P rd n0 y (aft n Q) ⟨n,S z⟩ (Hf z)):awp P rd n0 (.seq x y) (aft n Q) ⟨n,sl⟩ H:=by
 refine VL (wu hx ?_);rintro e ⟨n2,sl2⟩ H2 ⟨rfl,hq⟩
 cases e with
 | normal=>obtain ⟨z,h1,h2⟩:=hq;exact zg0 h2 (hy z h1)
 | exit i=>exact⟨rfl,hq⟩
 | ret=>exact⟨rfl,hq⟩
end

end Go.Af
namespace Go.Af
open Go
variable {H:List Blk}

theorem qw {P:Program} {T:TT} {n:Nat} {all:List Oper} {qs:List Bool} {K:List (Nat × Value)->List Blk->Prop} {p:Plan} {sl:List (Nat × Value)} {H:List Blk} (h : ∀ K0:List (Nat × Value)->List Blk->Prop,(∀ sl H,K sl H->K0 sl H)->Vx P T n all qs K0 p sl H):Vx P T n all qs K p sl H:=h K (fun _ _ h=>h)
theorem qJ {i:Nat} {B:Blk} (h:bget H i=some B):i<H.length:=by
 rw[qV] at h;exact (List.getElem?_eq_some_iff.1 h).1
theorem Zp {H N:List Blk} {i:Nat} (h:i<H.length):bget (H++N) i=bget H i:=by
 rw[qV,qV,List.getElem?_append_left h]
theorem Zq {B:Blk}:bget (H ++ [B]) H.length=some B:=by rw[qV];simp
theorem uu {B:Blk} {i j:Nat} (h:i≠j):bget (H.set j B) i=bget H i:=by
 rw[qV,qV,List.getElem?_set_ne (Ne.symm h)]
theorem uw {B:Blk} {j:Nat} (h:j<H.length):bget (H.set j B) j=some B:=by
 rw[qV];simp[h]

theorem yx0 {B:Blk} {K:Nat->List Blk->Prop} (h : ∀ H' : List Blk,H'.length=H.length+1->bget H' H.length=some B->(∀ i,i<H.length->bget H' i=bget H i)->K H.length H'):xB H 0 B K:=by
 rw[vH,Nat.zero_add];exact h _ (by simp) Zq (fun i hi=>Zp hi)
theorem Um {size n:Nat} {cells:List Value} {K:Value->List Blk->Prop} (h : ∀ H' : List Blk,H'.length=H.length+1->bget H' H.length=some (.cells true size cells)->(∀ i,i<H.length->bget H' i=bget H i)->K (.slice (some ⟨H.length,0,none⟩) n n) H'):qm H size cells n K:=yx0 h
theorem VO {b:Nat} {B:Blk} {K:List Blk->Prop} (hb:b<H.length) (h : ∀ H' : List Blk,H'.length=H.length->bget H' b=some B->(∀ i,i≠b->bget H' i=bget H i)->K H'):zt H b B K:=by
 rw[qP];exact h _ (by simp) (uw hb) (fun i hi=>uu hi)
theorem zP0 {b z o n:Nat} {vs:List Value} {v:Value} {K:List Blk->Prop} (hb:bget H b=some (.cells true z vs)) (vs' : List Value) (h1:(qG v).length=n) (h2:(qG v).all vK=true) (h3:o+n<=vs.length) (h4:setSeg vs o (qG v)=vs')
 (h : ∀ H' : List Blk,H'.length=H.length->bget H' b=some (.cells true z vs')->(∀ i,i≠b->bget H' i=bget H i)->K H') :
 qi H b (fun z vs=>((qG v).length=n/\(qG v).all vK=true/\o+n<=vs.length)/\∃ vs',setSeg vs o (qG v)=vs' /\ zt H b (.cells true z vs') K) :=
 qB0 hb ⟨⟨h1,h2,h3⟩,vs',h4,VO (qJ hb) h⟩

end Go.Af
namespace Go.Af
open Go
variable {H:List Blk}

theorem qK.mono {P:Program} {l:Nat} {args:List Value} {R R' : Value->List Blk->Prop} (h:qK P l args H R) (hr : ∀ v H,R v H->R' v H):qK P l args H R' := fun m a w r h1 h2 h3 =>
 let ⟨nx,w1,e,hn⟩:=h m a w r h1 h2 h3
 ⟨nx,w1,e,hn.mono fun _ _ h=>h.mono hr⟩

def Upd (o:Nat->Prop) (H H' : List Blk):Prop:=H.length<=H'.length/\∀ b,b<H.length->¬ o b->bget H' b=bget H b

theorem Upd.rfl {o:Nat->Prop} {H:List Blk}:Upd o H H:=⟨Nat.le_refl _,fun _ _ _=>Eq.refl _⟩
theorem Upd.trans {o o' : Nat->Prop} {H H' H2:List Blk} (h:Upd o H H') (h2:Upd o' H' H2) (ho : ∀ b,o' b->o b\/H.length<=b):Upd o H H2 :=
 ⟨Nat.le_trans h.1 h2.1,fun b hb hn=>by
   rw[h2.2 b (Nat.lt_of_lt_of_le hb h.1) (fun hx=>(ho b hx).elim hn (fun h=>absurd hb (by omega))),h.2 b hb hn]⟩

def Own (o:Nat->Prop) (H:List Blk) (j:Nat) (B:Blk):Prop:=bget H j=some B/\¬ o j

theorem Own.upd {o o' : Nat->Prop} {H H' : List Blk} {j:Nat} {B:Blk} (h:Own o H j B) (u:Upd o H H') (ho : ∀ b,o' b->o b\/H.length<=b):Own o' H' j B:=by
 have hl:=qJ h.1;refine⟨by rw[u.2 j hl h.2];exact h.1,fun hx=>(ho j hx).elim h.2 (fun h=>absurd hl (by omega))⟩
theorem Own.ext {o:Nat->Prop} {H H' : List Blk} {j:Nat} {B:Blk} (h:Own o H j B) (he : ∀ i,i<H.length->bget H' i=bget H i):Own o H' j B:=⟨by rw[he j (qJ h.1)];exact h.1,h.2⟩
section
variable {P:Program} {l N:Nat} {xs:List Value} {I:List Value->(Nat->Prop)->List Blk->Prop} {Z:List Blk->Prop}
end

/-! The record of a range over a function,at a place that is a letter. -/
theorem QB {l n:Nat} {K:Ex->List Blk->Prop} {st:LoopState} {pend:Option Code} {sl:List (Nat × Value)} {ps:Array Tmp} {as body:Code} (hb:bget H l=some (.loop st pend n sl ps as body)) (hs:st ≠ .busy)
 (h : ∀ H' : List Blk,H'.length=H.length->(∀ i,i≠l->bget H' i=bget H i)->Zz pend (fun e=>K e H')):qx l H K:=by
 unfold qx;rw[hb];have:=VO (B := .loop .exhausted pend n sl ps as body) (qJ hb) (K:=fun H' => Zz pend (fun e=>K e H')) (fun H' h1 _ h3=>h H' h1 h3)
 cases st with
 | busy=>exact absurd rfl hs
 | ready=>exact this
 | done=>exact this
 | exhausted=>exact this
theorem yV {l n:Nat} {K:List Blk->Prop} {pend:Option Code} {sl:List (Nat × Value)} {ps:Array Tmp} {as body:Code} (hb:bget H l=some (.loop .ready pend n sl ps as body))
 (h : ∀ H' : List Blk,H'.length=H.length->bget H' l=some (.loop .busy pend n sl ps as body)->(∀ i,i≠l->bget H' i=bget H i)->K H'):qh l H K:=by
 unfold qh;rw[hb];exact VO (qJ hb) h
theorem Qz {l n:Nat} {R:Value->List Blk->Prop} {st:LoopState} {pend:Option Code} {sl:List (Nat × Value)} {ps:Array Tmp} {as body:Code} (hb:bget H l=some (.loop st pend n sl ps as body))
 (h : ∀ H' : List Blk,H'.length=H.length->bget H' l=some (.loop .ready none n sl ps as body)->(∀ i,i≠l->bget H' i=bget H i)->R (.bool true) H'):roundEnd l .normal H R:=by
 unfold roundEnd;rw[hb];exact VO (qJ hb) h
theorem xE {P:Program} {T:TT} (hT:TOk P T) {l n:Nat} {args:List Value} {R:Value->List Blk->Prop} {st:LoopState} {pend:Option Code} {sl:List (Nat × Value)} {ps:Array Tmp} {as body:Code} (hb:bget H l=some (.loop st pend n sl ps as body))
 (h:Ws n ps.toList args sl (fun sl' => vcg P T true H.length n as (fun e sl1 H1=>match e with
   | .normal=>qh l H1 (fun H2=>vcg P T true H.length n body (fun e _ H3=>roundEnd l e H3 R) sl1 H2)
   | .exit _=>False
   | .ret=>False) sl' H)):qK P l args H R:=Xf hT (by unfold VN;rw[hb];exact h)

end Go.Af
namespace Go.Af
open Go

structure HS (H0:List Blk) (o:Nat->Prop) (L:List (Bool × Nat × Blk)) (H:List Blk):Prop where
 g : ∀ {i:Nat} {c:Bool} {b:Nat} {B:Blk},L[i]? = some (c,b,B)->bget H b=some B/\(c=true->o b\/H0.length<=b)
 nd : ∀ {i j:Nat} {p q:Bool × Nat × Blk},L[i]? = some p->L[j]? = some q->p.2.1=q.2.1->i=j
 u:Upd o H0 H
section
variable {H0 H H' : List Blk} {o:Nat->Prop} {L:List (Bool × Nat × Blk)}
theorem HS.start (H:List Blk) (o:Nat->Prop):HS H o [] H:=⟨fun h=>by simp at h,fun h=>by simp at h,Upd.rfl⟩
theorem HS.get (h:HS H0 o L H) (i:Nat) {c:Bool} {b:Nat} {B:Blk} (hi:L[i]? = some (c,b,B)):bget H b=some B:=(h.g hi).1
theorem HS.lt (h:HS H0 o L H) (i:Nat) {c:Bool} {b:Nat} {B:Blk} (hi:L[i]? = some (c,b,B)):b<H.length:=qJ (h.g hi).1
theorem HS.ne (h:HS H0 o L H) (i j:Nat) {c d:Bool} {b e:Nat} {B E:Blk} (hi:L[i]? = some (c,b,B)) (hj:L[j]? = some (d,e,E)) (hij:i≠j):b≠e:=fun hbe=>hij (h.nd hi hj hbe)
theorem HS.le (h:HS H0 o L H):H0.length<=H.length:=h.u.1
theorem HS.add (h:HS H0 o L H) {c:Bool} {b:Nat} {B:Blk} (hb:bget H b=some B) (hne : ∀ (i:Nat) (p:Bool × Nat × Blk),L[i]? = some p->p.2.1≠b) (hc:c=true->o b\/H0.length<=b):HS H0 o ((c,b,B)::L) H:=by
 refine⟨fun {i _ _ _} hi=>?_,fun {i j _ _} hi hj he=>?_,h.u⟩
 ·cases i with
  | zero=>simp at hi;obtain ⟨rfl,rfl,rfl⟩:=hi;exact⟨hb,hc⟩
  | succ i=>exact h.g (by simpa using hi)
 ·cases i with
  | zero =>
    cases j with
    | zero=>rfl
    | succ j =>
      simp at hi hj;subst hi;exact absurd he.symm (hne j _ hj)
  | succ i =>
    cases j with
    | zero =>
      simp at hi hj;subst hj;exact absurd he (hne i _ hi)
    | succ j =>
      have:=h.nd (i:=i) (j:=j) (by simpa using hi) (by simpa using hj) he;omega
theorem HS.ext (h:HS H0 o L H) (hl:H.length<=H'.length) (he : ∀ i,i<H.length->bget H' i=bget H i):HS H0 o L H' :=
 ⟨fun hi=>⟨(he _ (qJ (h.g hi).1)).trans (h.g hi).1,(h.g hi).2⟩,fun hi hj=>h.nd hi hj,h.u.trans (o' := fun _=>False) ⟨hl,fun b hb _=>he b hb⟩ (fun b hb=>hb.elim)⟩
theorem HS.new (h:HS H0 o L H) {B:Blk} (hl:H'.length=H.length+1) (a2:bget H' H.length=some B) (a3 : ∀ i,i<H.length->bget H' i=bget H i):HS H0 o ((true,H.length,B)::L) H' :=
 (h.ext (by omega) a3).add a2 (fun i p hi he=>by obtain ⟨c,b,B'⟩:=p;have:=qJ (h.g hi).1;simp only at he;omega) (fun _=>.inr h.le)
theorem HS.set (h:HS H0 o L H) (i:Nat) {b:Nat} {B B' : Blk} (hi:L[i]? = some (true,b,B)) (hl:H'.length=H.length) (c2:bget H' b=some B') (c3 : ∀ j,j≠b->bget H' j=bget H j):HS H0 o (L.set i (true,b,B')) H' := by
 have hlt:i<L.length:=(List.getElem?_eq_some_iff.1 hi).1;refine⟨fun {j c d B2} hj=>?_,fun {j k p q} hj hk he=>?_,h.u.trans (o' := fun x=>x=b) ⟨by omega,fun x _ hx=>c3 x hx⟩ (fun x hx=>by subst hx;exact (h.g hi).2 rfl)⟩
 ·by_cases hij:i=j
  ·subst hij
   rw[List.getElem?_set_self hlt] at hj;simp at hj;obtain ⟨rfl,rfl,rfl⟩:=hj;exact⟨c2,(h.g hi).2⟩
  ·rw[List.getElem?_set_ne hij] at hj
   exact⟨(c3 _ (h.ne j i hj hi (fun e=>hij e.symm))).trans (h.g hj).1,(h.g hj).2⟩
 ·have key : ∀ {j:Nat} {p:Bool × Nat × Blk},(L.set i (true,b,B'))[j]? = some p->∃ p',L[j]? = some p' /\ p'.2.1=p.2.1:=fun {j p} hj=>by
   by_cases hij:i=j
   ·subst hij
    rw[List.getElem?_set_self hlt] at hj;simp at hj;subst hj;exact⟨_,hi,rfl⟩
   ·rw[List.getElem?_set_ne hij] at hj
    exact⟨_,hj,rfl⟩
  obtain ⟨p',hp,ep⟩:=key hj;obtain ⟨q',hq,eq⟩:=key hk;exact h.nd hp hq (by rw[ep,eq,he])
theorem HS.upd (h:HS H0 o L H) {o' : Nat->Prop} (u:Upd o' H H') (hk : ∀ (i:Nat) (p:Bool × Nat × Blk),L[i]? = some p->¬ o' p.2.1) (ho : ∀ b,o' b->o b\/H0.length<=b):HS H0 o L H' :=
 ⟨fun hi=>⟨(u.2 _ (qJ (h.g hi).1) (hk _ _ hi)).trans (h.g hi).1,(h.g hi).2⟩,fun hi hj=>h.nd hi hj,h.u.trans u ho⟩
theorem HS.pick (h:HS H0 o L H) (is:List Nat) (hn:is.Nodup) {L' : List (Bool × Nat × Blk)} (hL:is.map (fun i=>L[i]?)=L'.map some):HS H0 o L' H:=by
 have key : ∀ {j:Nat} {p:Bool × Nat × Blk},L'[j]? = some p->∃ i,is[j]? = some i/\L[i]? = some p:=fun {j p} hj=>by
  have e:=congrArg (fun l=>l[j]?) hL;simp only[List.getElem?_map,hj] at e
  cases hij:is[j]? with
  | none=>rw[hij] at e;simp at e
  | some i=>rw[hij] at e;exact⟨i,rfl,by simpa using e⟩
 refine⟨fun hi=>?_,fun {i j p q} hi hj he=>?_,h.u⟩
 ·obtain ⟨k,_,hk⟩:=key hi
  exact h.g hk
 ·obtain ⟨k,k1,k2⟩:=key hi
  obtain ⟨l,l1,l2⟩:=key hj;have:=h.nd k2 l2 he;subst this;have hil:i<is.length:=(List.getElem?_eq_some_iff.1 k1).1;have hjl:j<is.length:=(List.getElem?_eq_some_iff.1 l1).1;have e1:=(List.getElem?_eq_some_iff.1 k1).2;have e2:=(List.getElem?_eq_some_iff.1 l1).2;have hp:=List.pairwise_iff_getElem.1 hn;rcases Nat.lt_trichotomy i j with hlt | heq | hlt
  ·exact absurd (e1.trans e2.symm) (hp i j hil hjl hlt)
  ·exact heq
  ·exact absurd (e2.trans e1.symm) (hp j i hjl hil hlt)
theorem HS.tail {p:Bool × Nat × Blk} (h:HS H0 o (p::L) H):HS H0 o L H :=
 ⟨fun {i _ _ _} hi=>h.g (i:=i+1) (by simpa using hi),fun {i j _ _} hi hj he=>by have:=h.nd (i:=i+1) (j:=j+1) (by simpa using hi) (by simpa using hj) he;omega,h.u⟩
theorem HS.re (h:HS H0 o L H) (o' : Nat->Prop):HS H o' (L.map fun p=>(false,p.2)) H:=by
 refine⟨fun {i c b B} hi=>?_,fun {i j p q} hi hj he=>?_,Upd.rfl⟩
 ·rw[List.getElem?_map] at hi
  cases hx:L[i]? with
  | none=>rw[hx] at hi;cases hi
  | some x =>
    rw[hx] at hi;obtain ⟨c',b',B'⟩:=x;simp at hi;obtain ⟨rfl,rfl,rfl⟩:=hi;exact⟨(h.g hx).1,fun h=>by cases h⟩
 ·rw[List.getElem?_map] at hi hj
  cases hx:L[i]? with
  | none=>rw[hx] at hi;cases hi
  | some x =>
    cases hy:L[j]? with
    | none=>rw[hy] at hj;cases hj
    | some y =>
      rw[hx] at hi;rw[hy] at hj;cases hi;cases hj;exact h.nd hx hy he
/-! ### Steps -/
theorem qo (h:HS H0 o L H) {B:Blk} {K:Nat->List Blk->Prop} (k : ∀ (H' : List Blk) (b:Nat),b=H.length->H'.length=b+1->HS H0 o ((true,b,B)::L) H' -> K b H'):xB H 0 B K :=
 yx0 fun H' a1 a2 a3=>k H' _ rfl a1 (h.new a1 a2 a3)
theorem QD (h:HS H0 o L H) {size n:Nat} {cells:List Value} {K:Value->List Blk->Prop} (k : ∀ (H' : List Blk) (b:Nat),b=H.length->H'.length=b+1->HS H0 o ((true,b, .cells true size cells)::L) H' -> K (.slice (some ⟨b,0,none⟩) n n) H'):qm H size cells n K :=
 Um fun H' a1 a2 a3=>k H' _ rfl a1 (h.new a1 a2 a3)
theorem vN (h:HS H0 o L H) (i:Nat) {b z p n:Nat} {vs:List Value} {v:Value} {K:List Blk->Prop} (hi:L[i]? = some (true,b, .cells true z vs)) (vs' : List Value) (h1:(qG v).length=n) (h2:(qG v).all vK=true) (h3:p+n<=vs.length) (h4:setSeg vs p (qG v)=vs')
 (k : ∀ H' : List Blk,H'.length=H.length->HS H0 o (L.set i (true,b, .cells true z vs')) H' -> K H') :
 qi H b (fun z vs=>((qG v).length=n/\(qG v).all vK=true/\p+n<=vs.length)/\∃ vs',setSeg vs p (qG v)=vs' /\ zt H b (.cells true z vs') K) :=
 zP0 (h.get i hi) vs' h1 h2 h3 h4 fun H' a1 a2 a3=>k H' a1 (h.set i hi a1 a2 a3)
end
/-! ### Rounds -/
theorem HS.comp {Hs H H' : List Blk} {o0 o:Nat->Prop} {L L' : List (Bool × Nat × Blk)} (h:HS Hs o0 L H) (h' : HS H o L' H') (ho : ∀ b,o b->o0 b\/Hs.length<=b):HS Hs o0 L' H' :=
 ⟨fun hi=>⟨(h'.g hi).1,fun hc=>((h'.g hi).2 hc).elim (ho _) (fun hb=>.inr (by have:=h.le;omega))⟩,fun hi hj=>h'.nd hi hj,h.u.trans h'.u ho⟩
end Go.Af
namespace Go.Af
open Go
variable {rd:Bool}

def WkV (v v' : Value):Prop:=v' = v\/(v = .slice none 0 0/\∃ b,v' = .slice (some ⟨b,0,none⟩) 0 0)
theorem WkV.rfl {v:Value}:WkV v v := .inl (Eq.refl _)
theorem WkV.nil (b:Nat):WkV (.slice none 0 0) (.slice (some ⟨b,0,none⟩) 0 0) := .inr ⟨Eq.refl _,b,Eq.refl _⟩
theorem WkV.rel {m:LM} {v v' u:Value} (h:WkV v v') (hv:VRel m v u):VRel m v' u:=by
 rcases h with rfl | ⟨rfl,b,rfl⟩
 ·exact hv
 ·cases hv;exact .sliceZero b 0 none
def WkSl:List (Nat × Value)->List (Nat × Value)->Prop
 | [],_=>True
 | (i,v)::r,sl=>(∃ u,look sl i=some u/\WkV u v)/\WkSl r sl
theorem WkSl.get {sl:List (Nat × Value)} : ∀ {r:List (Nat × Value)} (_:WkSl r sl) (s:Nat) (v:Value) (_:look r s=some v), ∃ u,look sl s=some u/\WkV u v
 | [],_,_,_,h=>by cases h
 | (k,v)::r,h,s,u,hl=>by
   simp only[look] at hl;split at hl
   ·rename_i hk;cases hl;have:=Nat.eq_of_beq_eq_true hk;subst this;exact h.1
   ·exact h.2.get s u hl
def WkB (b b' : Blk):Prop:=b' = b\/∃ wr z vs vs',b = .cells wr z vs/\b' = .cells wr z vs' /\ vs'.length=vs.length/\∀ (i:Nat) (v v' : Value),vs[i]? = some v->vs'[i]? = some v' -> WkV v v'
theorem WkB.rel {m:LM} {b b' : Blk} {l:Loc} {w:World} (h:WkB b b') (hb:BRel m b l w):BRel m b' l w:=by
 rcases h with rfl | ⟨wr,z,vs,vs',rfl,rfl,hl,hv⟩
 ·exact hb
 ·cases l with
  | cel r sh tot esz =>
    obtain ⟨c,e,f,h1,h2,h3,h4⟩:=hb;refine⟨c,e,f,h1,fun i v' hi=>?_,h3,h4⟩;have hil:=(List.getElem?_eq_some_iff.1 hi).1;have hv1:vs[i]? = some (vs[i]'(by omega)):=List.getElem?_eq_getElem _;obtain ⟨u,h5,h6⟩:=h2 i _ hv1;exact⟨u,h5,(hv i _ _ hv1 hi).rel h6⟩
  | obj r=>exact hb
  | dead=>exact hb
theorem WkB.rw {b b' : Blk} (h:WkB b b'):b'.isRw=b.isRw:=by
 rcases h with rfl | ⟨wr,z,vs,vs',rfl,rfl,_,_⟩ <;> rfl
theorem WkB.dead {b' : Blk} (h:WkB .dead b'):b' = .dead:=by
 rcases h with rfl | ⟨wr,z,vs,vs',h,_⟩
 ·rfl
 ·cases h
def WkH (H H' : List Blk):Prop:=H.length<=H'.length/\∀ (i:Nat) (b b' : Blk),H[i]? = some b->H'[i]? = some b' -> WkB b b'
theorem WkH.rfl {H:List Blk}:WkH H H:=⟨Nat.le_refl _,fun i b b' h h' => by rw[h] at h'; cases h'; exact .inl (Eq.refl _)⟩
theorem WkH.app {H H' : List Blk} (h:WkH H H') (V:List Blk):WkH H (H' ++ V):=⟨by simp;have:=h.1;omega,fun i b b' h1 h2=>by
 have hi:=(List.getElem?_eq_some_iff.1 h1).1;rw[List.getElem?_append_left (by have:=h.1;omega)] at h2
 exact h.2 i b b' h1 h2⟩
theorem WkH.set {H H' : List Blk} (h:WkH H H') {i:Nat} {wr:Bool} {z:Nat} {vs vs' : List Value} (hi:bget H i=some (.cells wr z vs)) (hl:vs'.length=vs.length) (hv : ∀ (i:Nat) (v v' : Value),vs[i]? = some v->vs'[i]? = some v' -> WkV v v'):WkH H (H'.set i (.cells wr z vs')):=by
 refine⟨by simpa using h.1,fun j b b' h1 h2=>?_⟩;by_cases hij:i=j
 ·subst hij
  rw[qV] at hi;rw[hi] at h1;cases h1;have hil:=(List.getElem?_eq_some_iff.1 hi).1;rw[List.getElem?_set_self (by have:=h.1;omega)] at h2;cases h2;exact .inr ⟨wr,z,vs,vs',Eq.refl _,Eq.refl _,hl,hv⟩
 ·rw[List.getElem?_set_ne hij] at h2
  exact h.2 j b b' h1 h2
theorem WkH.get {H H' : List Blk} (h:WkH H H') {i:Nat} {b:Blk} (hb:H[i]? = some b) : ∃ b',H'[i]? = some b' /\ WkB b b' := by
 have hi:=(List.getElem?_eq_some_iff.1 hb).1;have h1:=h.1;exact⟨H'[i]'(by omega),List.getElem?_eq_getElem _,h.2 i _ _ hb (List.getElem?_eq_getElem _)⟩
theorem WkH.back {H H' : List Blk} (h:WkH H H') {i:Nat} {b' : Blk} (hi:i<H.length) (hb:H'[i]? = some b') : ∃ b,H[i]? = some b/\WkB b b' :=
 ⟨H[i]'hi,List.getElem?_eq_getElem _,h.2 i _ _ (List.getElem?_eq_getElem _) hb⟩
theorem HRel.weak {m:LM} {H H' : List Blk} {w:World} (hw:WkH H H') (h:HRel m H w):HRel m H' w:=by
 refine⟨fun i l hl=>?_,fun i l b hl hd hb=>?_,fun i hi=>?_,fun i j r b hl hb hr hj=>?_⟩
 ·have:=h.dom i l hl;have:=hw.1;omega
 ·obtain ⟨b0,h1,h2⟩:=hw.back (h.dom i l hl) hb
  exact h2.rel (h.blk i l b0 hl hd h1)
 ·obtain ⟨b',h1,h2⟩:=hw.get (h.dd i hi)
  rw[h1,h2.dead]
 ·obtain ⟨l,hm,_,_⟩:=vF hl
  obtain ⟨b0,h1,h2⟩:=hw.back (h.dom i l hm) hb;exact h.own i j r b0 hl h1 (by rw[<- h2.rw];exact hr) hj
theorem Wr.weak {m:LM} {H H' : List Blk} {w:World} (hw:WkH H H') (h:HRel m H w) {r:Nat} (hr:Wr m H' r):Wr m H r:=by
 obtain ⟨i,b,h1,h2,h3⟩:=hr;obtain ⟨l,hm,_,_⟩:=vF h1;obtain ⟨b0,k1,k2⟩:=hw.back (h.dom i l hm) h2;exact⟨i,b0,h1,k1,by rw[<- k2.rw];exact h3⟩
theorem Fr.weak {n:Nat} {m m' : LM} {H Hs H' : List Blk} {w w' : World} (hw:WkH H Hs) (hr:HRel m H w) (hn:n<=H.length) (h:Fr n m Hs w m' H' w'):Fr n m H w m' H' w' := by
 refine⟨h.size,fun _=>h.len (by have:=hw.1;omega),fun i hi l hl=>?_,h.base',fun i hi b' hb' hr' => ?_,fun r hr2 hnw=>h.keep r hr2 (fun hx=>hnw (hx.weak hw hr)),h.out⟩
 ·rcases h.base i hi l hl with h1 | ⟨h1,h2,b,h3,h4⟩
  ·exact .inl h1
  ·obtain ⟨b0,k1,k2⟩:=hw.back (by omega) h3
   exact .inr ⟨h1,h2,b0,k1,by rw[<- k2.rw];exact h4⟩
 ·obtain ⟨b,h3,h4⟩:=h.rw i hi b' hb' hr'
  obtain ⟨b0,k1,k2⟩:=hw.back (by omega) h3;exact⟨b0,k1,by rw[<- k2.rw];exact h4⟩
theorem DfOk.weak {m:LM} {H Hs:List Blk} {w:World} (hw:WkH H Hs) (hr:HRel m H w) : ∀ {ds:List Deferred},DfOk m H w ds->DfOk m Hs w ds
 | [],_=>trivial
 | d::ds,⟨⟨r,h1,h2,h3,h4⟩,h5⟩=>⟨⟨r,h1,h2,fun hx=>h3 (hx.weak hw hr),h4⟩,DfOk.weak hw hr h5⟩
section
variable {P:Program} {T:TT}
theorem Vo {n0 n:Nat} {c:Code} {Q:Ex->AF->List Blk->Prop} {sl S:List (Nat × Value)} {H Hs:List Blk} (hs:WkSl S sl) (hh:WkH H Hs) (h:awp P rd n0 c Q ⟨n,S⟩ Hs):awp P rd n0 c Q ⟨n,sl⟩ H:=by
 intro hn m aR w hr b k cs hb
 obtain ⟨e,a',H',m',aR',w',h1,h2,h3,h4⟩:=h (by have:=hh.1;omega) m aR w ⟨hr.n,fun s v hv=>by
  obtain ⟨u,g1,g2⟩:=hs.get s v hv;obtain ⟨v',g3,g4⟩:=hr.sl s u g1
  exact⟨v',g3,g2.rel g4⟩,hr.df.weak hh hr.heap,hr.heap.weak hh⟩ b k cs hb
 exact⟨e,a',H',m',aR',w',h1,h2, { toFr:=h3.toFr.weak hh hr.heap hn,dn:=h3.dn },h4⟩
theorem vC (hT:TOk P T) {n0 n:Nat} {Q:Ex->List (Nat × Value)->List Blk->Prop} {sl:List (Nat × Value)} {H:List Blk} {c:Code} {α : Type} (I : α->Prop) (S : α->List (Nat × Value)) (Hf : α->List Blk) (μ : α->Nat)
 (x0 : α) (h0:I x0) (hs:WkSl (S x0) sl) (hh:WkH H (Hf x0))
 (round : ∀ x,I x->vcg P T rd n0 n c (fun e sl' H' => match e with
   | .normal => ∃ x',I x' /\ μ x' < μ x/\Rn n0 sl' H' (S x') (Hf x')
   | .exit i=>Q (.exit i) sl' H'
   | .ret=>Q .ret sl' H') (S x) (Hf x)):awp P rd n0 (.loop c) (aft n Q) ⟨n,sl⟩ H:=by
 refine Vo hs hh ?_;refine XM (fun k a H=>a.n=n/\∃ x,I x/\μ x=k/\(Rn n0 a.sl H (S x) (Hf x)\/(a.sl=S x/\H=Hf x))) (n := μ x0) ⟨rfl,x0,h0,rfl, .inr ⟨rfl,rfl⟩⟩ ?_;rintro k ⟨n',sl'⟩ H' ⟨rfl,x,hI,rfl,hrx⟩
 have key:awp P rd n0 c (aft n' fun e sl' H' => match e with
  | .normal => ∃ x',I x' /\ μ x' < μ x/\Rn n0 sl' H' (S x') (Hf x')
  | .exit i=>Q (.exit i) sl' H'
  | .ret=>Q .ret sl' H') ⟨n',sl'⟩ H' := by
  rcases hrx with hrx | ⟨rfl,rfl⟩
  ·exact zg0 hrx (vg hT c (round x hI))
  ·exact vg hT c (round x hI)
 refine wu key ?_;rintro e ⟨n2,sl2⟩ H2 ⟨rfl,hq⟩
 cases e with
 | normal=>obtain ⟨x',h1,h2,h3⟩:=hq;exact⟨μ x',h2,rfl,x',h1,rfl, .inl h3⟩
 | exit i=>exact⟨rfl,hq⟩
 | ret=>exact⟨rfl,hq⟩
theorem UM (hT:TOk P T) {n0 n:Nat} {Q:Ex->List (Nat × Value)->List Blk->Prop} {sl:List (Nat × Value)} {H:List Blk} {x y:Code} {α : Type} (I : α->Prop) (S : α->List (Nat × Value)) (Hf : α->List Blk)
 (hx:vcg P T rd n0 n x (fun e sl' H' => match e with
   | .normal => ∃ z,I z/\WkSl (S z) sl' /\ WkH H' (Hf z)
   | .exit i=>Q (.exit i) sl' H'
   | .ret=>Q .ret sl' H') sl H)
 (hy : ∀ z,I z->vcg P T rd n0 n y Q (S z) (Hf z)):awp P rd n0 (.seq x y) (aft n Q) ⟨n,sl⟩ H:=by
 refine VL (wu (vg hT x hx) ?_);rintro e ⟨n2,sl2⟩ H2 ⟨rfl,hq⟩
 cases e with
 | normal=>obtain ⟨z,h1,h2,h3⟩:=hq;exact Vo h2 h3 (vg hT y (hy z h1))
 | exit i=>exact⟨rfl,hq⟩
 | ret=>exact⟨rfl,hq⟩
end
section
variable {H0 H H' : List Blk} {o:Nat->Prop} {L:List (Bool × Nat × Blk)}
theorem HS.virt (h:HS H0 o L H) (B:Blk):HS H0 o ((true,H.length,B)::L) (H ++ [B]) :=
 h.new (by simp) Zq (fun i hi=>Zp hi)
theorem HS.vset (h:HS H0 o L H) (i:Nat) {b:Nat} {B B' : Blk} (hi:L[i]? = some (true,b,B)):HS H0 o (L.set i (true,b,B')) (H.set b B') :=
 h.set i hi (by simp) (uw (h.lt i hi)) (fun j hj=>uu hj)
theorem vZ (h:HS H0 o L H) (i:Nat) {size bytes b n j c2 z:Nat} {wr:Bool} {xs us:List Value} {K:Value->List Blk->Prop} (hi:L[i]? = some (true,b, .cells true size xs)) (hsz:0<size) (hj:bget H j=some (.cells wr z us)) (hul:us.length=size) (hone:us.all vK=true)
 (hxl:xs.length=n*size) (hby:(n+1)*(bytes+1)<=70368744177664)
 (k : ∀ (H' : List Blk) (b' : Nat),b' = H.length->H'.length=b' + 1->HS H0 o (L.set i (true,b', .cells true size (xs++us))) H' -> K (.slice (some ⟨b',0,none⟩) (n+1) (n+1)) H') :
 qB H size bytes (.slice (some ⟨b,0,none⟩) n n) (.slice (some ⟨j,0,none⟩) 1 c2) K:=by
 refine⟨hsz, ?_⟩;simp only[Vq,hj];refine⟨.inr (by omega),us,by rw[Nat.one_mul,List.drop_zero,List.take_of_length_le (by omega)],hone, ?_⟩;refine .inr ⟨by decide, ?_⟩;have hb:=h.get i hi;have hbl:=qJ hb;simp only[hb];refine⟨trivial, .inr ⟨by omega,hby, .inr (by omega),_,rfl, ?_⟩⟩;have e:List.take (n*size) (List.drop 0 xs)++us=xs++us:=by rw[List.drop_zero,List.take_of_length_le (by omega)]
 rw[e];refine VO hbl fun H1 h1 h2 h3=>Um fun H' k1 k2 k3=>?_
 rw[h1] at k1 k2 k3 ⊢;refine k H' H.length rfl k1 ?_;have hd:=h.set (B' := .dead) i hi h1 h2 h3;have hn:=hd.new (B := .cells true size (xs++us)) (by rw[k1,h1]) (by rw[h1];exact k2) (by rw[h1];exact k3);rw[h1] at hn;have hlt:i<L.length:=(List.getElem?_eq_some_iff.1 hi).1;refine⟨fun {p c d D} hp=>?_,fun {p q x y} hp hq he=>?_,hn.u⟩
 ·by_cases hip:i=p
  ·subst hip
   rw[List.getElem?_set_self hlt] at hp;simp at hp;obtain ⟨rfl,rfl,rfl⟩:=hp;exact⟨k2,fun _=>.inr h.le⟩
  ·rw[List.getElem?_set_ne hip] at hp
   exact hn.g (i:=p+1) (by simp[List.getElem?_set_ne hip,hp])
 ·have old : ∀ {p:Nat} {x:Bool × Nat × Blk},p≠i->(L.set i (true,H.length, .cells true size (xs++us)))[p]? = some x->L[p]? = some x:=fun {p x} hpi hp=>by
   rw[List.getElem?_set_ne (fun e=>hpi e.symm)] at hp;exact hp
  have self : ∀ {x:Bool × Nat × Blk},(L.set i (true,H.length, .cells true size (xs++us)))[i]? = some x->x.2.1=H.length:=fun {x} hp=>by
   rw[List.getElem?_set_self hlt] at hp;cases hp;rfl
  have low : ∀ {p:Nat} {x:Bool × Nat × Blk},L[p]? = some x->x.2.1<H.length:=fun {p x} hp=>by
   obtain ⟨c,b',B'⟩:=x;exact qJ (h.g hp).1
  by_cases hpi:p=i
  ·by_cases hqi:q=i
   ·rw[hpi,hqi]
   ·subst hpi
    have:=low (old hqi hq);rw[<- he,self hp] at this;omega
  ·by_cases hqi:q=i
   ·subst hqi
    have:=low (old hpi hp);rw[he,self hq] at this;omega
   ·exact h.nd (old hpi hp) (old hqi hq) he
theorem HS.call {L2:List (Bool × Nat × Blk)} (h:HS H0 o L H) (h2:HS H (fun _=>False) L2 H') (ht:L2.all (fun p=>p.1)=true):HS H0 o (L2++L) H' := by
 have he:=h.ext h2.u.1 (fun i hi=>h2.u.2 i hi (fun x=>x))
 have new : ∀ {i:Nat} {p:Bool × Nat × Blk},L2[i]? = some p->H.length<=p.2.1:=fun {i p} hi=>by
  have:=List.all_eq_true.1 ht p (List.mem_of_getElem? hi);obtain ⟨c,b,B⟩:=p;exact ((h2.g hi).2 this).elim (fun x=>x.elim) (fun x=>x)
 have old : ∀ {i:Nat} {p:Bool × Nat × Blk},L[i]? = some p->p.2.1<H.length:=fun {i p} hi=>by
  obtain ⟨c,b,B⟩:=p;exact qJ (h.g hi).1
 refine⟨fun {i c b B} hi=>?_,fun {i j p q} hi hj hpq=>?_,he.u⟩
 ·by_cases hlt:i<L2.length
  ·rw[List.getElem?_append_left hlt] at hi
   exact⟨(h2.g hi).1,fun _=>.inr (by have:=new hi;have:=h.le;simp only at *; omega)⟩
  ·rw[List.getElem?_append_right (by omega)] at hi
   exact he.g hi
 ·by_cases hil:i<L2.length
  ·rw[List.getElem?_append_left hil] at hi
   by_cases hjl:j<L2.length
   ·rw[List.getElem?_append_left hjl] at hj
    exact h2.nd hi hj hpq
   ·rw[List.getElem?_append_right (by omega)] at hj
    have:=new hi;have:=old hj;omega
  ·rw[List.getElem?_append_right (by omega)] at hi
   by_cases hjl:j<L2.length
   ·rw[List.getElem?_append_left hjl] at hj
    have:=new hj;have:=old hi;omega
   ·rw[List.getElem?_append_right (by omega)] at hj
    have:=h.nd hi hj hpq;omega
theorem HS.nodup (h:HS H0 o L H):(L.map (·.2.1)).Nodup:=by
 refine List.pairwise_iff_getElem.2 fun i j hi hj hij he=>?_
 simp only[List.length_map] at hi hj;simp only[List.getElem_map] at he;have:=h.nd (List.getElem?_eq_getElem hi) (List.getElem?_eq_getElem hj) he;omega
theorem HS.perm {L' : List (Bool × Nat × Blk)} (h:HS H0 o L H) (p:L.Perm L'):HS H0 o L' H:=by
 have hn:=(p.map (·.2.1)).nodup_iff.1 h.nodup;refine⟨fun {i c b B} hi=>?_,fun {i j x y} hi hj he=>?_,h.u⟩
 ·obtain ⟨k,hk⟩:=List.getElem?_of_mem (p.mem_iff.2 (List.mem_of_getElem? hi))
  exact h.g hk
 ·have hil:i<L'.length:=(List.getElem?_eq_some_iff.1 hi).1
  have hjl:j<L'.length:=(List.getElem?_eq_some_iff.1 hj).1;have e1:=(List.getElem?_eq_some_iff.1 hi).2;have e2:=(List.getElem?_eq_some_iff.1 hj).2;have hp:=List.pairwise_iff_getElem.1 hn;rcases Nat.lt_trichotomy i j with hlt | heq | hlt
  ·exact (hp i j (by simpa using hil) (by simpa using hjl) hlt (by simp only[List.getElem_map,e1,e2];exact he)).elim
  ·exact heq
  ·exact (hp j i (by simpa using hjl) (by simpa using hil) hlt (by simp only[List.getElem_map,e1,e2];exact he.symm)).elim
theorem HS.mem (h:HS H0 o L H) {c:Bool} {b:Nat} {B:Blk} (hm:(c,b,B)∈L):bget H b=some B:=by
 obtain ⟨k,hk⟩:=List.getElem?_of_mem hm;exact h.get k hk
theorem HS.right {M:List (Bool × Nat × Blk)} (h:HS H0 o (M++L) H):HS H0 o L H :=
 ⟨fun {i _ _ _} hi=>h.g (i:=M.length+i) (by rw[List.getElem?_append_right (by omega)];simpa using hi),fun {i j _ _} hi hj he=>by
   have:=h.nd (i:=M.length+i) (j:=M.length+j) (by rw[List.getElem?_append_right (by omega)];simpa using hi) (by rw[List.getElem?_append_right (by omega)];simpa using hj) he
   omega,h.u⟩
theorem HS.left {M:List (Bool × Nat × Blk)} (h:HS H0 o (L++M) H):HS H0 o L H:=(h.perm List.perm_append_comm).right
end
end Go.Af
namespace Go.Af
open Go
variable {rd:Bool} {P:Program} {T:TT}
theorem UL {n0 n:Nat} {x y:Code} {Q:Ex->List (Nat × Value)->List Blk->Prop} {sl:List (Nat × Value)} {H:List Blk}
 (h : ∀ Q0:Ex->List (Nat × Value)->List Blk->Prop,(∀ sl H,vcg P T rd n0 n y Q sl H->Q0 .normal sl H)->(∀ i sl H,Q (.exit i) sl H->Q0 (.exit i) sl H)->(∀ sl H,Q .ret sl H->Q0 .ret sl H)->vcg P T rd n0 n x Q0 sl H):vcg P T rd n0 n (.seq x y) Q sl H :=
 h (fun e sl H=>match e with
   | .normal=>vcg P T rd n0 n y Q sl H
   | .exit i=>Q (.exit i) sl H
   | .ret=>Q .ret sl H) (fun _ _ h=>h) (fun _ _ _ h=>h) (fun _ _ h=>h)
theorem Fr.weak' {n:Nat} {m m' : LM} {H H' H2:List Blk} {w w' : World} (hw:WkH H' H2) (hr:HRel m' H' w') (hn:n<=H.length) (h:Fr n m H w m' H' w'):Fr n m H w m' H2 w' := by
 refine⟨h.size,fun _=>by have:=h.len hn;have:=hw.1;omega,h.base,h.base',fun i hi b' hb' hr' => ?_,fun r hr2 hnw=>⟨(h.keep r hr2 hnw).1,fun hx=>(h.keep r hr2 hnw).2 (hx.weak hw hr)⟩,h.out⟩;obtain ⟨b0,k1,k2⟩:=hw.back (by have:=h.len hn;omega) hb';exact h.rw i hi b0 k1 (by rw[<- k2.rw];exact hr')
def WkT (v v' : Value):Prop:=WkV v v' \/ ∃ xs ys,v = .tuple ⟨xs⟩/\v' = .tuple ⟨ys⟩/\xs.length=ys.length/\∀ (i:Nat) (x y:Value),xs[i]? = some x->ys[i]? = some y->WkV x y
theorem WkT.rel {m:LM} {v v' u:Value} (h:WkT v v') (hv:VRel m v u):VRel m v' u:=by
 rcases h with h | ⟨xs,ys,rfl,rfl,hl,he⟩
 ·exact h.rel hv
 ·obtain ⟨us,rfl,h1,h2⟩:=hv.inv_tuple
  refine VRel.tuple' ⟨by rw[<- h1];exact hl.symm,fun i y u hy hu=>?_⟩;have hy:ys[i]? = some y:=hy;have hil:i<xs.length:=by have:=(List.getElem?_eq_some_iff.1 hy).1;omega
  exact (he i _ y (List.getElem?_eq_getElem hil) hy).rel (h2 i _ u (List.getElem?_eq_getElem hil) hu)
theorem WkT.rfl {v:Value}:WkT v v := .inl .rfl
theorem WkT.nil2 (b:Nat) (e:Value):WkT (.tuple ⟨[.slice none 0 0,e]⟩) (.tuple ⟨[.slice (some ⟨b,0,none⟩) 0 0,e]⟩) :=
 .inr ⟨_,_,Eq.refl _,Eq.refl _,Eq.refl _,fun i x y hx hy=>by
   match i,hx,hy with
   | 0,hx,hy=>simp at hx hy;subst hx;subst hy;exact .nil b
   | 1,hx,hy=>simp at hx hy;subst hx;subst hy;exact .rfl
   | i+2,hx,hy=>simp at hx⟩
theorem Ql {f:FuncId} {args:List Value} {H:List Blk} {R:Value->List Blk->Prop} (h:qj P f args H (fun v H' => ∃ v2 H2,WkT v v2/\WkH H' H2/\R v2 H2)):qj P f args H R :=
 ⟨h.1,fun m argsR w ha hh c cs=>by
   obtain ⟨vR,w',⟨v,H',m',⟨v2,H2,h1,h2,h3⟩,h4,h5,h6⟩,h7⟩:=h.2 m argsR w ha hh c cs
   exact⟨vR,w',⟨v2,H2,m',h3,h1.rel h4,h5.weak h2,h6.weak' h2 h5 (Nat.le_refl _)⟩,h7⟩⟩
theorem ve0 {H0 H:List Blk} {o:Nat->Prop} {L:List (Bool × Nat × Blk)} (h:HS H0 o L H) {size bytes j c2 z:Nat} {wr:Bool} {us:List Value} {K:Value->List Blk->Prop} (hsz:0<size) (hj:bget H j=some (.cells wr z us)) (hul:us.length=size) (hone:us.all vK=true)
 (hby:1*(bytes+1)<=70368744177664)
 (k : ∀ (H' : List Blk) (b' : Nat),b' = H.length->H'.length=b' + 1->HS H0 o ((true,b', .cells true size us)::L) H' -> K (.slice (some ⟨b',0,none⟩) 1 1) H') :
 qB H size bytes (.slice none 0 0) (.slice (some ⟨j,0,none⟩) 1 c2) K:=by
 refine⟨hsz, ?_⟩;simp only[Vq,hj];refine⟨.inr (by omega),us,by rw[Nat.one_mul,List.drop_zero,List.take_of_length_le (by omega)],hone, ?_⟩;exact .inr ⟨by decide,by omega,QD h k⟩
theorem HS.forget {H0 H H' : List Blk} {o:Nat->Prop} {L:List (Bool × Nat × Blk)} {l:Nat} {B:Blk} (h:HS H0 o ((true,l,B)::L) H) (hl:H'.length=H.length) (he : ∀ i,i≠l->bget H' i=bget H i):HS H0 o L H' := by
 refine⟨fun {i c b B'} hi=>?_,fun {i j p q} hi hj hpq=>?_,h.u.trans (o' := fun x=>x=l) ⟨by omega,fun x _ hx=>he x hx⟩ (fun x hx=>by subst hx;exact (h.g (i:=0) rfl).2 rfl)⟩
 ·have hg:=h.g (i:=i+1) (by simpa using hi)
  have hne:b≠l:=fun e=>by
   have:=h.nd (i:=i+1) (j:=0) (p:=(c,b,B')) (q:=(true,l,B)) (by simpa using hi) rfl e;omega
  exact⟨(he b hne).trans hg.1,hg.2⟩
 ·have:=h.nd (i:=i+1) (j:=j+1) (by simpa using hi) (by simpa using hj) hpq
  omega
end Go.Af
