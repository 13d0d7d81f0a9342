/- A part of the proof. -/
import Derived.Test.YtmnjcogpchodhaaGreatMC
set_option linter.all false
namespace Go.Af
open Go
section
variable {rd:Bool} {P:Program} {T:TT}
end
section
variable {H0 H:List Blk} {o:Nat->Prop} {L:List (Bool × Nat × Blk)}
theorem wM (h:HS H0 o L H) (i:Nat) {l n:Nat} {K:List Blk->Prop} {pend:Option Code} {sl:List (Nat × Value)} {ps:Array Tmp} {as body:Code} (hi:L[i]? = some (true,l, .loop .ready pend n sl ps as body))
 (k : ∀ H' : List Blk,HS H0 o (L.set i (true,l, .loop .busy pend n sl ps as body)) H' -> K H'):qh l H K :=
 yV (h.get i hi) (fun H' h1 h2 h3=>k H' (h.set i hi h1 h2 h3))
theorem zJ (h:HS H0 o L H) (i:Nat) {l n:Nat} {R:Value->List Blk->Prop} {st:LoopState} {pend:Option Code} {sl:List (Nat × Value)} {ps:Array Tmp} {as body:Code} (hi:L[i]? = some (true,l, .loop st pend n sl ps as body))
 (k : ∀ H' : List Blk,HS H0 o (L.set i (true,l, .loop .ready none n sl ps as body)) H' -> R (.bool true) H'):roundEnd l .normal H R :=
 Qz (h.get i hi) (fun H' h1 h2 h3=>k H' (h.set i hi h1 h2 h3))
theorem zH (h:HS H0 o L H) (i:Nat) {l n:Nat} {K:Ex->List Blk->Prop} {st:LoopState} {pend:Option Code} {sl:List (Nat × Value)} {ps:Array Tmp} {as body:Code} (hi:L[i]? = some (true,l, .loop st pend n sl ps as body)) (hs:st ≠ .busy)
 (k : ∀ H' : List Blk,HS H0 o (L.eraseIdx i) H' -> Zz pend (fun e=>K e H')):qx l H K:=by
 refine QB (h.get i hi) hs (fun H' h1 h3=>k H' ?_);have hlt:i<L.length:=(List.getElem?_eq_some_iff.1 hi).1
 have hp:L.Perm ((true,l, .loop st pend n sl ps as body)::L.eraseIdx i):=by
  have e:L=L.take i++(true,l, .loop st pend n sl ps as body)::L.drop (i+1):=by
   conv=>lhs;rw[<- List.take_append_drop i L,List.drop_eq_getElem_cons hlt,(List.getElem?_eq_some_iff.1 hi).2]
  rw[List.eraseIdx_eq_take_drop_succ]
  conv=>lhs;rw[e]
  exact List.perm_middle
 exact (h.perm hp).forget h1 h3
end
end Go.Af
namespace Go.Af
open Go
section
variable {rd:Bool} {P:Program} {T:TT} {n0 n:Nat} {x y z:Code} {Q:Ex->List (Nat × Value)->List Blk->Prop} {sl:List (Nat × Value)} {H:List Blk}
def blkQ (P:Program) (T:TT) (rd:Bool) (n0 n id:Nat) (z:Code) (Q:Ex->List (Nat × Value)->List Blk->Prop):Ex->List (Nat × Value)->List Blk->Prop:=fun e sl H=>match e with
 | .normal=>vcg P T rd n0 n z Q sl H
 | .exit i=>match Nat.beq i id with
   | true=>vcg P T rd n0 n z Q sl H
   | false=>Q (.exit i) sl H
 | .ret=>Q .ret sl H
theorem Uy {id:Nat} (h:vcg P T rd n0 n z Q sl H):blkQ P T rd n0 n id z Q .normal sl H:=h
theorem xW0 {id:Nat} (h:Q .ret sl H):blkQ P T rd n0 n id z Q .ret sl H:=h
theorem xX0 {id i:Nat} (hi:Nat.beq i id=true) (h:vcg P T rd n0 n z Q sl H):blkQ P T rd n0 n id z Q (.exit i) sl H:=by
 unfold blkQ;simp only;rw[hi];exact h
theorem zc0 {id i:Nat} (hi:Nat.beq i id=false) (h:Q (.exit i) sl H):blkQ P T rd n0 n id z Q (.exit i) sl H:=by
 unfold blkQ;simp only;rw[hi];exact h
theorem vp0 (h:vcg P T rd n0 n (.seq x (.seq y z)) Q sl H):vcg P T rd n0 n (.seq (.seq x y) z) Q sl H:=by
 unfold vcg at h ⊢;unfold vcg;exact h
theorem YU (h:vcg P T rd n0 n z Q sl H):vcg P T rd n0 n (.seq .skip z) Q sl H:=h
theorem qE0 (h:Q .ret sl H):vcg P T rd n0 n (.seq .ret z) Q sl H:=h
theorem YW {i:Nat} (h:Q (.exit i) sl H):vcg P T rd n0 n (.seq (.exit i) z) Q sl H:=h
theorem XU (h:vcg P T rd n0 n (.seq x z) Q sl H):vcg P T rd n0 n (.seq (.scope x) z) Q sl H:=h
theorem zE0 (h:Q .normal sl H):vcg P T rd n0 n .skip Q sl H:=h
theorem ub0 (h:Q .ret sl H):vcg P T rd n0 n .ret Q sl H:=h
theorem zJ0 {i:Nat} (h:Q (.exit i) sl H):vcg P T rd n0 n (.exit i) Q sl H:=h
theorem vn0 (h:vcg P T rd n0 n x Q sl H):vcg P T rd n0 n (.scope x) Q sl H:=h
theorem zF0 {c:Operand} (h:Uw sl c (vcg P T rd n0 n (.seq x z) Q sl H) (vcg P T rd n0 n (.seq y z) Q sl H)):vcg P T rd n0 n (.seq (.cond c x y) z) Q sl H:=h
theorem zL0 {c:Operand} (h:Uw sl c (vcg P T rd n0 n x Q sl H) (vcg P T rd n0 n y Q sl H)):vcg P T rd n0 n (.cond c x y) Q sl H:=h
theorem UK {id:Nat} {ops:Array Oper} (h : ∀ K0:List (Nat × Value)->List Blk->Prop,(∀ sl H,vcg P T rd n0 n z Q sl H->K0 sl H)->vops P T n ops.toList ops.toList K0 sl H):vcg P T rd n0 n (.seq (.region id ops false) z) Q sl H :=
 h (fun sl H=>vcg P T rd n0 n z Q sl H) (fun _ _ h=>h)
theorem zH0 {id:Nat} {ops:Array Oper} (h : ∀ K0:List (Nat × Value)->List Blk->Prop,(∀ sl H,Q .normal sl H->K0 sl H)->vops P T n ops.toList ops.toList K0 sl H):vcg P T rd n0 n (.region id ops false) Q sl H :=
 h (fun sl H=>Q .normal sl H) (fun _ _ h=>h)
theorem zG0 {id:Nat} (h:vcg P T rd n0 n x (blkQ P T rd n0 n id z Q) sl H):vcg P T rd n0 n (.seq (.block id x) z) Q sl H:=by
 unfold vcg
 conv=>unfold vcg
 exact h
theorem uc0 {id:Nat} (h:vcg P T rd n0 n x (blkQ P T rd n0 n id .skip Q) sl H):vcg P T rd n0 n (.block id x) Q sl H:=h
end
end Go.Af
namespace Go.Af
open Go
theorem mH {α : Type} {a : α} {l:List α}:a∈a::l:=List.mem_cons_self
theorem mT {α : Type} {a b : α} {l:List α} (h:a∈l):a∈b::l:=List.mem_cons_of_mem _ h
theorem lB {a b:Nat} (h:Nat.ble a b=true):a<=b:=Nat.le_of_ble_eq_true h
theorem aI {a b:Prop} (x:a) (y:b):a/\b:=⟨x,y⟩
theorem eI {α : Sort _} {p : α->Prop} (x : α) (h:p x):Exists p:=⟨x,h⟩
section
variable {H0 H:List Blk} {o:Nat->Prop} {L:List (Bool × Nat × Blk)}
theorem iS (hs:HS H0 o L H) {c wr:Bool} {b z:Nat} {vs:List Value} {K:Prop} (h:K) (hm:(c,b,Blk.cells wr z vs)∈L:=by repeat (first | exact mH | refine mT ?_)):isCells H b K:=qO (hs.mem hm) h
theorem rS (hs:HS H0 o L H) {c wr:Bool} {b z:Nat} {vs:List Value} {K:Nat->List Value->Prop} (h:K z vs) (hm:(c,b,Blk.cells wr z vs)∈L:=by repeat (first | exact mH | refine mT ?_)):ql H b K:=qF (hs.mem hm) h
end
theorem cF {a b c d:Prop} (h:b->d) (hn : ¬ a:=by decide):(a->c)/\(b->d):=⟨fun x=>absurd x hn,h⟩
theorem cT {a b c d:Prop} (h:a->c) (hn : ¬ b:=by decide):(a->c)/\(b->d):=⟨h,fun x=>absurd x hn⟩
theorem oJ {z:Int} {p:Int->Prop} {q:Prop} (h:p z) (hz:I64 z:=by unfold I64;omega):(∃ y,z=y/\I64 y/\p y)\/q := .inl ⟨z,rfl,hz,h⟩
end Go.Af
namespace Go.Af
open Go
class Wk (G:Prop) (G' : outParam Prop):Prop where
 w:G' -> G
theorem nX {G G' : Prop} [Wk G G'] (h:G'):G:=Wk.w h
section
variable {rd:Bool} {P:Program} {T:TT} {n0 n:Nat} {x y z:Code} {Q:Ex->List (Nat × Value)->List Blk->Prop} {sl:List (Nat × Value)} {H:List Blk}
instance:Wk (vcg P T rd n0 n (.seq (.seq x y) z) Q sl H) (vcg P T rd n0 n (.seq x (.seq y z)) Q sl H):=⟨vp0⟩
instance {c:Operand}:Wk (vcg P T rd n0 n (.seq (.cond c x y) z) Q sl H) (Uw sl c (vcg P T rd n0 n (.seq x z) Q sl H) (vcg P T rd n0 n (.seq y z) Q sl H)):=⟨zF0⟩
instance {id:Nat}:Wk (vcg P T rd n0 n (.seq (.block id x) z) Q sl H) (vcg P T rd n0 n x (blkQ P T rd n0 n id z Q) sl H):=⟨zG0⟩
instance:Wk (vcg P T rd n0 n (.seq .skip z) Q sl H) (vcg P T rd n0 n z Q sl H):=⟨YU⟩
instance:Wk (vcg P T rd n0 n (.seq .ret z) Q sl H) (Q .ret sl H):=⟨qE0⟩
instance {i:Nat}:Wk (vcg P T rd n0 n (.seq (.exit i) z) Q sl H) (Q (.exit i) sl H):=⟨YW⟩
instance:Wk (vcg P T rd n0 n (.seq (.scope x) z) Q sl H) (vcg P T rd n0 n (.seq x z) Q sl H):=⟨XU⟩
instance {c:Operand}:Wk (vcg P T rd n0 n (.cond c x y) Q sl H) (Uw sl c (vcg P T rd n0 n x Q sl H) (vcg P T rd n0 n y Q sl H)):=⟨zL0⟩
instance {id:Nat}:Wk (vcg P T rd n0 n (.block id x) Q sl H) (vcg P T rd n0 n x (blkQ P T rd n0 n id .skip Q) sl H):=⟨uc0⟩
instance:Wk (vcg P T rd n0 n .skip Q sl H) (Q .normal sl H):=⟨zE0⟩
instance:Wk (vcg P T rd n0 n .ret Q sl H) (Q .ret sl H):=⟨ub0⟩
instance {i:Nat}:Wk (vcg P T rd n0 n (.exit i) Q sl H) (Q (.exit i) sl H):=⟨zJ0⟩
instance:Wk (vcg P T rd n0 n (.scope x) Q sl H) (vcg P T rd n0 n x Q sl H):=⟨vn0⟩
instance {id:Nat}:Wk (blkQ P T rd n0 n id z Q .normal sl H) (vcg P T rd n0 n z Q sl H):=⟨Uy⟩
instance {id:Nat}:Wk (blkQ P T rd n0 n id z Q .ret sl H) (Q .ret sl H):=⟨xW0⟩
class Ww (G:Prop) (A:outParam ((List (Nat × Value)->List Blk->Prop)->Prop)) (B:outParam ((List (Nat × Value)->List Blk->Prop)->Prop)):Prop where
 w:(∀ K,A K->B K)->G
theorem nY {G:Prop} {A B:(List (Nat × Value)->List Blk->Prop)->Prop} [Ww G A B] (h : ∀ K,A K->B K):G:=Ww.w h
instance {id:Nat} {ops:Array Oper}:Ww (vcg P T rd n0 n (.seq (.region id ops false) z) Q sl H) (fun K0 => ∀ sl H,vcg P T rd n0 n z Q sl H->K0 sl H) (fun K0=>vops P T n ops.toList ops.toList K0 sl H):=⟨UK⟩
instance {id:Nat} {ops:Array Oper}:Ww (vcg P T rd n0 n (.region id ops false) Q sl H) (fun K0 => ∀ sl H,Q .normal sl H->K0 sl H) (fun K0=>vops P T n ops.toList ops.toList K0 sl H):=⟨zH0⟩
theorem bH {id i:Nat} (h:vcg P T rd n0 n z Q sl H) (hi:Nat.beq i id=true:=by exact rfl):blkQ P T rd n0 n id z Q (.exit i) sl H:=xX0 hi h
theorem bM {id i:Nat} (h:Q (.exit i) sl H) (hi:Nat.beq i id=false:=by exact rfl):blkQ P T rd n0 n id z Q (.exit i) sl H:=zc0 hi h
end
class Dn (a:Prop) (b:outParam Prop):Prop where
 d:a->b
instance (priority:=100) {b:Bool}:Dn (b=true) (b=true):=⟨id⟩
instance (priority:=100) {b:Bool}:Dn (b=false) (b=false):=⟨id⟩
instance (priority:=200) {p:Prop} [Decidable p]:Dn (decide p=true) p:=⟨of_decide_eq_true⟩
instance (priority:=200) {p:Prop} [Decidable p]:Dn (decide p=false) (¬ p):=⟨of_decide_eq_false⟩
instance (priority:=300) {p:Prop} [Decidable (¬ p)]:Dn (decide (¬ p)=false) p:=⟨fun h=>Classical.not_not.1 (of_decide_eq_false h)⟩
instance (priority:=400) {x y:Int} [Decidable (x<y)]:Dn (decide (x<y)=false) (y<=x):=⟨fun h=>Int.not_lt.1 (of_decide_eq_false h)⟩
instance (priority:=400) {x y:Int} [Decidable (x<=y)]:Dn (decide (x<=y)=false) (y<x):=⟨fun h=>Int.not_le.1 (of_decide_eq_false h)⟩
instance (priority:=300) {b:Bool} {p:Prop} [Dn (b=false) p]:Dn ((!b)=true) p:=⟨fun h=>Dn.d (a:=b=false) (by simpa using h)⟩
instance (priority:=300) {b:Bool} {p:Prop} [Dn (b=true) p]:Dn ((!b)=false) p:=⟨fun h=>Dn.d (a:=b=true) (by simpa using h)⟩
instance (priority:=500) {b:Bool} {p:Prop} [Dn (b=true) p]:Dn (b = !false) p:=⟨fun h=>Dn.d (a:=b=true) h⟩
instance (priority:=500) {b:Bool} {p:Prop} [Dn (b=false) p]:Dn (b = !true) p:=⟨fun h=>Dn.d (a:=b=false) h⟩
theorem dI {a a' b b' c d:Prop} [Dn a a'] [Dn b b'] (h1:a' -> c) (h2:b' -> d):(a->c)/\(b->d):=⟨fun h=>h1 (Dn.d h),fun h=>h2 (Dn.d h)⟩
section
variable {H0 H:List Blk} {o:Nat->Prop} {L:List (Bool × Nat × Blk)}
theorem g0 {α : Type} {x : α} {l:List α}:(x::l)[0]? = some x:=rfl
theorem g1 {α : Type} {a x : α} {l:List α}:(a::x::l)[1]? = some x:=rfl
theorem g2 {α : Type} {a b x : α} {l:List α}:(a::b::x::l)[2]? = some x:=rfl
theorem g3 {α : Type} {a b c x : α} {l:List α}:(a::b::c::x::l)[3]? = some x:=rfl
theorem g4 {α : Type} {a b c d x : α} {l:List α}:(a::b::c::d::x::l)[4]? = some x:=rfl
theorem sX (h:HS H0 o L H) {i b z p n:Nat} {vs vs' : List Value} {v:Value} {K:List Blk->Prop}
 (k : ∀ H' : List Blk,HS H0 o (L.set i (true,b, .cells true z vs')) H' -> K H')
 (hi:L[i]? = some (true,b, .cells true z vs):=by first | exact g0 | exact g1 | exact g2 | exact g3 | exact g4) (h1:(qG v).length=n:=by exact rfl) (h2:(qG v).all vK=true:=by exact rfl) (h3:p+n<=vs.length:=by exact lB rfl) (h4:setSeg vs p (qG v)=vs' := by exact rfl) :
 qi H b (fun z vs=>((qG v).length=n/\(qG v).all vK=true/\p+n<=vs.length)/\∃ vs',setSeg vs p (qG v)=vs' /\ zt H b (.cells true z vs') K):=vN h i hi vs' h1 h2 h3 h4 (fun H' _ hs=>k H' hs)
theorem nN (h:HS H0 o L H) {B:Blk} {K:Nat->List Blk->Prop} (k : ∀ (b:Nat) (H' : List Blk),HS H0 o ((true,b,B)::L) H' -> K b H'):xB H 0 B K:=qo h (fun H' b _ _ hs=>k b H' hs)
theorem nS (h:HS H0 o L H) {size n:Nat} {cells:List Value} {K:Value->List Blk->Prop} (k : ∀ (b:Nat) (H' : List Blk),HS H0 o ((true,b, .cells true size cells)::L) H' -> K (.slice (some ⟨b,0,none⟩) n n) H'):qm H size cells n K:=QD h (fun H' b _ _ hs=>k b H' hs)
end
end Go.Af
namespace Go.Af
theorem zB {a b c d:Prop} (h:d) (hn : ¬ a:=by decide):(a->c)/\(b->d):=⟨fun x=>absurd x hn,fun _=>h⟩
theorem zA {a b c d:Prop} (h:c) (hn : ¬ b:=by decide):(a->c)/\(b->d):=⟨fun _=>h,fun x=>absurd x hn⟩
theorem wG {p q:Prop} (y:q) (x:p:=by first | decide | omega):p/\q:=⟨x,y⟩
end Go.Af
namespace Go.Af
open Go
theorem Fr.fewer {n n' : Nat} {m m' : LM} {H H' : List Blk} {w w' : World} (hn:n' <= n) (hl:n<=H.length) (h:Fr n m H w m' H' w'):Fr n' m H w m' H' w' :=
 ⟨h.size,fun _=>Nat.le_trans hn (h.len hl),fun i hi=>h.base i (by omega),fun i hi=>h.base' i (by omega),fun i hi=>h.rw i (by omega),h.keep,h.out⟩
theorem vg0 {P:Program} {f:FuncId} {args args' : List Value} {H Hs:List Blk} {R:Value->List Blk->Prop} (h:qj P f args' Hs R) (hl : ∀ (m:LM) (ys:List Value),LRel m args ys->LRel m args' ys) (hh:WkH H Hs):qj P f args H R :=
 ⟨h.1,fun m aR w hr hw=>(h.2 m aR w (hl m _ hr) (hw.weak hh)).mono fun _ _ ⟨v,H',m',r1,r2,r3,r4⟩=>⟨v,H',m',r1,r2,r3,(r4.fewer hh.1 (Nat.le_refl _)).weak hh hw (Nat.le_refl _)⟩⟩
def VUp (v v' : Value):Prop := ∀ (m:LM) (u:Value),VRel m v u->VRel m v' u
def LUp (l l' : List Value):Prop := ∀ (m:LM) (us:List Value),LRel m l us->LRel m l' us
theorem VUp.rfl {v:Value}:VUp v v:=fun _ _ h=>h
theorem VUp.nil (b:Nat):VUp (.slice none 0 0) (.slice (some ⟨b,0,none⟩) 0 0):=fun m u h=>by cases h;exact .sliceZero b 0 none
theorem LUp.nil:LUp [] []:=fun _ _ h=>h
theorem LUp.cons {x x' : Value} {xs xs' : List Value} (h:VUp x x') (hs:LUp xs xs'):LUp (x::xs) (x' :: xs'):=fun m ys hr=>by
 obtain ⟨y,ys',rfl,h1,h2⟩:=hr.inv_cons;exact .cons (h m _ h1) (hs m _ h2)
theorem VUp.agg {xs xs' : Array Value} (h:LUp xs.toList xs'.toList):VUp (.agg xs) (.agg xs'):=fun m vR hr=>by
 obtain ⟨ys,rfl,hl⟩:=hr.inv_agg;exact .agg' (h m _ hl)
end Go.Af
namespace Go.Af
open Go
end Go.Af
namespace Go.Af
open Go
section
variable {H0 H:List Blk} {o:Nat->Prop} {L:List (Bool × Nat × Blk)}
theorem sXn (h:HS H0 o L H) {i b z p n:Nat} {vs vs' : List Value} {v:Value} {K:List Blk->Prop}
 (k : ∀ (_:Nat) (H' : List Blk),HS H0 o (L.set i (true,b, .cells true z vs')) H' -> K H')
 (hi:L[i]? = some (true,b, .cells true z vs):=by first | exact g0 | exact g1 | exact g2 | exact g3 | exact g4) (h1:(qG v).length=n:=by exact rfl) (h2:(qG v).all vK=true:=by exact rfl) (h3:p+n<=vs.length:=by exact lB rfl) (h4:setSeg vs p (qG v)=vs' := by exact rfl) :
 qi H b (fun z vs=>((qG v).length=n/\(qG v).all vK=true/\p+n<=vs.length)/\∃ vs',setSeg vs p (qG v)=vs' /\ zt H b (.cells true z vs') K):=sX h (fun H' hs=>k 0 H' hs) hi h1 h2 h3 h4
end
end Go.Af
namespace Go.Af
open Go
theorem dF {a a' b b' c d:Prop} [Dn a a'] [Dn b b'] (h:b' -> d) (hn : ¬ a' := by omega):(a->c)/\(b->d):=⟨fun x=>absurd (Dn.d x) hn,fun x=>h (Dn.d x)⟩
theorem dT {a a' b b' c d:Prop} [Dn a a'] [Dn b b'] (h:a' -> c) (hn : ¬ b' := by omega):(a->c)/\(b->d):=⟨fun x=>h (Dn.d x),fun x=>absurd (Dn.d x) hn⟩
section
variable {H0 H:List Blk} {o:Nat->Prop} {L:List (Bool × Nat × Blk)}
theorem pkH (h:HS H0 o L H) (js:List Nat) {L' : List (Bool × Nat × Blk)} (hn:js.Nodup:=by decide) (hL:js.map (fun i=>L[i]?)=L'.map some:=by exact rfl):HS H0 o L' H:=h.pick js hn hL
theorem adH (h:HS H0 o [] H) {b:Nat} {B:Blk} (hb:bget H b=some B):HS H0 o [(false,b,B)] H:=h.add hb (fun i p hi=>by simp at hi) (fun e=>by cases e)
theorem neH (h:HS H0 o L H) (i j:Nat) {c d:Bool} {b e:Nat} {B E:Blk} (hi:L[i]? = some (c,b,B):=by exact rfl) (hj:L[j]? = some (d,e,E):=by exact rfl) (hij:i≠j:=by decide):b≠e:=h.ne i j hi hj hij
end
theorem zRw {G G' : Prop} (h:G') (w:G' -> G:=by first
 | exact fun h=>nX h
 | exact fun h=>nY h
 | exact fun h=>bH h
 | exact fun h=>bM h
 | exact fun h=>aI (by decide) h
 | exact fun h=>iS hs h
 | exact fun h=>rS hs h
 | exact fun h=>eI _ (aI rfl h)
 | exact fun h=>cF (fun _=>h)
 | exact fun h=>cT (fun _=>h)
 | exact fun h=>aI (by omega) h
 | exact fun h=>oJ h
 | exact fun h=>rd h
 | exact fun h=>nN hs h
 | exact fun h=>nS hs h
 | exact fun h=>sXn hs h):G:=w h
theorem zPw {G G' : Prop} (h:G') (w:G' -> G:=by first
 | exact fun h=>zRw h
 | exact fun h=>hK0 _ _ h):G:=w h
theorem zTw {G G' : Prop} (h:G') (w:G' -> G:=by first
 | exact fun h=>zRw h
 | exact fun h=>dF h
 | exact fun h=>dT h):G:=w h
theorem zQw {G G' : Prop} (h:G') (w:G' -> G:=by first
 | exact fun h=>zTw h
 | exact fun h=>hK0 _ _ h):G:=w h
end Go.Af
