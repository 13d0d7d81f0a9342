/-
  Code in a form that computes.
-/
import Derived.Test.YtkmhpolbhjgpoaaE5
namespace Go.Af
open Go

inductive DS where
  | none
  | at (p : Ps)
  | bad
inductive GS where
  | none
  | at (p : Ps) (want : Bool)
  | bad
structure XOp where
  dst : DS
  g : GS
  q : Bool
  op : XO

inductive IR where
  | skip
  | reg (l : List XOp)
  | seq (a b : IR)
  | cond (c : EV) (a b : IR)
  | block (id : Nat) (a : IR)
  | loop (a : IR)
  | range (f : EV) (n : Nat) (ps : Array Tmp) (as body : Code) (dr : DT)
  | exit (id : Nat)
  | ret
  | bad

noncomputable def cDst (n : Nat) : Option Tmp → DS
  | none => .none
  | some d => match Nat.blt d n with
    | true => .at (psOf d)
    | false => .bad
noncomputable def cGuard (all : List Oper) : Option (Nat × Bool) → GS
  | none => .none
  | some (j, want) => match dstOf all j with
    | none => .bad
    | some d => .at (psOf d) want
noncomputable def cOper (E : Env) (n : Nat) (all : List Oper) (q : Bool) (o : Oper) : XOp := ⟨cDst n o.dst, cGuard all o.guard, q, cOp E o.op⟩

def badOp : XOp := ⟨.bad, .bad, false, .bad⟩
noncomputable def cOps (E : Env) (n : Nat) (all : List Oper) (l : List Oper) : List XOp := List.rec [] (fun o _ ih => cOper E n all false o :: ih) l
noncomputable def cOrd (E : Env) (n : Nat) (all : List Oper) (qs : List Bool) (σ : List Nat) : List XOp :=
  List.rec [] (fun i _ ih => (match opGet all i with | some o => cOper E n all (bAt qs i) o | none => badOp) :: ih) σ

/-- Code, turned. dr: for each drawn region its masks, its quiet operations, its order. -/
noncomputable def comp (E : Env) (dr : DT) (n : Nat) (rd : Bool) (c : Code) : IR :=
  Code.rec (motive := fun _ => IR) .skip
    (fun id ops draw => match draw with
      | false => .reg (cOps E n ops.toList ops.toList)
      | true => match ndF dr id with
        | some d => match drawB ops d.1.toArray d.2.1 d.2.2 with
          | true => .reg (cOrd E n ops.toList d.2.1 d.2.2)
          | false => .bad
        | none => .bad)
    (fun _ _ a b => .seq a b) (fun c _ _ a b => .cond (cv c) a b) (fun id _ a => .block id a) (fun _ a => .loop a)
    (fun f ps as body _ _ => match rd with
      | true => .bad
      | false => .range (cv f) n ps as body dr)
    (fun id => .exit id) (fun _ a => a) (fun _ => .bad) (fun _ => .bad) .ret (fun _ => .bad) c

structure St where
  F : Tr Value
  M : Tr EB
  n : Nat

abbrev CallT := Nat → Nat → List Value → Tr EB → Nat → HK → Bool
structure Ev where
  fu : Nat
  call : CallT
  yld : CallT

noncomputable def opE (ev : Ev) (lim : Nat) (q : Bool) (o : XO) (F : Tr Value) (M : Tr EB) (n : Nat) (K : HK) : Bool :=
  match o with
  | .call f args => gv f F (fun fv => gvs args F (fun vs => match fv with
    | .func (.func g) first captured => lapp vs captured.toList (fun r => lapp first.toList r (fun l => ev.call (Bool.rec lim n q) g l M n K))
    | .func (.yield l) first _ => match first.toList with
      | [] => Bool.rec (ev.yld lim l vs M n K) false q
      | _ :: _ => false
    | _ => false))
  | .inv r ms args => gv r F (fun rv => match rv with
    | .iface t v => gvs args F (fun vs => match ndF ms t with
      | some f => ev.call (Bool.rec lim n q) f (v :: vs) M n K
      | none => false)
    | _ => false)
  | o => Bool.rec (eop o lim F M n K) (Bool.rec false (eop o lim F M n K) (valX o)) q

noncomputable def dstE (d : DS) (v : Value) (F : Tr Value) (K : Tr Value → Bool) : Bool :=
  match d with
  | .none => K F
  | .at p => F.setK v p K
  | .bad => false
noncomputable def guardE (g : GS) (F : Tr Value) (yes no : Bool) : Bool :=
  match g with
  | .none => yes
  | .at p want => F.getK (fun v => match v with
    | .bool b => Bool.rec (Bool.rec yes no want) (Bool.rec no yes want) b
    | .tuple _ => no
    | _ => false) p
  | .bad => false

noncomputable def runOps (ev : Ev) (lim : Nat) (l : List XOp) : Tr Value → Tr EB → Nat → (St → Bool) → Bool :=
  List.rec (motive := fun _ => Tr Value → Tr EB → Nat → (St → Bool) → Bool) (fun F M n K => K ⟨F, M, n⟩)
    (fun o _ ih F M n K => guardE o.g F (opE ev lim o.q o.op F M n (fun v M' n' => dstE o.dst v F (fun F' => ih F' M' n' K))) (dstE o.dst undef F (fun F' => ih F' M n K))) l

noncomputable def loopE (M : Tr EB) (l : Nat) (K : LoopState → Option Code → Nat → Tr Value → Array Tmp → Code → Code → DT → Bool) : Bool :=
  M.getK (fun eb => match eb with | .loop st pend n F ps as body dr => K st pend n F ps as body dr | _ => false) (psOf l)
noncomputable def jumpE (pend : Option Code) (K : Ex → Bool) : Bool :=
  match pend with
  | none => K .normal
  | some (.exit id) => K (.exit id)
  | some .ret => K .ret
  | _ => false
noncomputable def endE (lim l : Nat) (M : Tr EB) (K : Ex → Tr EB → Bool) : Bool :=
  Bool.rec false (loopE M l (fun st pend n F ps as body dr => match st with
    | .busy => false
    | _ => M.setK (.loop .exhausted pend n F ps as body dr) (psOf l) (fun M' => jumpE pend (fun e => K e M')))) (Nat.ble lim l)

noncomputable def runC (ev : Ev) (lim : Nat) (c : IR) : (Ex → St → Bool) → St → Bool :=
  IR.rec (motive := fun _ => (Ex → St → Bool) → St → Bool)
    (fun k s => k .normal s)
    (fun l k s => runOps ev lim l s.F s.M s.n (fun s => k .normal s))
    (fun _ _ ia ib k s => ia (fun e s => Ex.rec (ib k s) (fun i => k (.exit i) s) (k .ret s) e) s)
    (fun c _ _ ia ib k s => gv c s.F (fun v => match v with | .bool t => Bool.rec (ib k s) (ia k s) t | _ => false))
    (fun id _ ia k s => ia (fun e s => Ex.rec (k .normal s) (fun i => Bool.rec (k (.exit i) s) (k .normal s) (Nat.beq i id)) (k .ret s) e) s)
    (fun _ ia k s => Nat.rec (motive := fun _ => St → Bool) (fun _ => false) (fun _ ih s => ia (fun e s => Ex.rec (ih s) (fun i => k (.exit i) s) (k .ret s) e) s) ev.fu s)
    (fun f n ps as body dr k s => gv f s.F (fun v => match v with
      | .func (.func g) first captured => allocE s.M s.n (.loop .ready none n s.F ps as body dr) (fun l M m =>
          lapp first.toList (.func (.yield l) #[] #[] :: captured.toList) (fun args => ev.call lim g args M m (fun _ M m => endE lim l M (fun e M => k e ⟨s.F, M, m⟩))))
      | _ => false))
    (fun id k s => k (.exit id) s)
    (fun k s => k .ret s)
    (fun _ _ => false) c

noncomputable def resE (E : Env) (F : Tr Value) (M : Tr EB) (l : List ResultVar) (K : List Value → Bool) : Bool :=
  List.rec (motive := fun _ => (List Value → Bool) → Bool) (fun K => K [])
    (fun r _ ih K => match r with
      | .tmp t => F.getK (fun v => ih (fun vs => K (v :: vs))) (psOf t)
      | .cell a t => match tget E.T t with
        | some i => F.getK (fun v => match v with
          | .pointer (some ⟨b, o, none⟩) => cellsE M b (fun _ vs => Bool.rec (lget (fun v => ih (fun us => K (v :: us))) vs o) (lseg vs o i.size (fun seg => ih (fun us => K (.agg ⟨seg⟩ :: us)))) i.kind.agg)
          | _ => false) (psOf a)
        | none => false) l K

structure FI where
  nt : Nat
  res : List ResultVar
  code : Code
  dr : DT

noncomputable def argE (args : List Value) (F : Tr Value) (i : Nat) (K : Tr Value → Bool) : Bool :=
  List.rec (motive := fun _ => Tr Value → Nat → (Tr Value → Bool) → Bool) (fun F _ K => K F) (fun v _ ih F i K => F.setK v (psOf i) (fun F' => ih F' (Nat.succ i) K)) args F i K

noncomputable def callB (FN : Tr FI) (E : Env) (ev : Ev) (lim f : Nat) (args : List Value) (M : Tr EB) (n : Nat) (K : HK) : Bool :=
  FN.getK (fun fi => Bool.rec false (argE args .e Nat.zero (fun F => runC ev lim (comp E fi.dr fi.nt false fi.code)
    (fun e s => Ex.rec (resE E s.F s.M fi.res (fun vs => K (resV vs) s.M s.n)) (fun _ => false) (resE E s.F s.M fi.res (fun vs => K (resV vs) s.M s.n)) e) ⟨F, M, n⟩)) (Nat.ble (llen args) fi.nt)) (psOf f)

noncomputable def bindE (n : Nat) (ps : List Tmp) (vs : List Value) (F : Tr Value) (K : Tr Value → Bool) : Bool :=
  List.rec (motive := fun _ => List Value → Tr Value → (Tr Value → Bool) → Bool) (fun vs F K => List.rec (K F) (fun _ _ _ => false) vs)
    (fun p _ ih vs F K => List.rec false (fun v vs _ => Bool.rec false (F.setK v (psOf p) (fun F' => ih vs F' K)) (Nat.blt p n)) vs) ps vs F K

noncomputable def turnE (lim l : Nat) (st : LoopState) (pend : Option Code) (M : Tr EB) (K : Tr EB → Bool) : Bool :=
  Bool.rec false (loopE M l (fun _ _ n F ps as body dr => M.setK (.loop st pend n F ps as body dr) (psOf l) K)) (Nat.ble lim l)

noncomputable def yldB (E : Env) (ev : Ev) (lim l : Nat) (args : List Value) (M : Tr EB) (n : Nat) (K : HK) : Bool :=
  Bool.rec false (loopE M l (fun _ _ nt F ps as body dr => bindE nt ps.toList args F (fun F' => runC ev lim (comp E dr nt true as)
    (fun e s => match e with
      | .normal => loopE s.M l (fun st pend _ _ _ _ _ _ => match st with
        | .ready => turnE lim l .busy pend s.M (fun M1 => runC ev lim (comp E dr nt true body) (fun e s => match e with
          | .normal => turnE lim l .ready none s.M (fun M2 => K (.bool true) M2 s.n)
          | .exit id => turnE lim l .done (some (.exit id)) s.M (fun M2 => K (.bool false) M2 s.n)
          | .ret => turnE lim l .done (some .ret) s.M (fun M2 => K (.bool false) M2 s.n)) ⟨s.F, M1, s.n⟩)
        | _ => false)
      | _ => false) ⟨F', M, n⟩))) (Nat.ble lim l)

noncomputable def evN (FN : Tr FI) (E : Env) (d : Nat) : Ev :=
  Nat.rec ⟨1000000, fun _ _ _ _ _ _ => false, fun _ _ _ _ _ _ => false⟩ (fun _ ih => ⟨1000000, callB FN E ih, yldB E ih⟩) d
end Go.Af
