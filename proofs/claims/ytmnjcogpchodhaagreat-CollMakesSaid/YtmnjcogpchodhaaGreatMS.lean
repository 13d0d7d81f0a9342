/- A part of the proof. -/
import Derived.Test.YtmnjcogpchodhaaGreatMDA
import Derived.Test.YtmnjcogpchodhaaGreatMB
import Derived.Test.YtmnjcogpchodhaaGreatProg
import Derived.KernelRfl
set_option linter.all false
namespace Go.Af
open Go
variable {rd:Bool}

def ents (kv:Nat->Value × Value) (p:List Nat):List MapEntry:=p.mapIdx fun i x=>⟨(kv x).1,(kv x).2,i⟩
theorem wH0 (kv:Nat->Value × Value) (p:List Nat) (x:Nat):ents kv (p ++ [x])=ents kv p ++ [⟨(kv x).1,(kv x).2,p.length⟩]:=by simp[ents,List.mapIdx_append]

def YR (P:Program) (T:TT) (n:Nat) (all:List Oper):List Nat->(List (Nat × Value)->Prop)->List (Nat × Value)->List Blk->Prop
 | [],K,sl,_=>K sl
 | i::r,K,sl,H=>match uf all i with
   | some o=>uB all o.guard sl (fun sl=>qC P T o.op sl H (fun v _=>putK n o.dst v sl (fun sl' => YR P T n all r K sl' H))) (fun sl=>putK n o.dst undef sl (fun sl' => YR P T n all r K sl' H))
   | none=>False
def YT (P:Program) (T:TT) (n:Nat) (all:List Oper) (A:List Blk):List Nat->(List (Nat × Value)->List Blk->Prop)->List (Nat × Value)->List Blk->Prop
 | [],K,sl,B=>K sl B
 | i::r,K,sl,B=>match uf all i with
   | some o => ∃ v B',(∀ (es:List MapEntry) (c:Nat),ZA P T o.op sl (A ++ .map true es c::B) (fun v' H' => v' = v/\H' = A ++ .map true es c::B'))/\putK n o.dst v sl (fun sl' => YT P T n all A r K sl' B')
   | none=>False

def qe0 (ops:Array Oper) (bf:Array Nat):List Nat->Array Bool->Bool
 | [],_=>true
 | i::r,listed=>(Region.ready .any ops listed).contains i &&
   (match ops[i]? with
    | none=>false
    | some oi=>uC oi.op && !zV oi.op&&(List.range ops.size).all fun j=>j == i||listed.getD j true||waitsFor bf j i||(match ops[j]? with | some oj=>oi.apart ops oj | none=>true)) &&
   qe0 ops bf r (listed.setIfInBounds i true)
def uI (l:Array Bool):List Nat->Array Bool
 | []=>l
 | i::r=>uI (l.setIfInBounds i true) r

def wv0 (P:Program) (T:TT) (all:List Oper) (N:List Nat) (dm:Nat) (kv:Nat->Value × Value) (slf:List (Nat × Value)):Prop :=
 ∀ x∈N, ∃ (o:Oper) (t kt et:Nat) (i:TI) (kx vx:Operand),all[x]? = some o/\o.op = .insert t (.tmp dm) kx vx/\tget T t=some i/\i.kind = .map kt et/\ev slf kx=some (kv x).1/\ev slf vx=some (kv x).2 /\
   (∀ K:Prop,K->keyK P T kt (kv x).1 K)/\∀ y∈N,y≠x->∀ (H:List Blk) (K:Bool->Prop),K false->keq P T H kt (kv x).1 (kv y).1 K

section
variable {P:Program} {T:TT} {all:List Oper} {bf:Array Nat} {n n0:Nat} {q:Nat->Bool} {Q:Act->World->Prop}

theorem XT (hT:TOk P T) (hc:Closed all.toArray bf) (hsel:Region.noSelect all.toArray=true) {K:List (Nat × Value)->Prop} {fuel:Nat} {H:List Blk} {m:LM} {w:World} :
 ∀ (σ : List Nat) (listed:Array Bool) (_:qe0 all.toArray bf σ listed=true) (_:DC bf listed) {sl:List (Nat × Value)} (_:YR P T n all σ K sl H) {aR:Act} (_:SRel m { n,sl } H aR w)
   (_ : ∀ (sl' : List (Nat × Value)) (aR' : Act),K sl' -> SRel m { n,sl:=sl' } H aR' w->aR'.defers=aR.defers->DC bf (uI listed σ)->sAny P all.toArray q Q fuel (uI listed σ) aR' w),
   sAny P all.toArray q Q (σ.length+fuel) listed aR w
 | [],listed,_,hdc,sl,h,aR,hs,hk=>by
   simp only[List.length_nil,Nat.zero_add];exact hk sl aR h hs rfl hdc
 | i::r,listed,hB,hdc,sl,h,aR,hs,hk=>by
   simp only[qe0,Bool.and_eq_true] at hB;obtain ⟨⟨hr,hall⟩,hB'⟩:=hB;have hr' : i∈Region.ready .any all.toArray listed:=by simpa using hr
   simp only[YR,yZ] at h
   cases ho:all[i]? with
   | none=>rw[ho] at h;exact h.elim
   | some o =>
     rw[ho] at h;have ho' : all.toArray[i]? = some o:=by simpa using ho
     simp only[ho',List.all_eq_true,List.mem_range,Bool.or_eq_true,beq_iff_eq,Bool.and_eq_true,Bool.not_eq_true'] at hall;obtain ⟨⟨hv,hnr⟩,hall⟩:=hall;have hdc' := Wh hc hdc hr';obtain ⟨sl',hsl,hg⟩:=yf (aR:=aR) h hs.sl o rfl;rw[List.length_cons,Nat.add_right_comm]
     have hfree : ∀ j oj,all.toArray[j]? = some oj->j≠i->listed.getD j true=false->waitsFor bf j i=false->o.apart all.toArray oj=true/\(zV o.op=true->q j=true):=fun j oj hj hne hun hno=>by
      have h1:=hall j (Array.getElem?_eq_some_iff.1 hj).1;simp only[hne,false_or,hun,hno,hj,Bool.false_eq_true] at h1;exact⟨h1,fun hx=>by rw[hnr] at hx;cases hx⟩
     have go : ∀ {v vR:Value},putK n o.dst v sl' (fun sl'' => YR P T n all r K sl'' H)->VRel m v vR->sAny P all.toArray q Q (r.length+fuel) (listed.setIfInBounds i true) (aR.put o.dst vR) w:=by
      intro v vR hk' hv;obtain ⟨sl2,hk2,hs2,hn2,hd2⟩:=xO (aR:=aR) hk' hsl hs.n hv;exact XT hT hc hsel r _ hB' hdc' hk2 ⟨hn2,hs2,by rw[hd2];exact hs.df,hs.heap⟩ (fun sl3 aR3 k1 k2 k3 k4=>hk sl3 aR3 k1 k2 (k3.trans hd2) k4)
     rcases hg with ⟨hw,hg⟩ | ⟨hw,hg⟩
     ·obtain ⟨hV,hd⟩:=yL hT hv hg
      obtain ⟨v,vR,h1,h2,h3⟩:=hV m aR w hsl hs.heap;exact xJ hc ho' (Region.noSelect_spec hsel) _ _ _ _ hdc hfree hr' (.inl ⟨hw,hd,h2⟩) (go h1 h3)
     ·exact xJ hc ho' (Region.noSelect_spec hsel) _ _ _ _ hdc hfree hr' (.inr ⟨hw,rfl⟩) (go hg (VRel.plain m 6 _ rfl))

theorem Vy {A:List Blk} {K:List (Nat × Value)->List Blk->Prop} : ∀ (F:List Nat) {sl:List (Nat × Value)} {B:List Blk} (_:YT P T n all A F K sl B),
 ∃ slf Bf,K slf Bf/\∀ t,(∀ i∈F, ∀ o,all[i]? = some o->o.dst≠some t)->look slf t=look sl t
 | [],sl,B,h=>⟨sl,B,h,fun _ _=>rfl⟩
 | i::r,sl,B,h=>by
   simp only[YT,yZ] at h
   cases ho:all[i]? with
   | none=>rw[ho] at h;exact h.elim
   | some o =>
     rw[ho] at h;obtain ⟨v,B',_,h⟩:=h;simp only[putK] at h;split at h
     ·obtain ⟨slf,Bf,h1,h2⟩:=Vy r h
      exact⟨slf,Bf,h1,fun t ht=>h2 t (fun j hj=>ht j (List.mem_cons_of_mem _ hj))⟩
     ·rename_i d hd
      split at h
      ·obtain ⟨slf,Bf,h1,h2⟩:=Vy r h
       refine⟨slf,Bf,h1,fun t ht=>?_⟩;rw[h2 t (fun j hj=>ht j (List.mem_cons_of_mem _ hj))];have hne:d≠t:=fun e=>ht i (List.mem_cons_self ..) o ho (by rw[hd,e])
       simp only[look]
       cases hb:Nat.beq d t with
       | true=>exact absurd (Nat.eq_of_beq_eq_true hb) hne
       | false=>rfl
      ·exact h.elim

theorem ZP {H:List Blk} {kt:Nat} {k:Value} {K:Option Nat->Prop} (hK:K none) : ∀ (l:List MapEntry) (i:Nat) (_ : ∀ e∈l, ∀ K:Bool->Prop,K false->keq P T H kt k e.key K),wE P T H kt k l i K
 | [],_,_=>hK
 | e::l,i,h=>by
   simp only[wE];exact h e (List.mem_cons_self ..) _ (ZP hK l (i+1) fun e he=>h e (List.mem_cons_of_mem _ he))
theorem xK0 {kv:Nat->Value × Value} {p:List Nat} {e:MapEntry} (h:e∈ents kv p) : ∃ x∈p,e.key=(kv x).1/\e.val=(kv x).2:=by
 simp only[ents,List.mem_mapIdx] at h;obtain ⟨i,hi,rfl⟩:=h;exact⟨p[i],List.getElem_mem hi,rfl,rfl⟩

theorem uC0 {dst:Option Tmp} {v:Value} {sl:List (Nat × Value)} {K:List (Nat × Value)->Prop} {dm:Nat} (h:putK n dst v sl K) (hd:dst≠some dm) (hl:look sl dm=none):putK n dst v sl (fun sl' => K sl' /\ look sl' dm=none):=by
 cases dst with
 | none=>exact⟨h,hl⟩
 | some d =>
   have hne:d≠dm:=fun e=>hd (by rw[e])
   have hl2:look ((d,v)::sl) dm=none:=by
    simp only[look]
    cases hb:Nat.beq d dm with
    | true=>exact absurd (Nat.eq_of_beq_eq_true hb) hne
    | false=>exact hl
   simp only[putK] at h ⊢
   cases hb:Nat.blt d n with
   | true=>rw[hb] at h;exact⟨h,hl2⟩
   | false=>rw[hb] at h;exact h.elim

structure StJ (all:List Oper) (bf:Array Nat) (n mk dm:Nat) (F N tl L2:List Nat):Prop where
 mko : ∃ o t,all[mk]? = some o/\o.op = .makeMap t none/\o.guard=none/\o.dst=some dm
 dmn:dm<n
 fo : ∀ i∈F, ∃ o,all[i]? = some o/\o.guard=none/\o.dst≠some dm
 fw:F.Pairwise (fun i j=>waitsFor bf j i=true/\j≠i)
 no : ∀ x∈N, ∃ (o:Oper) (kx vx:Operand) (t:Nat),all[x]? = some o/\o.guard=none/\o.dst=none/\o.op = .insert t (.tmp dm) kx vx/\waitsFor bf x mk=true/\∀ u,(kx = .tmp u\/vx = .tmp u)->u≠dm/\∀ i∈F, ∀ oi,all[i]? = some oi->oi.dst=some u->waitsFor bf x i=true
 tw : ∀ t∈tl, ∀ i,(i∈F\/i=mk\/i∈N)->waitsFor bf t i=true
 ord:OrdL all L2
 mem : ∀ i,(i∈F\/i=mk\/i∈N)->i∈L2
 mf:mk ∉ F
 mn:mk ∉ N
 fn : ∀ i∈F,i ∉ N
 nt : ∀ i,(i∈F\/i=mk\/i∈N)->i ∉ tl

structure DrJ (P:Program) (T:TT) (all:List Oper) (bf:Array Nat) (n n0:Nat) (m0:LM) (H0:List Blk) (w0:World) (dfs:List Deferred) (A:List Blk) (dm mk:Nat) (N tl:List Nat) (kv:Nat->Value × Value) (K:List (Nat × Value)->List Blk->Prop)
 (Fs:List Nat) (sl:List (Nat × Value)) (B:List Blk) (listed:Array Bool) (done:List Nat) (m:LM) (aR:Act) (w:World):Prop where
 size:listed.size=all.length
 dl:DC bf listed
 un : ∀ i,i<all.length->listed.getD i true=false->i∈Fs\/i=mk\/i∈N\/i∈tl
 fu : ∀ i∈Fs,listed.getD i true=false
 tu : ∀ i∈tl,listed.getD i true=false
 dn : ∀ i,i∈done↔i∈N/\listed.getD i true=true
 nd:done.Nodup
 vo:YT P T n all A Fs K sl B
 sd:look sl dm=none
 rel:SRel m { n,sl } (A ++ .map true (ents kv done) done.length::B) aR w
 mk0:listed.getD mk true=false->m A.length=none
 mk1:listed.getD mk true=true->∃ vR,aR.tmps[dm]? = some vR/\VRel m (.map (some A.length)) vR
 fr:Fr n0 m0 H0 w0 m (A ++ .map true (ents kv done) done.length::B) w
 len:n0<=A.length
 df:aR.defers=dfs

variable {m0:LM} {H0:List Blk} {w0:World} {dfs:List Deferred} {A:List Blk} {dm mk:Nat} {F N tl L2:List Nat} {kv:Nat->Value × Value} {K:List (Nat × Value)->List Blk->Prop} {Fs:List Nat} {sl:List (Nat × Value)} {B:List Blk} {listed:Array Bool} {done:List Nat} {m:LM} {aR:Act} {w:World}

theorem DrJ.call (hT:TOk P T) (hc:Closed all.toArray bf) (hS:StJ all bf n mk dm F N tl L2) (hF : ∀ i∈Fs,i∈F) {f:Nat} {r:List Nat} (hFs:Fs=f::r) (hp:Fs.Pairwise (fun i j=>waitsFor bf j i=true/\j≠i))
 (hI:DrJ P T all bf n n0 m0 H0 w0 dfs A dm mk N tl kv K Fs sl B listed done m aR w) (hr:f∈Region.ready .any all.toArray listed)
 (h : ∀ sl' B' m' aR' w',DrJ P T all bf n n0 m0 H0 w0 dfs A dm mk N tl kv K r sl' B' (listed.setIfInBounds f true) done m' aR' w' -> Q aR' w'):sOp P all.toArray (fun _=>false) f Q aR w:=by
 subst hFs;have hfF:=hF f (List.mem_cons_self ..);obtain ⟨o,ho,hg,hdd⟩:=hS.fo f hfF;have ho' : all.toArray[f]? = some o:=by simpa using ho
 have vo:=hI.vo;simp only[YT,yZ,ho] at vo;obtain ⟨v,B',hcs,hput⟩:=vo;obtain ⟨hO,hd⟩:=ut hT (hcs (ents kv done) done.length);obtain ⟨nx,w1,h1,h2⟩:=hO m aR w hI.rel.sl hI.rel.heap;have hfl:f<listed.size:=xq hI.size ho;unfold sOp;simp only[ho'];have hw:Region.wanted o (yielded all.toArray aR.tmps)=true:=by simp[Region.wanted,hg]
 simp only[hw,if_true];refine⟨hd,nx,w1,h1,h2.mono fun vR w2 ⟨v',H2,m2,⟨e1,e2⟩,k2,k3,k4⟩=>⟨fun hq=>(by cases hq), ?_⟩⟩;subst e1;subst e2;have hle:=k4.le hI.rel.heap.dom;obtain ⟨sl2,⟨hk2,hsd2⟩,hs2,hn2,hd2⟩:=xO (aR:=aR) (uC0 hput hdd hI.sd) (hI.rel.sl.mono hle) hI.rel.n k2;have hmf:mk≠f:=fun e=>hS.mf (e ▸ hfF)
 have hkl:A.length<(A++Blk.map true (ents kv done) done.length::B).length:=by simp
 have hfw:=k4.weaken (n' := n0) (by simp;have:=hI.len;omega) (Nat.le_refl _);refine h sl2 B' m2 _ w2 ⟨by simpa using hI.size,Wh hc hI.dl hr,fun i hi hu=>?_,fun i hi=>?_,fun i hi=>?_,fun i=>?_,hI.nd,hk2,hsd2,⟨hn2,hs2,by rw[hd2];exact hI.rel.df.keep k4.keep,k3⟩,fun hu=>?_,fun hl=>?_,hI.fr.trans hfw,hI.len,hd2.trans hI.df⟩
 ·have hne:i≠f:=fun e=>by subst e;rw[ww hfl] at hu;cases hu
  rw[vW hne] at hu;rcases hI.un i hi hu with h | h
  ·exact .inl ((List.mem_cons.1 h).resolve_left hne)
  ·exact .inr h
 ·have hne:=((List.pairwise_cons.1 hp).1 i hi).2
  rw[vW hne];exact hI.fu i (List.mem_cons_of_mem _ hi)
 ·have hne:i≠f:=fun e=>hS.nt f (.inl hfF) (e ▸ hi)
  rw[vW hne];exact hI.tu i hi
 ·rw[hI.dn i]
  constructor
  ·rintro ⟨h1,h2⟩
   exact⟨h1,by rw[vW (show i≠f from fun e=>hS.fn f hfF (e ▸ h1))];exact h2⟩
  ·rintro ⟨h1,h2⟩
   exact⟨h1,by rw[vW (show i≠f from fun e=>hS.fn f hfF (e ▸ h1))] at h2;exact h2⟩
 ·rw[vW hmf] at hu;exact k4.base' _ hkl (hI.mk0 hu)
 ·rw[vW hmf] at hl
  obtain ⟨vR',g1,g2⟩:=hI.mk1 hl;exact⟨vR',by rw[vR0 _ _ _ _ hdd];exact g1,g2.mono hle⟩

theorem Ur {sl:List (Nat × Value)} {d t:Nat} {v:Value} (h:d≠t):look ((d,v)::sl) t=look sl t:=by
 simp only[look]
 cases hb:Nat.beq d t with
 | true=>exact absurd (Nat.eq_of_beq_eq_true hb) h
 | false=>rfl
theorem look_eq {sl:List (Nat × Value)} {d:Nat} {v:Value}:look ((d,v)::sl) d=some v:=by simp[look]

theorem DrJ.make (hT:TOk P T) (hc:Closed all.toArray bf) (hS:StJ all bf n mk dm F N tl L2) (hF : ∀ i∈Fs,i∈F) (ht : ∀ o,all[mk]? = some o->qC P T o.op [] A (fun v H' => v = .map (some A.length)/\H' = A ++ [.map true [] 0]))
 (hI:DrJ P T all bf n n0 m0 H0 w0 dfs A dm mk N tl kv K Fs sl B listed done m aR w) (hr:mk∈Region.ready .any all.toArray listed)
 (h : ∀ m' aR' w',DrJ P T all bf n n0 m0 H0 w0 dfs A dm mk N tl kv K Fs sl B (listed.setIfInBounds mk true) done m' aR' w' -> Q aR' w'):sOp P all.toArray (fun _=>false) mk Q aR w:=by
 obtain ⟨o,t,ho,hop,hg,hd⟩:=hS.mko;have ho' : all.toArray[mk]? = some o:=by simpa using ho
 have hu:=(mem_ready.1 hr).1;have hfl:mk<listed.size:=xq hI.size ho;have hm0:=hI.mk0 hu
 have hdone:done = []:=by
  cases done with
  | nil=>rfl
  | cons x r =>
    obtain ⟨h1,h2⟩:=(hI.dn x).1 (List.mem_cons_self ..);obtain ⟨ox,kx,vx,tx,g1,_,_,_,g5,_⟩:=hS.no x h1;have:=hI.dl x (by rw[<- VJ (xq hI.size g1)];exact h2) mk g5;rw[<- VJ hfl,hu] at this;cases this
 subst hdone;obtain ⟨v,H',⟨rfl,rfl⟩,hdf,hdet⟩:=uB0 hT (o:=o) (by rw[hop];rfl) (ht o ho);have hdet:=hdet _ rfl;obtain ⟨ob,l,vR,k1,kl,k2,k3⟩:=hdet m aR w (A++Blk.map true (ents kv []) ([]:List Nat).length::B) (fun s v hv=>by cases hv) hI.rel.heap hm0;have hHk:(A++Blk.map true (ents kv []) ([]:List Nat).length::B)[A.length]? = some (.map true [] 0):=by simp[ents]
 have hle:=LM.le_put (l:=l) hm0;have hff:=Fr.fill (n:=n0) (H:=A++Blk.map true (ents kv []) ([]:List Nat).length::B) (ob:=ob) hI.len hm0 kl;have hds:dm<aR.tmps.size:=by rw[hI.rel.n];exact hS.dmn
 unfold sOp;simp only[ho'];have hw:Region.wanted o (yielded all.toArray aR.tmps)=true:=by simp[Region.wanted,hg]
 simp only[hw,if_true];refine⟨hdf, .value vR,_,k1,fun hq=>(by cases hq), ?_⟩;rw[hd];refine h _ _ _ ⟨by simpa using hI.size,Wh hc hI.dl hr,fun i hi hu=>?_,fun i hi=>?_,fun i hi=>?_,fun i=>?_,hI.nd,hI.vo,hI.sd,⟨by rw[xc0];exact hI.rel.n,fun s u hs=>?_,by rw[put_defers];exact hI.rel.df.keep hff.keep,hI.rel.heap.fill hm0 hHk kl k2⟩,fun hu=>?_,fun _=>⟨vR,put_at _ _ _ hds,k3⟩,hI.fr.trans hff,hI.len,(put_defers _ _ _).trans hI.df⟩
 ·have hne:i≠mk:=fun e=>by subst e;rw[ww hfl] at hu;cases hu
  rw[vW hne] at hu;exact hI.un i hi hu
 ·have hne:i≠mk:=fun e=>hS.mf (e ▸ hF i hi)
  rw[vW hne];exact hI.fu i hi
 ·have hne:i≠mk:=fun e=>hS.nt mk (.inr (.inl rfl)) (e ▸ hi)
  rw[vW hne];exact hI.tu i hi
 ·rw[hI.dn i]
  constructor
  ·rintro ⟨h1,h2⟩
   exact⟨h1,by rw[vW (show i≠mk from fun e=>hS.mn (e ▸ h1))];exact h2⟩
  ·rintro ⟨h1,h2⟩
   exact⟨h1,by rw[vW (show i≠mk from fun e=>hS.mn (e ▸ h1))] at h2;exact h2⟩
 ·have hne:dm≠s:=fun e=>by subst e;rw[hI.sd] at hs;cases hs
  obtain ⟨v',g1,g2⟩:=hI.rel.sl s u hs;exact⟨v',by rw[vR0 _ _ _ _ (fun e=>hne (Option.some.inj e))];exact g1,g2.mono hle⟩
 ·rw[ww hfl] at hu;cases hu

theorem DrJ.ins (hT:TOk P T) (hc:Closed all.toArray bf) (hS:StJ all bf n mk dm F N tl L2) (hF : ∀ i∈Fs,i∈F) (hins : ∀ slf Bf,K slf Bf->wv0 P T all N dm kv slf)
 (hI:DrJ P T all bf n n0 m0 H0 w0 dfs A dm mk N tl kv K Fs sl B listed done m aR w) {x:Nat} (hx:x∈N) (hr:x∈Region.ready .any all.toArray listed)
 (h : ∀ m' aR' w',DrJ P T all bf n n0 m0 H0 w0 dfs A dm mk N tl kv K Fs sl B (listed.setIfInBounds x true) (done ++ [x]) m' aR' w' -> Q aR' w'):sOp P all.toArray (fun _=>false) x Q aR w:=by
 obtain ⟨o,kx,vx,t,ho,hg,hd,hop,hwm,hks⟩:=hS.no x hx;have ho' : all.toArray[x]? = some o:=by simpa using ho
 have hu:=(mem_ready.1 hr).1;have hfl:x<listed.size:=xq hI.size ho
 have hlm : ∀ i,waitsFor bf x i=true->∀ oi,all[i]? = some oi->listed.getD i true=true:=fun i hi oi hoi=>by
  rw[VJ (xq hI.size hoi)];exact Qe hc hI.dl hr hi
 obtain ⟨om,tm,hom,_⟩:=hS.mko;obtain ⟨vm,hvm1,hvm2⟩:=hI.mk1 (hlm mk hwm om hom);obtain ⟨slf,Bf,hK,hlook⟩:=Vy Fs hI.vo;obtain ⟨o2,t2,kt,et,i,kx2,vx2,e1,e2,hi,hik,hk1,hk2,hkk,hkn⟩:=hins slf Bf hK x hx;rw[ho] at e1;cases e1;rw[hop] at e2;cases e2
 have hev : ∀ y,(y=kx\/y=vx)->∀ v,ev slf y=some v->ev ((dm, .map (some A.length))::sl) y=some v:=by
  intro y hy v hv
  cases y with
  | tmp u =>
    obtain ⟨g1,g2⟩:=hks u (hy.imp (·.symm) (·.symm));simp only[ev] at hv ⊢;rw[Ur (Ne.symm g1),<- hlook u]
    ·exact hv
    ·intro j hj oj hoj hdj
     have:=hlm j (g2 j (hF j hj) oj hoj hdj) oj hoj;rw[hI.fu j hj] at this;cases this
  | _=>exact hv
 have hsl:zx m ((dm, .map (some A.length))::sl) aR.tmps:=by
  intro s u hs;by_cases e:dm=s
  ·subst e;rw[look_eq] at hs;cases hs;exact⟨vm,hvm1,hvm2⟩
  ·rw[Ur e] at hs;exact hI.rel.sl s u hs
 have hast:qC P T o.op ((dm, .map (some A.length))::sl) (A++Blk.map true (ents kv done) done.length::B) (fun v H' => v=undef/\H' = A++Blk.map true (ents kv (done ++ [x])) (done ++ [x]).length::B):=by
  rw[hop];have hb:bget (A++Blk.map true (ents kv done) done.length::B) A.length=some (.map true (ents kv done) done.length):=by rw[qV];simp
  simp only[qC,xG,mupd,hi,hik,hev kx (.inl rfl) _ hk1,hev vx (.inr rfl) _ hk2];simp only[ev,look_eq];refine Qa hb (hkk _ (ZP ?_ _ _ ?_))
  ·show zt _ _ _ _
   rw[qP];refine⟨?_, ?_⟩
   ·first | rfl | trivial
   ·rw[wH0];simp
  ·intro e he K' hK'
   obtain ⟨y,hy,e1,_⟩:=xK0 he;rw[e1];obtain ⟨y1,y2⟩:=(hI.dn y).1 hy;exact hkn y y1 (fun e=>by subst e;rw[hu] at y2;cases y2) _ K' hK'
 obtain ⟨hO,hdf⟩:=QM hT hast;obtain ⟨nx,w1,h1,h2⟩:=hO m aR w hsl hI.rel.heap;unfold sOp;simp only[ho'];have hw:Region.wanted o (yielded all.toArray aR.tmps)=true:=by simp[Region.wanted,hg]
 simp only[hw,if_true];refine⟨hdf,nx,w1,h1,h2.mono fun vR w2 ⟨v',H2,m2,⟨e1,e2⟩,k2,k3,k4⟩=>⟨fun hq=>(by cases hq), ?_⟩⟩;subst e2;have hle:=k4.le hI.rel.heap.dom;have hfw:=k4.weaken (n' := n0) (by simp;have:=hI.len;omega) (Nat.le_refl _);have hmx:mk≠x:=fun e=>hS.mn (e ▸ hx)
 have hput:aR.put o.dst vR=aR:=by rw[hd];rfl
 rw[hput];refine h m2 aR w2 ⟨by simpa using hI.size,Wh hc hI.dl hr,fun j hj hu' => ?_,fun j hj=>?_,fun j hj=>?_,fun j=>?_, ?_,hI.vo,hI.sd,⟨hI.rel.n,hI.rel.sl.mono hle,hI.rel.df.keep k4.keep,k3⟩,fun hu' => ?_,fun hl=>⟨vm,hvm1,hvm2.mono hle⟩,hI.fr.trans hfw,hI.len,hI.df⟩
 ·have hne:j≠x:=fun e=>by subst e;rw[ww hfl] at hu'; cases hu'
  rw[vW hne] at hu';exact hI.un j hj hu'
 ·have hne:j≠x:=fun e=>hS.fn j (hF j hj) (e ▸ hx)
  rw[vW hne];exact hI.fu j hj
 ·have hne:j≠x:=fun e=>hS.nt x (.inr (.inr hx)) (e ▸ hj)
  rw[vW hne];exact hI.tu j hj
 ·rw[List.mem_append,List.mem_singleton,hI.dn j]
  by_cases hne:j=x
  ·subst hne
   exact⟨fun _=>⟨hx,ww hfl⟩,fun _=>.inr rfl⟩
  ·rw[vW hne]
   exact⟨fun h=>h.resolve_right hne, .inl⟩
 ·rw[List.nodup_append]
  refine⟨hI.nd,by simp,fun a ha b hb=>?_⟩;rw[List.mem_singleton] at hb;subst hb;intro e;subst e;have:=((hI.dn a).1 ha).2;rw[hu] at this;cases this
 ·rw[vW hmx] at hu'
  have:=hlm mk hwm om hom;rw[hu'] at this;cases this

theorem Yc : ∀ {fuel:Nat} {listed:Array Bool} {aR:Act} {w:World} (_:sAny P all.toArray q Q fuel listed aR w),sAny P all.toArray q Q (fuel+1) listed aR w
 | 0,listed,aR,w,h=>⟨fun _=>h.2,fun i hi=>by rw[h.1] at hi;cases hi⟩
 | fuel+1,listed,aR,w,h=>⟨h.1,fun i hi=>zX0 (fun a w h=>Yc h) (h.2 i hi)⟩
theorem Ua {fuel fuel' : Nat} (hf:fuel<=fuel') {listed:Array Bool} {aR:Act} {w:World} (h:sAny P all.toArray q Q fuel listed aR w):sAny P all.toArray q Q fuel' listed aR w:=by
 induction hf with
 | refl=>exact h
 | step _ ih=>exact Yc ih

def remJ (mk:Nat) (N Fs:List Nat) (listed:Array Bool):Nat:=Fs.length+(if listed.getD mk true=true then 0 else 1)+(N.filter (fun x => !(listed.getD x true))).length

theorem DrJ.last (hS:StJ all bf n mk dm F N tl L2) {fe:Nat}
 (hend : ∀ (slf:List (Nat × Value)) (Bf:List Blk) (p:List Nat) (listed:Array Bool) (m:LM) (aR:Act) (w:World),K slf Bf->p.Nodup->(∀ x,x∈p↔x∈N)->listed.size=all.length->(∀ i,i<all.length->listed.getD i true=false->i∈tl)->(∀ i∈tl,listed.getD i true=false)->DC bf listed ->
   SRel m { n,sl:=(dm, .map (some A.length))::slf } (A ++ .map true (ents kv p) p.length::Bf) aR w->Fr n0 m0 H0 w0 m (A ++ .map true (ents kv p) p.length::Bf) w->aR.defers=dfs->sAny P all.toArray (fun _=>false) Q fe listed aR w)
 (hI:DrJ P T all bf n n0 m0 H0 w0 dfs A dm mk N tl kv K Fs sl B listed done m aR w) (h0:remJ mk N Fs listed=0):sAny P all.toArray (fun _=>false) Q fe listed aR w:=by
 unfold remJ at h0;have hFs:Fs = []:=List.eq_nil_of_length_eq_zero (by omega);subst hFs
 have hmk:listed.getD mk true=true:=by
  cases h:listed.getD mk true with
  | true=>rfl
  | false=>rw[h] at h0;simp at h0
 have hN : ∀ x∈N,listed.getD x true=true:=by
  intro x hx;have h1:N.filter (fun x => !(listed.getD x true)) = []:=List.eq_nil_of_length_eq_zero (by omega);rw[List.filter_eq_nil_iff] at h1;have:=h1 x hx
  simpa using this
 obtain ⟨vm,hvm1,hvm2⟩:=hI.mk1 hmk;refine hend sl B done listed m aR w hI.vo hI.nd (fun x=>⟨fun h=>((hI.dn x).1 h).1,fun h=>(hI.dn x).2 ⟨h,hN x h⟩⟩) hI.size (fun i hi hu=>?_) hI.tu hI.dl ⟨hI.rel.n, ?_,hI.rel.df,hI.rel.heap⟩ hI.fr hI.df
 ·rcases hI.un i hi hu with h | rfl | h | h
  ·cases h
  ·rw[hmk] at hu;cases hu
  ·rw[hN i h] at hu;cases hu
  ·exact h
 ·intro s u hs
  by_cases e:dm=s
  ·subst e;rw[look_eq] at hs;cases hs;exact⟨vm,hvm1,hvm2⟩
  ·rw[Ur e] at hs;exact hI.rel.sl s u hs

theorem DrJ.any (hT:TOk P T) (hc:Closed all.toArray bf) (hS:StJ all bf n mk dm F N tl L2) (ht : ∀ o,all[mk]? = some o->qC P T o.op [] A (fun v H' => v = .map (some A.length)/\H' = A ++ [.map true [] 0])) (hins : ∀ slf Bf,K slf Bf->wv0 P T all N dm kv slf) {fe:Nat}
 (hend : ∀ (slf:List (Nat × Value)) (Bf:List Blk) (p:List Nat) (listed:Array Bool) (m:LM) (aR:Act) (w:World),K slf Bf->p.Nodup->(∀ x,x∈p↔x∈N)->listed.size=all.length->(∀ i,i<all.length->listed.getD i true=false->i∈tl)->(∀ i∈tl,listed.getD i true=false)->DC bf listed ->
   SRel m { n,sl:=(dm, .map (some A.length))::slf } (A ++ .map true (ents kv p) p.length::Bf) aR w->Fr n0 m0 H0 w0 m (A ++ .map true (ents kv p) p.length::Bf) w->aR.defers=dfs->sAny P all.toArray (fun _=>false) Q fe listed aR w) :
 ∀ (fuel:Nat) {Fs:List Nat} {sl:List (Nat × Value)} {B:List Blk} {listed:Array Bool} {done:List Nat} {m:LM} {aR:Act} {w:World} (_ : ∀ i∈Fs,i∈F) (_:Fs.Pairwise (fun i j=>waitsFor bf j i=true/\j≠i)) (_:DrJ P T all bf n n0 m0 H0 w0 dfs A dm mk N tl kv K Fs sl B listed done m aR w) (_:remJ mk N Fs listed+fe<=fuel),
   sAny P all.toArray (fun _=>false) Q fuel listed aR w:=by
 intro fuel
 induction fuel with
 | zero =>
   intro Fs sl B listed done m aR w hF hp hI hle;exact Ua (Nat.le_trans (Nat.le_add_left _ _) hle) (hI.last hS hend (by omega))
 | succ fuel ih =>
   intro Fs sl B listed done m aR w hF hp hI hle;by_cases h0:remJ mk N Fs listed=0
   ·exact Ua (Nat.le_trans (Nat.le_add_left _ _) hle) (hI.last hS hend h0)
   -- something is left
   have hex : ∃ i,(i∈F\/i=mk\/i∈N)/\listed.getD i true=false:=by
    unfold remJ at h0
    cases Fs with
    | cons f r=>exact⟨f, .inl (hF f (List.mem_cons_self ..)),hI.fu f (List.mem_cons_self ..)⟩
    | nil =>
      cases hm:listed.getD mk true with
      | false=>exact⟨mk, .inr (.inl rfl),hm⟩
      | true =>
        rw[hm] at h0;simp only[List.length_nil,if_true,Nat.zero_add] at h0;obtain ⟨x,hx⟩:=List.exists_mem_of_length_pos (Nat.pos_of_ne_zero h0);rw[List.mem_filter] at hx;exact⟨x, .inr (.inr hx.1),by simpa using hx.2⟩
   obtain ⟨i0,hi0,hu0⟩:=hex;obtain ⟨o0,ho0⟩:=hS.ord.op (hS.mem i0 hi0);refine⟨fun hnr=>?_,fun j hj=>?_⟩
   ·obtain ⟨j,_,hj⟩:=OrdL.first hI.size hS.ord ⟨i0,hS.mem i0 hi0,hu0⟩
    rw[hnr] at hj;cases hj
   ·obtain ⟨hju,o,hjo,_⟩:=mem_ready.1 hj
    have hjo:all[j]? = some o:=by simpa using hjo
    have hjl:=(List.getElem?_eq_some_iff.1 hjo).1;have hjs:j<listed.size:=xq hI.size hjo
    have hfl : ∀ L:List Nat,(L.filter (fun x => !((listed.setIfInBounds j true).getD x true))).length<=(L.filter (fun x => !(listed.getD x true))).length:=by
     intro L
     induction L with
     | nil=>simp
     | cons a L ihL =>
       simp only[List.filter_cons];by_cases e:a=j
       ·subst e;rw[ww hjs,hju];simp only[Bool.not_true,Bool.false_eq_true,if_false,Bool.not_false,if_true,List.length_cons];omega
       ·rw[vW e];cases listed.getD a true with
        | true=>exact ihL
        | false=>simp only[Bool.not_false,if_true,List.length_cons];omega
    rcases hI.un j hjl hju with h | rfl | h | h
    ·cases Fs with
     | nil=>cases h
     | cons f r =>
       have hjf:j=f:=by
        rcases List.mem_cons.1 h with e | e
        ·exact e
        ·have:=Qe hc hI.dl hj ((List.pairwise_cons.1 hp).1 j e).1
         obtain ⟨of,hof,_⟩:=hS.fo f (hF f (List.mem_cons_self ..));rw[<- VJ (xq hI.size hof),hI.fu f (List.mem_cons_self ..)] at this;cases this
       subst hjf;refine hI.call hT hc hS hF rfl hp hj fun sl' B' m' aR' w' hI' => ih (fun i hi=>hF i (List.mem_cons_of_mem _ hi)) (List.pairwise_cons.1 hp).2 hI' ?_
       unfold remJ at hle ⊢;have hmj:mk≠j:=fun e=>hS.mf (e ▸ hF j (List.mem_cons_self ..))
       rw[vW hmj];have:=hfl N;simp only[List.length_cons] at hle;omega
    ·refine hI.make hT hc hS hF ht hj fun m' aR' w' hI' => ih hF hp hI' ?_
     unfold remJ at hle ⊢;rw[ww hjs,if_pos rfl];rw[hju] at hle;simp only[Bool.false_eq_true,if_false] at hle;have:=hfl N;omega
    ·refine hI.ins hT hc hS hF hins h hj fun m' aR' w' hI' => ih hF hp hI' ?_
     unfold remJ at hle ⊢;have hmj:mk≠j:=fun e=>hS.mn (e ▸ h)
     rw[vW hmj]
     have:=wC0 (p:=fun x => !(listed.getD x true)) (q:=fun x => !((listed.setIfInBounds j true).getD x true)) h (by simp only[hju];rfl) (by simp only[ww hjs];rfl) (fun i hi=>by
      by_cases e:i=j
      ·subst e;simp only[hju];rfl
      ·rw[vW e] at hi;exact hi)
     omega
    ·have:=Qe hc hI.dl hj (hS.tw j h i0 hi0)
     rw[<- VJ (xq hI.size ho0),hu0] at this;cases this

/-! ### The computation -/
def dstIs (ops:Array Oper) (i d:Nat):Bool:=match ops[i]? with | some o=>o.dst == some d | none=>false
def qf0 (ops:Array Oper) (bf:Array Nat) (dm x:Nat) (F:List Nat):Operand->Bool
 | .tmp u=>u != dm&&F.all (fun i => !dstIs ops i u||waitsFor bf x i)
 | _=>true
def xe0 (bf:Array Nat):List Nat->Bool
 | []=>true
 | i::r=>r.all (fun j=>waitsFor bf j i&&j != i)&&xe0 bf r
def ordB (ops:Array Oper):List Nat->Bool
 | []=>true
 | i::r=>(match ops[i]? with | some o=>o.after.all (fun e => !Region.binds .any e||r.contains e.on) | none=>false)&&ordB ops r
def litB (ops:Array Oper) (bf:Array Nat) (n mk dm:Nat) (F N σ1 σ3 L2:List Nat):Bool :=
 Region.noSelect ops&&QK ops bf&&qe0 ops bf σ1 (Array.replicate ops.size false) &&
 (match ops[mk]? with | some o=>(match o.op with | .makeMap _ none=>true | _=>false)&&o.guard.isNone&&o.dst == some dm | none=>false)&&Nat.blt dm n &&
 F.all (fun i=>match ops[i]? with | some o=>o.guard.isNone&&o.dst != some dm | none=>false)&&xe0 bf F &&
 N.all (fun x=>match ops[x]? with
   | some o=>o.guard.isNone&&o.dst.isNone&&waitsFor bf x mk&&(match o.op with
     | .insert _ (.tmp d) kx vx=>d == dm&&qf0 ops bf dm x F kx&&qf0 ops bf dm x F vx
     | _=>false)
   | none=>false) &&
 σ3.all (fun t=>(mk::(F++N)).all (fun i=>waitsFor bf t i))&&ordB ops L2&&(mk::(F++N)).all (fun i=>L2.contains i) &&
 !F.contains mk && !N.contains mk&&F.all (fun i => !N.contains i)&&(mk::(F++N)).all (fun i => !σ3.contains i) &&
 (List.range ops.size).all (fun i=>σ1.contains i||F.contains i||i == mk||N.contains i || σ3.contains i) &&
 σ1.all (fun i => !((mk::(F++N)).contains i || σ3.contains i)) && σ3.all (fun i=>Nat.blt i ops.size) &&
 Va ops bf (fun _=>false) σ3 ((List.range ops.size).map (fun i => !σ3.contains i)).toArray&&Nat.ble (σ1.length+(F.length+1+N.length + σ3.length)) ops.size

theorem VD {bf:Array Nat} : ∀ {F:List Nat} (_:xe0 bf F=true),F.Pairwise (fun i j=>waitsFor bf j i=true/\j≠i)
 | [],_=>.nil
 | i::r,h=>by
   simp only[xe0,Bool.and_eq_true,List.all_eq_true] at h;refine .cons (fun j hj=>?_) (VD h.2);have:=h.1 j hj;exact⟨this.1,by simpa using this.2⟩
theorem Yk {all:List Oper} : ∀ {L:List Nat} (_:ordB all.toArray L=true),OrdL all L
 | [],_=>trivial
 | i::r,h=>by
   simp only[ordB,Bool.and_eq_true] at h;obtain ⟨h1,h2⟩:=h;refine⟨?_,Yk h2⟩
   cases ho:all[i]? with
   | none=>simp[ho] at h1
   | some o =>
     have ho' : all.toArray[i]? = some o:=by simpa using ho
     simp only[ho',Array.all_eq_true_iff_forall_mem] at h1;refine⟨o,rfl,fun e he hb=>?_⟩;have:=h1 e he
     simpa [hb] using this
theorem WO : ∀ (σ : List Nat) (l:Array Bool),(uI l σ).size=l.size
 | [],_=>rfl
 | i::r,l=>by simp[uI,WO r]
theorem ZJ : ∀ (σ : List Nat) (l:Array Bool) (i:Nat),i<l.size->(uI l σ).getD i true=(σ.contains i||l.getD i true)
 | [],l,i,h=>by simp[uI]
 | j::r,l,i,h=>by
   simp only[uI];rw[ZJ r _ i (by simpa using h)];by_cases e:i=j
   ·subst e;rw[ww h];simp
   ·rw[vW e]
    have:(j::r).contains i=r.contains i:=by simp[e]
    rw[this]
theorem Zb {all:List Oper} {bf:Array Nat} {dm x u:Nat} {F:List Nat} (h:qf0 all.toArray bf dm x F (.tmp u)=true):u≠dm/\∀ i∈F, ∀ oi,all[i]? = some oi->oi.dst=some u->waitsFor bf x i=true:=by
 simp only[qf0,Bool.and_eq_true,List.all_eq_true,bne_iff_ne] at h;refine⟨h.1,fun i hi oi hoi hd=>?_⟩;have:=h.2 i hi;simp only[dstIs,show all.toArray[i]? = some oi by simpa using hoi,hd] at this
 simpa using this

theorem zj0 (hT:TOk P T) (hm:P.follows .mixedOrders=true) {n0:Nat} {Q:Ex->AF->List Blk->Prop} {a:AF} {H:List Blk} {id:Nat} {ops:List Oper} (bf:List Nat) (mk dm:Nat) (F N σ1 σ3 L2:List Nat) (kv:Nat->Value × Value) (hB:litB ops.toArray bf.toArray a.n mk dm F N σ1 σ3 L2=true)
 (ht : ∀ o,ops[mk]? = some o->qC P T o.op [] H (fun v H' => v = .map (some H.length)/\H' = H ++ [.map true [] 0]))
 (h:YR P T a.n ops σ1 (fun sl=>look sl dm=none/\YT P T a.n ops H F (fun slf Bf=>wv0 P T ops N dm kv slf/\∀ p:List Nat,p.Nodup->(∀ x,x∈p↔x∈N)->Qx P T a.n ops [] σ3 (fun sl H=>Q .normal { n:=a.n,sl:=sl } H) ((dm, .map (some H.length))::slf) (H ++ .map true (ents kv p) p.length::Bf)) sl []) a.sl H) :
 awp P rd n0 (.region id ops.toArray true) Q a H:=by
 intro hn m aR w hs b k cs hb;simp only[litB,Bool.and_eq_true,Bool.not_eq_true'] at hB;obtain ⟨⟨⟨⟨⟨⟨⟨⟨⟨⟨⟨⟨⟨⟨⟨⟨⟨⟨⟨b1,b2⟩,b3⟩,b4⟩,b5⟩,b6⟩,b7⟩,b8⟩,b9⟩,b10⟩,b11⟩,b12⟩,b13⟩,b14⟩,b15⟩,b16⟩,b17⟩,b18⟩,b19⟩,b20⟩:=hB;have hc:=uV b2
 have in3 : ∀ i,(i∈F\/i=mk\/i∈N)->i∈mk::(F++N):=by
  intro i hi;simp only[List.mem_cons,List.mem_append];rcases hi with h | h | h
  ·exact .inr (.inl h)
  ·exact .inl h
  ·exact .inr (.inr h)
 simp only[List.all_eq_true] at b6 b8 b9 b11 b14 b15 b17 b18
 have hS:StJ ops bf.toArray a.n mk dm F N σ3 L2:=by
  refine⟨?_,Nat.le_of_ble_eq_true b5,fun i hi=>?_,VD b7,fun x hx=>?_,fun t ht i hi=>b9 t ht i (in3 i hi),Yk b10,fun i hi=>Qj (b11 i (in3 i hi)),XJ b12,XJ b13,fun i hi=>?_,fun i hi=>?_⟩
  ·cases ho:ops[mk]? with
   | none=>simp[ho] at b4
   | some o =>
     simp only[show ops.toArray[mk]? = some o by simpa using ho,Bool.and_eq_true,Option.isNone_iff_eq_none,beq_iff_eq] at b4;obtain ⟨⟨c1,c2⟩,c3⟩:=b4;split at c1
     ·rename_i t hop;exact⟨o,t,rfl,hop,c2,c3⟩
     ·cases c1
  ·have c:=b6 i hi
   cases ho:ops[i]? with
   | none=>simp[ho] at c
   | some o =>
     simp only[show ops.toArray[i]? = some o by simpa using ho,Bool.and_eq_true,Option.isNone_iff_eq_none,bne_iff_ne] at c;exact⟨o,rfl,c.1,c.2⟩
  ·have c:=b8 x hx
   cases ho:ops[x]? with
   | none=>simp[ho] at c
   | some o =>
     simp only[show ops.toArray[x]? = some o by simpa using ho,Bool.and_eq_true,Option.isNone_iff_eq_none] at c;obtain ⟨⟨⟨c1,c2⟩,c3⟩,c4⟩:=c;split at c4
     ·rename_i t d kx vx hop
      simp only[Bool.and_eq_true,beq_iff_eq] at c4;obtain ⟨⟨rfl,c5⟩,c6⟩:=c4;refine⟨o,kx,vx,t,rfl,c1,c2,hop,c3,fun u hu=>?_⟩;rcases hu with rfl | rfl
      ·exact Zb c5
      ·exact Zb c6
     ·cases c4
  ·have:=b14 i hi
   intro h';have h2:N.contains i=true:=by simpa using h'
   rw[h2] at this;cases this
  ·have:=b15 i (in3 i hi)
   intro h';have h2 : σ3.contains i=true:=by simpa using h'
   rw[h2] at this;cases this
 have hsz:(Array.replicate ops.toArray.size false).size=ops.length:=by simp
 have hdc:DC bf.toArray (Array.replicate ops.toArray.size false):=fun j hj=>by
  rcases Nat.lt_or_ge j ops.toArray.size with h | h
  ·simp at h;simp[h] at hj
  ·simp at h;simp[h] at hj
 have hs' : SRel m { n:=a.n,sl:=a.sl } H aR { w with drawn:=w.drawn+1 }:=⟨hs.n,hs.sl,DfOk.keep (w:=w) (w' := { w with drawn:=w.drawn+1 }) (m:=m) (m' := m) (H:=H) (H' := H) (fun _ _ h=>⟨rfl,h⟩) hs.df,hs.heap.drawn _⟩
 have hl0 : ∀ i,i<ops.length->(uI (Array.replicate ops.toArray.size false) σ1).getD i true = σ1.contains i:=by
  intro i hi;rw[ZJ σ1 _ i (by simpa using hi)];simp[hi]
 have nin1 : ∀ i,((i∈F\/i=mk\/i∈N)\/i∈σ3)->σ1.contains i=false:=by
  intro i hi
  cases hx : σ1.contains i with
  | false=>rfl
  | true =>
    have:=b17 i (Qj hx);rcases hi with hi | hi
    ·have h2:(mk::(F++N)).contains i=true:=by simpa using in3 i hi
     rw[h2] at this;simp at this
    ·have h2 : σ3.contains i=true:=by simpa using hi
     rw[h2] at this;simp at this
 have ltm : ∀ i,(i∈F\/i=mk\/i∈N)->i<ops.length:=fun i hi=>by
  obtain ⟨o,ho⟩:=hS.ord.op (hS.mem i hi);exact (List.getElem?_eq_some_iff.1 ho).1
 have lt3 : ∀ i∈σ3,i<ops.length:=fun i hi=>by have:=Nat.le_of_ble_eq_true (b18 i hi);simp at this;omega
 have hany:=XT (n:=a.n) (q:=fun _=>false) (Q:=fun aR' w' => ∃ sl' H' m',Q .normal { n:=a.n,sl:=sl' } H' /\ SRel m' { n:=a.n,sl:=sl' } H' aR' w' /\ Fr n0 m H w m' H' w' /\ aR'.defers=aR.defers) (fuel:=F.length+1+N.length + σ3.length)
  hT hc b1 σ1 _ b3 hdc h hs' (fun sl1 aR1 ⟨g1,g2⟩ hs1 hd1 hdc1=>by
   have hnl:=hs1.heap.none_len
   have hfr:Fr n0 m H w m (H ++ [.map true (ents kv []) ([]:List Nat).length]) { w with drawn:=w.drawn+1 }:=by
    refine (Fr.drawn _).trans ⟨Nat.le_refl _,fun h=>by simp;omega,fun _ _ _ h=>.inl h,fun _ _ h=>h,fun j hj b' hb hr=>?_,fun r _ hw=>⟨rfl,fun hx=>hw ?_⟩, .refl _⟩
    ·rw[List.getElem?_append_left (by omega)] at hb;exact⟨b',hb,hr⟩
    ·obtain ⟨j,b,h1,h2,h3⟩:=hx
     obtain ⟨l',g1,_⟩:=vF h1;rw[List.getElem?_append_left (hs1.heap.dom j _ g1)] at h2;exact⟨j,b,h1,h2,h3⟩
   have hh:HRel m (H ++ [.map true (ents kv []) ([]:List Nat).length]) { w with drawn:=w.drawn+1 }:=by
    refine⟨fun j l hj=>by have:=hs1.heap.dom j l hj;simp;omega,fun j l b hj hl hb=>?_,fun j hj=>?_,fun j k r b hj hb hw hk=>?_⟩
    ·have hjl:=hs1.heap.dom j l hj
     rw[List.getElem?_append_left hjl] at hb;exact hs1.heap.blk j l b hj hl hb
    ·rw[List.getElem?_append_left (hs1.heap.dom j _ hj)];exact hs1.heap.dd j hj
    ·obtain ⟨l',h1,_⟩:=vF hj
     rw[List.getElem?_append_left (hs1.heap.dom j _ h1)] at hb;exact hs1.heap.own j k r b hj hb hw hk
   have hI:DrJ P T ops bf.toArray a.n n0 m H w aR1.defers H dm mk N σ3 kv (fun slf Bf=>wv0 P T ops N dm kv slf/\∀ p:List Nat,p.Nodup->(∀ x,x∈p↔x∈N)->Qx P T a.n ops [] σ3 (fun sl H=>Q .normal { n:=a.n,sl:=sl } H) ((dm, .map (some H.length))::slf) (H ++ .map true (ents kv p) p.length::Bf)) F sl1 [] (uI (Array.replicate ops.toArray.size false) σ1) [] m aR1 { w with drawn:=w.drawn+1 }:=by
    refine⟨by rw[WO];exact hsz,hdc1,fun i hi hu=>?_,fun i hi=>?_,fun i hi=>?_,fun i=>?_, .nil,g2,g1,⟨hs1.n,hs1.sl,hs1.df.keep (w := { w with drawn:=w.drawn+1 }) (w' := { w with drawn:=w.drawn+1 }) (fun r hr hw=>⟨rfl,(hfr.keep r hr hw).2⟩),hh⟩,fun _=>hnl,fun hl=>?_,hfr,hn,rfl⟩
    ·rw[hl0 i hi] at hu
     have:=zn0 b16 (show i<ops.toArray.size by simpa using hi);simp only[hu,Bool.false_or,Bool.or_eq_true,beq_iff_eq] at this;rcases this with ((h | h) | h) | h
     ·exact .inl (Qj h)
     ·exact .inr (.inl h)
     ·exact .inr (.inr (.inl (Qj h)))
     ·exact .inr (.inr (.inr (Qj h)))
    ·rw[hl0 i (ltm i (.inl hi))];exact nin1 i (.inl (.inl hi))
    ·rw[hl0 i (lt3 i hi)];exact nin1 i (.inr hi)
    ·constructor
     ·intro h;cases h
     ·rintro ⟨h1,h2⟩
      rw[hl0 i (ltm i (.inr (.inr h1))),nin1 i (.inl (.inr (.inr h1)))] at h2;cases h2
    ·rw[hl0 mk (ltm mk (.inr (.inl rfl))),nin1 mk (.inl (.inr (.inl rfl)))] at hl;cases hl
   refine DrJ.any (F:=F) (L2:=L2) (fe := σ3.length) hT hc hS ht (fun _ _ h=>h.1) ?_ (F.length+1+N.length + σ3.length) (fun i hi=>hi) (VD b7) hI ?_
   ·intro slf Bf p listed m' aR' w' hK hp hpm hls hun htu hdc' hs'' hfr'' hdf
    have hL:listed=((List.range ops.toArray.size).map (fun i => !σ3.contains i)).toArray:=by
     refine Array.ext (by simp[hls]) fun i h1 h2=>?_
     have hil:i<ops.length:=by rw[<- hls];exact h1
     have e1:listed[i]=listed.getD i true:=by simp[h1]
     rw[e1];simp only[List.getElem_toArray,List.getElem_map,List.getElem_range]
     cases hx : σ3.contains i with
     | true=>exact htu i (Qj hx)
     | false =>
       cases hl:listed.getD i true with
       | true=>rfl
       | false=>exact absurd (hun i hil hl) (XJ hx)
    subst hL
    have:=WH (qs := []) hT hc b1 (n:=a.n) (n0:=n0) (m0:=m) (H0:=H) (w0:=w) σ3 _ (by
     have e:(fun i=>([]:List Bool).getD i false)=fun _=>false:=by funext i;simp
     rw[e];exact b19) hdc' (hK.2 p hp hpm) hs'' hfr'' (by simp;omega) (dfs:=aR.defers) (hdf.trans hd1)
    have e:(fun i=>([]:List Bool).getD i false)=fun _=>false:=by funext i;simp
    rw[e] at this;exact this
   ·unfold remJ
    have:(N.filter (fun x => !((uI (Array.replicate ops.toArray.size false) σ1).getD x true))).length<=N.length:=List.length_filter_le _ _
    split <;> omega)
 have hany:=Ua (by simpa using Nat.le_of_ble_eq_true b20) hany;obtain ⟨aR',w',⟨sl',H',m',k1,k2,k3,k4⟩,hst⟩:=VA b k cs ops.toArray.size (w.tape w.drawn (.order b.fn id)) _ _ _ hany;refine⟨.normal,_,H',m',aR',w',k1,k2,⟨k3, .of_eq k4⟩, .head yA ?_⟩
 simpa [Region.schedule,hm,Region.linearise] using hst

theorem vo0 (hT:TOk P T) (hm:P.follows .mixedOrders=true) {n0 n:Nat} {Q:Ex->List (Nat × Value)->List Blk->Prop} {sl:List (Nat × Value)} {H:List Blk} {id:Nat} {ops:List Oper} (bf:List Nat) (mk dm:Nat) (F N σ1 σ3 L2:List Nat) (kv:Nat->Value × Value) (hB:litB ops.toArray bf.toArray n mk dm F N σ1 σ3 L2=true)
 (ht : ∀ o,ops[mk]? = some o->qC P T o.op [] H (fun v H' => v = .map (some H.length)/\H' = H ++ [.map true [] 0]))
 (h:YR P T n ops σ1 (fun sl=>look sl dm=none/\YT P T n ops H F (fun slf Bf=>wv0 P T ops N dm kv slf/\∀ p:List Nat,p.Nodup->(∀ x,x∈p↔x∈N)->Qx P T n ops [] σ3 (fun sl H=>Q .normal sl H) ((dm, .map (some H.length))::slf) (H ++ .map true (ents kv p) p.length::Bf)) sl []) sl H) :
 awp P rd n0 (.region id ops.toArray true) (aft n Q) ⟨n,sl⟩ H:=by
 refine wu (zj0 hT hm (Q:=fun e a H=>e = .normal/\a.n=n/\Q .normal a.sl H) (a:=⟨n,sl⟩) bf mk dm F N σ1 σ3 L2 kv hB ht (by simpa using h)) ?_;intro e a H ⟨h1,h2,h4⟩;subst h1;exact⟨h2,h4⟩
end
end Go.Af
namespace Go.Af.Tryz
open Go Go.Proofs Tryz
def T:TT := [(3,⟨.int .i64,1,8, .int .i64 0⟩),
 (27,⟨.struct [(0,3),(1,3),(2,3),(3,3),(4,25)],6,80, .agg #[.int .i64 0, .int .i64 0, .int .i64 0, .int .i64 0, .slice none 0 0, .slice none 0 0]⟩),
 (22,⟨.slice 3,1,24, .slice none 0 0⟩),
 (85,⟨.struct [(0,83),(1,2)],2,16, .agg #[.int .u64 0, .int .i64 0]⟩),
 (38,⟨.struct [(0,3),(1,3),(2,3),(3,3),(4,36)],6,80, .agg #[.int .i64 0, .int .i64 0, .int .i64 0, .int .i64 0, .slice none 0 0, .slice none 0 0]⟩),
 (48,⟨.struct [(0,3),(1,3),(2,3),(3,3),(4,3),(5,3)],6,48, .agg #[.int .i64 0, .int .i64 0, .int .i64 0, .int .i64 0, .int .i64 0, .int .i64 0]⟩),
 (32,⟨.struct [(0,27),(6,3),(7,30)],8,112, .agg #[.int .i64 0, .int .i64 0, .int .i64 0, .int .i64 0, .slice none 0 0, .slice none 0 0, .int .i64 0, .slice none 0 0]⟩),
 (83,⟨.int .u64,1,8, .int .u64 0⟩),
 (30,⟨.slice 48,1,24, .slice none 0 0⟩),
 (4,⟨.bool,1,1, .bool false⟩),
 (126,⟨.struct [(0,38),(6,3),(7,39)],8,112, .agg #[.int .i64 0, .int .i64 0, .int .i64 0, .int .i64 0, .slice none 0 0, .slice none 0 0, .int .i64 0, .slice none 0 0]⟩),
 (33,⟨.int .i64,1,8, .int .i64 0⟩),
 (41,⟨.struct [(0,38),(6,3),(7,39)],8,112, .agg #[.int .i64 0, .int .i64 0, .int .i64 0, .int .i64 0, .slice none 0 0, .slice none 0 0, .int .i64 0, .slice none 0 0]⟩),
 (47,⟨.struct [(0,3),(1,3),(2,3),(3,3),(4,3),(5,3)],6,48, .agg #[.int .i64 0, .int .i64 0, .int .i64 0, .int .i64 0, .int .i64 0, .int .i64 0]⟩),
 (80,⟨.slice 85,1,24, .slice none 0 0⟩),
 (268,⟨.arr 36 83,36,288, .agg #[.int .u64 0, .int .u64 0, .int .u64 0, .int .u64 0, .int .u64 0, .int .u64 0, .int .u64 0, .int .u64 0, .int .u64 0, .int .u64 0, .int .u64 0, .int .u64 0, .int .u64 0, .int .u64 0, .int .u64 0, .int .u64 0, .int .u64 0, .int .u64 0, .int .u64 0, .int .u64 0, .int .u64 0, .int .u64 0, .int .u64 0, .int .u64 0, .int .u64 0, .int .u64 0, .int .u64 0, .int .u64 0, .int .u64 0, .int .u64 0, .int .u64 0, .int .u64 0, .int .u64 0, .int .u64 0, .int .u64 0, .int .u64 0]⟩),
 (25,⟨.struct [(0,22),(1,23)],2,48, .agg #[.slice none 0 0, .slice none 0 0]⟩),
 (2,⟨.int .i64,1,8, .int .i64 0⟩),
 (253,⟨.struct [(0,4),(1,251),(2,4),(3,4),(4,4),(5,3)],6,48, .agg #[.bool false, .slice none 0 0, .bool false, .bool false, .bool false, .int .i64 0]⟩),
 (121,⟨.struct [(0,3),(1,3),(2,22),(3,22),(4,3)],5,72, .agg #[.int .i64 0, .int .i64 0, .slice none 0 0, .slice none 0 0, .int .i64 0]⟩),
 (39,⟨.slice 47,1,24, .slice none 0 0⟩),
 (270,⟨.struct [(0,268),(36,4),(37,4),(38,4),(39,3)],40,304, .agg #[.int .u64 0, .int .u64 0, .int .u64 0, .int .u64 0, .int .u64 0, .int .u64 0, .int .u64 0, .int .u64 0, .int .u64 0, .int .u64 0, .int .u64 0, .int .u64 0, .int .u64 0, .int .u64 0, .int .u64 0, .int .u64 0, .int .u64 0, .int .u64 0, .int .u64 0, .int .u64 0, .int .u64 0, .int .u64 0, .int .u64 0, .int .u64 0, .int .u64 0, .int .u64 0, .int .u64 0, .int .u64 0, .int .u64 0, .int .u64 0, .int .u64 0, .int .u64 0, .int .u64 0, .int .u64 0, .int .u64 0, .int .u64 0, .bool false, .bool false, .bool false, .int .i64 0]⟩),
 (36,⟨.struct [(0,22),(1,23)],2,48, .agg #[.slice none 0 0, .slice none 0 0]⟩),
 (116,⟨.map 3 115,1,8, .map none⟩),
 (105,⟨.struct [(0,3),(1,3)],2,16, .agg #[.int .i64 0, .int .i64 0]⟩),
 (49,⟨.slice 80,1,24, .slice none 0 0⟩),
 (5,⟨.int .u8,1,1, .int .u8 0⟩),
 (99,⟨.slice 101,1,24, .slice none 0 0⟩),
 (137,⟨.struct [(0,3),(1,105),(3,3)],4,32, .agg #[.int .i64 0, .int .i64 0, .int .i64 0, .int .i64 0]⟩),
 (101,⟨.slice 105,1,24, .slice none 0 0⟩),
 (104,⟨.struct [(0,3),(1,3)],2,16, .agg #[.int .i64 0, .int .i64 0]⟩),
 (100,⟨.slice 102,1,24, .slice none 0 0⟩),
 (93,⟨.slice 99,1,24, .slice none 0 0⟩),
 (251,⟨.slice 5,1,24, .slice none 0 0⟩),
 (282,⟨.int .u64,1,8, .int .u64 0⟩),
 (119,⟨.slice 121,1,24, .slice none 0 0⟩),
 (23,⟨.slice 4,1,24, .slice none 0 0⟩),
 (102,⟨.slice 104,1,24, .slice none 0 0⟩),
 (272,⟨.struct [(0,4),(1,270)],41,312, .agg #[.bool false, .int .u64 0, .int .u64 0, .int .u64 0, .int .u64 0, .int .u64 0, .int .u64 0, .int .u64 0, .int .u64 0, .int .u64 0, .int .u64 0, .int .u64 0, .int .u64 0, .int .u64 0, .int .u64 0, .int .u64 0, .int .u64 0, .int .u64 0, .int .u64 0, .int .u64 0, .int .u64 0, .int .u64 0, .int .u64 0, .int .u64 0, .int .u64 0, .int .u64 0, .int .u64 0, .int .u64 0, .int .u64 0, .int .u64 0, .int .u64 0, .int .u64 0, .int .u64 0, .int .u64 0, .int .u64 0, .int .u64 0, .int .u64 0, .bool false, .bool false, .bool false, .int .i64 0]⟩),
 (215,⟨.map 205 163,1,8, .map none⟩),
 (96,⟨.slice 100,1,24, .slice none 0 0⟩),
 (205,⟨.struct [(0,3),(1,3)],2,16, .agg #[.int .i64 0, .int .i64 0]⟩),
 (117,⟨.map 3 116,1,8, .map none⟩),
 (143,⟨.struct [(0,140),(1,141),(2,141)],3,24, .agg #[.map none, .map none, .map none]⟩),
 (134,⟨.slice 137,1,24, .slice none 0 0⟩),
 (178,⟨.int .u64,1,8, .int .u64 0⟩),
 (141,⟨.map 3 3,1,8, .map none⟩),
 (146,⟨.struct [(0,3),(1,3)],2,16, .agg #[.int .i64 0, .int .i64 0]⟩),
 (233,⟨.slice 114,1,24, .slice none 0 0⟩),
 (247,⟨.int .u32,1,4, .int .u32 0⟩),
 (140,⟨.map 146 4,1,8, .map none⟩),
 (191,⟨.arr 2 3,2,16, .agg #[.int .i64 0, .int .i64 0]⟩),
 (217,⟨.map 146 101,1,8, .map none⟩),
 (9,⟨.str,1,16, .string ⟨#[]⟩⟩),
 (175,⟨.func,1,8, .nilFunc⟩),
 (209,⟨.func,1,8, .nilFunc⟩),
 (240,⟨.int .i64,1,8, .int .i64 0⟩),
 (131,⟨.map 105 85,1,8, .map none⟩),
 (163,⟨.func,1,8, .nilFunc⟩),
 (154,⟨.func,1,8, .nilFunc⟩),
 (207,⟨.func,1,8, .nilFunc⟩),
 (212,⟨.func,1,8, .nilFunc⟩),
 (227,⟨.func,1,8, .nilFunc⟩),
 (237,⟨.func,1,8, .nilFunc⟩),
 (57,⟨.int .u16,1,2, .int .u16 0⟩),
 (91,⟨.slice 2,1,24, .slice none 0 0⟩),
 (114,⟨.func,1,8, .nilFunc⟩),
 (200,⟨.ptr 272,1,8, .pointer none⟩),
 (115,⟨.func,1,8, .nilFunc⟩)]
theorem tok:TOk prog T:=⟨⟨underlying3,by kernel_rfl,rfl⟩,⟨⟨_,underlying27,rfl⟩,by kernel_rfl,rfl⟩,⟨underlying22,by kernel_rfl,rfl⟩,⟨⟨_,underlying85,rfl⟩,by kernel_rfl,rfl⟩,⟨⟨_,underlying38,rfl⟩,by kernel_rfl,rfl⟩,⟨⟨_,underlying48,rfl⟩,by kernel_rfl,rfl⟩,⟨⟨_,underlying32,rfl⟩,by kernel_rfl,rfl⟩,⟨underlying83,by kernel_rfl,rfl⟩,⟨underlying30,by kernel_rfl,rfl⟩,⟨underlying4,by kernel_rfl,rfl⟩,⟨⟨_,underlying126,rfl⟩,by kernel_rfl,rfl⟩,⟨underlying33,by kernel_rfl,rfl⟩,⟨⟨_,underlying41,rfl⟩,by kernel_rfl,rfl⟩,⟨⟨_,underlying47,rfl⟩,by kernel_rfl,rfl⟩,⟨underlying80,by kernel_rfl,rfl⟩,⟨underlying268,by kernel_rfl,rfl⟩,⟨⟨_,underlying25,rfl⟩,by kernel_rfl,rfl⟩,⟨underlying2,by kernel_rfl,rfl⟩,⟨⟨_,underlying253,rfl⟩,by kernel_rfl,rfl⟩,⟨⟨_,underlying121,rfl⟩,by kernel_rfl,rfl⟩,⟨underlying39,by kernel_rfl,rfl⟩,⟨⟨_,underlying270,rfl⟩,by kernel_rfl,rfl⟩,⟨⟨_,underlying36,rfl⟩,by kernel_rfl,rfl⟩,⟨underlying116,by kernel_rfl,rfl⟩,⟨⟨_,underlying105,rfl⟩,by kernel_rfl,rfl⟩,⟨underlying49,by kernel_rfl,rfl⟩,⟨underlying5,by kernel_rfl,rfl⟩,⟨underlying99,by kernel_rfl,rfl⟩,⟨⟨_,underlying137,rfl⟩,by kernel_rfl,rfl⟩,⟨underlying101,by kernel_rfl,rfl⟩,⟨⟨_,underlying104,rfl⟩,by kernel_rfl,rfl⟩,⟨underlying100,by kernel_rfl,rfl⟩,⟨underlying93,by kernel_rfl,rfl⟩,⟨underlying251,by kernel_rfl,rfl⟩,⟨underlying282,by kernel_rfl,rfl⟩,⟨underlying119,by kernel_rfl,rfl⟩,⟨underlying23,by kernel_rfl,rfl⟩,⟨underlying102,by kernel_rfl,rfl⟩,⟨⟨_,underlying272,rfl⟩,by kernel_rfl,rfl⟩,⟨underlying215,by kernel_rfl,rfl⟩,⟨underlying96,by kernel_rfl,rfl⟩,⟨⟨_,underlying205,rfl⟩,by kernel_rfl,rfl⟩,⟨underlying117,by kernel_rfl,rfl⟩,⟨⟨_,underlying143,rfl⟩,by kernel_rfl,rfl⟩,⟨underlying134,by kernel_rfl,rfl⟩,⟨underlying178,by kernel_rfl,rfl⟩,⟨underlying141,by kernel_rfl,rfl⟩,⟨⟨_,underlying146,rfl⟩,by kernel_rfl,rfl⟩,⟨underlying233,by kernel_rfl,rfl⟩,⟨underlying247,by kernel_rfl,rfl⟩,⟨underlying140,by kernel_rfl,rfl⟩,⟨underlying191,by kernel_rfl,rfl⟩,⟨underlying217,by kernel_rfl,rfl⟩,⟨underlying9,by kernel_rfl,rfl⟩,⟨⟨_,_,_,underlying175⟩,by kernel_rfl,rfl⟩,⟨⟨_,_,_,underlying209⟩,by kernel_rfl,rfl⟩,⟨underlying240,by kernel_rfl,rfl⟩,⟨underlying131,by kernel_rfl,rfl⟩,⟨⟨_,_,_,underlying163⟩,by kernel_rfl,rfl⟩,⟨⟨_,_,_,underlying154⟩,by kernel_rfl,rfl⟩,⟨⟨_,_,_,underlying207⟩,by kernel_rfl,rfl⟩,⟨⟨_,_,_,underlying212⟩,by kernel_rfl,rfl⟩,⟨⟨_,_,_,underlying227⟩,by kernel_rfl,rfl⟩,⟨⟨_,_,_,underlying237⟩,by kernel_rfl,rfl⟩,⟨underlying57,by kernel_rfl,rfl⟩,⟨underlying91,by kernel_rfl,rfl⟩,⟨⟨_,_,_,underlying114⟩,by kernel_rfl,rfl⟩,⟨underlying200,by kernel_rfl,rfl⟩,⟨⟨_,_,_,underlying115⟩,by kernel_rfl,rfl⟩,trivial⟩
theorem avN {f:FuncId} {fn:Func} {c:Code} {args:List Value} {H:List Blk} {R:Value->List Blk->Prop} (hc : ∀ (us:Array Value) (w:World),(callFunc f us).run prog w = .ok (.enter f us) w) (hf:prog.funcs[f]? = some fn) {n:Nat} (hnt:fn.ntmps=n) {rs:Array ResultVar} (h:vcg prog T false H.length n c (endQ T rs.toList R) (Vp args 0) H) (hb:fn.body=some c:=by exact rfl) (hrs:fn.results=rs:=by exact rfl) (hn:args.length<=n:=by simp):qj prog f args H R:=zC tok hc hf hb hnt hrs hn h
theorem mx:prog.follows .mixedOrders=true:=by kernel_rfl
end Go.Af.Tryz
