/- A part of the proof. -/
import Derived.Test.YtmnjcogpchodhaaGreatMHR
import Derived.Test.YtmnjcogpchodhaaGreatMGC
import Derived.Test.YtmnjcogpchodhaaGreatMCA
set_option linter.all false
set_option maxHeartbeats 4000000
set_option maxRecDepth 100000
namespace Go.Af.Tryz
open Go Go.Proofs Tryz
open Go.Af.Coll (St befF)
attribute [local irreducible] awp qj qI qK qE qm isCells ql qi qB qx qh roundEnd zG wZ keyK wE

theorem QO0:ZE prog 47 [.i64, .i64, .i64, .i64, .i64, .i64]:=yx (by kernel_rfl) (by kernel_rfl) (by kernel_rfl) (yg (by kernel_rfl))
theorem un0 {s:St} {K:Bool->Prop} (h:K true):intsOf (stC s) [.i64, .i64, .i64, .i64, .i64, .i64] (fun us=>intsOf (stC s) [.i64, .i64, .i64, .i64, .i64, .i64] (fun bs=>K (decide (us=bs)))):=by
 show K (decide ([s.rd,s.fr,s.to,s.sr,s.ds,s.jn] = [s.rd,s.fr,s.to,s.sr,s.ds,s.jn]));rw[decide_eq_true rfl];exact h
theorem wk3 (hW : ∀ (H:List Blk) {R:Value->List Blk->Prop} (_:R (.bool true) H),qj prog 15 [] H R) (t:Tk) (a:Int) {m:LM} {argsR:Array Value} {w:World}
 (ha:LRel m [tkV t 0 1, .int .i64 a] argsR.toList) (hr:HRel m [ro t.sz, .cells false 1 (bls t.ws)] w) :
 Calls prog 3 argsR w fun e w' => ∃ vR,e = .returned vR/\zW m [ro t.sz, .cells false 1 (bls t.ws)] w (fun v _=>v = .bool true) vR w' := by
 refine YB tok func3 rfl ntmps3 rfl (by simp) ?_ ha hr;generalize hH0 : [ro t.sz,Blk.cells false 1 (bls t.ws)]=H0;have g0:Gr H0 t.sz 0:=⟨_,by rw[<- hH0];rfl⟩;have w0:Gw H0 t.ws 0 1:=⟨by decide,_,by rw[<- hH0];rfl⟩;clear hH0 ha hr;refine qo (HS.start H0 none') (fun H1 b1 e1 l1 hs=>?_);refine qg (fun _ hKs=>hKs _ _ ?_);clear hKs;clear e1 l1
 repeat' first|refine zRw ?_|intro _ _ hs|intro K0 hK0|(refine hK0 _ _ ?_;clear hK0)
 refine c14 (kNo hs (fun H2 hs=>?_));by_cases q:t.sz.length<=10/\t.ws.length<=10/\(t.pr<=16\/64<t.pr)
 ·rw[decide_eq_true q]
  obtain ⟨hl,hw,_⟩:=q
  repeat' first|refine zTw ?_|intro _ _ hs|intro K0 hK0|intro hc|refine dI ?_ ?_|(refine hK0 _ _ ?_;clear hK0)
  refine c16 (g0.up (qc hs)) (w0.up (qc hs)) (by omega) (by omega) (fun hbad H3 hn=>?_) (fun h0 hin H3 hn=>?_) (fun h0 hin H3 k3 b3 c3 ys hn hp hsr=>?_)
  ·have hs:=qL hs hn
   clear hn
   repeat' first|refine zTw ?_|intro _ _ hs|intro K0 hK0|intro hc|refine dI ?_ ?_|(refine hK0 _ _ ?_;clear hK0)
   rename_i sb _;refine vN hs 0 (p:=0) (n:=8) (v := .agg ⟨scZ⟩) rfl scZ rfl rfl (by decide) rfl (fun H8 _ hs=>?_)
   repeat' first|refine zTw ?_|intro _ _ hs|intro K0 hK0|intro hc|refine dI ?_ ?_|(refine hK0 _ _ ?_;clear hK0)
   refine c18 (kNo hs (fun H4 hs=>?_))
   repeat' first|refine zTw ?_|intro _ _ hs|intro K0 hK0|intro hc|refine dI ?_ ?_|(refine hK0 _ _ ?_;clear hK0)
   refine c17 (g0.up (qc hs)) (w0.up (qc hs)) (by omega) (by omega) (fun _ H5 hn=>?_) (fun h=>absurd h hbad) (fun h=>absurd h hbad);have hs:=qL hs hn;clear hn;generalize chkF t=z at hbad ⊢
   repeat' first|refine zTw ?_|intro _ _ hs|intro K0 hK0|intro hc|refine dI ?_ ?_|(refine hK0 _ _ ?_;clear hK0)
   rename_i tb _;refine vN hs 0 (p:=0) (n:=8) (v := .agg ⟨scZ⟩) rfl scZ rfl rfl (by decide) rfl (fun H9 _ hs=>?_)
   repeat' first|refine zTw ?_|intro _ _ hs|intro K0 hK0|intro hc|refine dI ?_ ?_|(refine hK0 _ _ ?_;clear hK0)
   refine qf (α := Unit) tok (fun _=>True) (fun _=>[(5,pM sb),(7,pM tb),(9, .int .i64 0)]) (fun _=>H9) (fun _=>0) () trivial (Or.inl ⟨⟨rfl,rfl,rfl,trivial⟩,rfl⟩) ?_;rintro ⟨⟩ _
   repeat' first|refine zTw ?_|intro _ _ hs|intro K0 hK0|intro hc|refine dI ?_ ?_|(refine hK0 _ _ ?_;clear hK0)
   refine hW _ ?_
   repeat' first|refine zTw ?_|intro _ _ hs|intro K0 hK0|intro hc|refine dI ?_ ?_|(refine hK0 _ _ ?_;clear hK0)
   rfl
  ·have hs:=qL hs hn
   clear hn
   repeat' first|refine zTw ?_|intro _ _ hs|intro K0 hK0|intro hc|refine dI ?_ ?_|(refine hK0 _ _ ?_;clear hK0)
   rename_i sb _;refine vN hs 0 (p:=0) (n:=8) (v := .agg ⟨scZ⟩) rfl scZ rfl rfl (by decide) rfl (fun H8 _ hs=>?_)
   repeat' first|refine zTw ?_|intro _ _ hs|intro K0 hK0|intro hc|refine dI ?_ ?_|(refine hK0 _ _ ?_;clear hK0)
   refine c18 (kNo hs (fun H4 hs=>?_))
   repeat' first|refine zTw ?_|intro _ _ hs|intro K0 hK0|intro hc|refine dI ?_ ?_|(refine hK0 _ _ ?_;clear hK0)
   refine c17 (g0.up (qc hs)) (w0.up (qc hs)) (by omega) (by omega) (fun h=>absurd h0 h) (fun _ _ H5 hn=>?_) (fun _ h=>absurd h hin);have hs:=qL hs hn;clear hn
   repeat' first|refine zTw ?_|intro _ _ hs|intro K0 hK0|intro hc|refine dI ?_ ?_|(refine hK0 _ _ ?_;clear hK0)
   rename_i tb _;refine vN hs 0 (p:=0) (n:=8) (v := .agg ⟨scZ⟩) rfl scZ rfl rfl (by decide) rfl (fun H9 _ hs=>?_)
   repeat' first|refine zTw ?_|intro _ _ hs|intro K0 hK0|intro hc|refine dI ?_ ?_|(refine hK0 _ _ ?_;clear hK0)
   refine qf (α := Unit) tok (fun _=>True) (fun _=>[(5,pM sb),(7,pM tb),(9, .int .i64 0)]) (fun _=>H9) (fun _=>0) () trivial (Or.inl ⟨⟨rfl,rfl,rfl,trivial⟩,rfl⟩) ?_;rintro ⟨⟩ _
   repeat' first|refine zTw ?_|intro _ _ hs|intro K0 hK0|intro hc|refine dI ?_ ?_|(refine hK0 _ _ ?_;clear hK0)
   refine hW _ ?_
   repeat' first|refine zTw ?_|intro _ _ hs|intro K0 hK0|intro hc|refine dI ?_ ?_|(refine hK0 _ _ ?_;clear hK0)
   rfl
  ·have hs:=hs.call hn rfl
   clear hn
   repeat' first|refine zTw ?_|intro _ _ hs|intro K0 hK0|intro hc|refine dI ?_ ?_|(refine hK0 _ _ ?_;clear hK0)
   rename_i sb _;refine vN hs 0 (p:=0) (n:=8) (v := .agg ⟨tkC t b3 c3 ++ [.int .i64 a,sv k3 ys.length]⟩) rfl (tkC t b3 c3 ++ [.int .i64 a,sv k3 ys.length]) rfl rfl (by decide) rfl (fun _ _ hs=>?_)
   repeat' first|refine zTw ?_|intro _ _ hs|intro K0 hK0|intro hc|refine dI ?_ ?_|(refine hK0 _ _ ?_;clear hK0)|refine c18 (kNo hs (fun H4 hs=>?_))
   refine c17 (g0.up (qc hs)) (w0.up (qc hs)) (by omega) (by omega) (fun h=>absurd h0 h) (fun _ h=>absurd hin h) (fun _ _ H5 k5 o5 off5 cap5 w5 L5 n5 hn hb5 ho5 hof5 hp5 hs5=>?_);have hs:=qL hs hn;clear hn;obtain ⟨wg,hg⟩:=(g0.up (qc hs)).s;have hs:=pkH (hs.re none') [0,1,2,3,4] (L' := [(false,sb, .cells true 1 (tkC t b3 c3 ++ [.int .i64 a,sv k3 ys.length])),(false,k3, .cells true 6 (stsC ys)),(false,b3,rw' t.sz),(false,c3, .cells true 1 (bls t.ws)),(false,b1, .cells true 1 (tkC t 0 1))]);have hcl:(wnd L5 off5 n5).length=n5:=by rw[List.length_take,List.length_drop];omega
   have heq:=uM0 (Xi h0) hp hp5 hsr hs5;have hyl:ys.length=n5:=by rw[heq,hcl]
   have hnb:n5<=1000000000:=by
    have hro:=Ud (Xi h0) (qy0 h0 hin);have h1:=QR 0 hro.le hro.ok;have h2:=hro.len;have h3:(vJ t a).length*4194304<=200*4194304:=Nat.mul_le_mul_right _ h2;have h4:=hp5.length_eq;unfold mkF at h4;omega
   repeat' first|refine zTw ?_|intro _ _ hs|intro K0 hK0|intro hc|refine dI ?_ ?_|(refine hK0 _ _ ?_;clear hK0)
   rename_i tb _;refine vN hs 0 (p:=0) (n:=8) (v := .agg ⟨tkC t 0 1 ++ [.int .i64 a, .slice (some ⟨k5,o5,none⟩) n5 cap5]⟩) rfl (tkC t 0 1 ++ [.int .i64 a, .slice (some ⟨k5,o5,none⟩) n5 cap5]) rfl rfl (by decide) rfl (fun H9 _ hs=>?_)
   repeat' first|refine zTw ?_|intro _ _ hs|intro K0 hK0|intro hc|refine dI ?_ ?_|(refine hK0 _ _ ?_;clear hK0)
   refine c19 (hs.mem (by repeat (first | exact mH | refine mT ?_))) (vz (qc hs) hg) (by omega) ?_;rw[decide_eq_true rfl]
   repeat' first|refine zTw ?_|intro _ _ hs|intro K0 hK0|intro hc|refine dI ?_ ?_|(refine hK0 _ _ ?_;clear hK0)
   have hb9:=vz (qc hs) hb5;refine qf (α := Nat) tok (fun i=>i<=n5) (fun i=>[(5,pM sb),(7,pM tb),(9, .int .i64 (i:Int))]) (fun _=>H9) (fun i=>n5-i) 0 (Nat.zero_le _) (Or.inl ⟨⟨rfl,rfl,rfl,trivial⟩,rfl⟩) ?_;rintro i hi;by_cases hil:i<n5
   ·have hst:ys[i]! = L5[off5+i]! := by
     have h1:=congrArg (fun l=>l[i]!) heq;rw[h1,getElem!_pos _ i (by omega),getElem!_pos L5 (off5+i) (by omega)];simp
    have hsg : ∀ {K:List Value->Prop},K (stC ys[i]!)->segK (stsC L5) (o5+i*6) 6 K:=fun {K} hK=>by
     rw[show o5+i*6=0+(off5+i)*6 by omega];exact vE0 (by omega) (by rw[<- hst];exact hK)
    repeat' first|refine zTw ?_|intro _ _ hs|intro K0 hK0|intro hc|refine dI ?_ ?_|(refine hK0 _ _ ?_;clear hK0)
    refine qp tok mx [0,1,0,7,15,0,32,0,224,480,1023] [false,false,true,false,false,true,true,true,true,true,false] (.first 0 (.first 1 (.first 2 (.first 3 (.first 4 (.first 5 (.first 6 (.first 7 (.first 8 (.first 9 (.first 10 .done))))))))))) (by kernel_rfl) ?_;refine qw (fun K0 hK0=>?_)
    repeat' first|refine zTw ?_|intro _ _ hs|intro K0 hK0|intro hc|refine dI ?_ ?_|(refine hK0 _ _ ?_;clear hK0)
    iterate 3 (
     all_goals try (first | refine And.intro ?_ trivial | refine And.intro ?_ (And.intro ?_ trivial) | refine And.intro ?_ (And.intro ?_ (And.intro ?_ trivial)))
     all_goals try (
      repeat' first|refine zTw ?_|intro _ _ hs|intro K0 hK0|intro hc|refine dI ?_ ?_|(refine hK0 _ _ ?_;clear hK0)
      )
     all_goals try (
      refine vE0 (l:=ys) (by omega) ?_
      repeat' first|refine zTw ?_|intro _ _ hs|intro K0 hK0|intro hc|refine dI ?_ ?_|(refine hK0 _ _ ?_;clear hK0)
      )
     all_goals try (
      refine qO hb9 ⟨i,rfl,hil, ?_⟩
      repeat' first|refine zTw ?_|intro _ _ hs|intro K0 hK0|intro hc|refine dI ?_ ?_|(refine hK0 _ _ ?_;clear hK0)
      )
     all_goals try (
      refine qF hb9 (hsg ?_)
      repeat' first|refine zTw ?_|intro _ _ hs|intro K0 hK0|intro hc|refine dI ?_ ?_|(refine hK0 _ _ ?_;clear hK0)
      )
     )
    all_goals (
     refine⟨[.i64, .i64, .i64, .i64, .i64, .i64],QO0, ?_⟩;generalize ys[i]! = sx
     first
      | exact un0 (K:=_) (by skip;skip;assumption)
      | (simp only[intsOf,zF];rw[decide_eq_true rfl])
      | (unfold intsOf;simp only[intsOf];simp only[decide_true])
     repeat' first|refine zTw ?_|intro _ _ hs|intro K0 hK0|intro hc|refine dI ?_ ?_|(refine hK0 _ _ ?_;clear hK0)
     )
    all_goals exact⟨i+1,hil,by omega,Or.inl ⟨⟨rfl,rfl,rfl,trivial⟩,rfl⟩⟩
   ·have hie:i=n5:=by omega
    repeat' first|refine zTw ?_|intro _ _ hs|intro K0 hK0|intro hc|refine dI ?_ ?_|(refine hK0 _ _ ?_;clear hK0)
    refine hW _ ?_
    repeat' first|refine zTw ?_|intro _ _ hs|intro K0 hK0|intro hc|refine dI ?_ ?_|(refine hK0 _ _ ?_;clear hK0)
    rfl
 ·rw[decide_eq_false q]
  repeat' first|refine zTw ?_|intro _ _ hs|intro K0 hK0|intro hc|refine dI ?_ ?_|(refine hK0 _ _ ?_;clear hK0)
  refine hW _ ?_
  repeat' first|refine zTw ?_|intro _ _ hs|intro K0 hK0|intro hc|refine dI ?_ ?_|(refine hK0 _ _ ?_;clear hK0)
  rfl
end Go.Af.Tryz
