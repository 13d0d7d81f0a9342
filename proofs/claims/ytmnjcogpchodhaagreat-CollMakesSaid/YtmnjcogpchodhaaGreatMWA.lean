/- A part of the proof. -/
import Derived.Test.YtmnjcogpchodhaaGreatMGF
import Derived.Test.YtmnjcogpchodhaaGreatME
import Derived.Test.YtmnjcogpchodhaaGreatMCA
import Derived.Test.YtmnjcogpchodhaaGreatMS2
import Derived.Test.YtmnjcogpchodhaaGreatMF
import Derived.Test.YtmnjcogpchodhaaGreatMB
import Derived.Test.YtmnjcogpchodhaaGreatProg
import Derived.KernelRfl
set_option linter.all false
noncomputable section
set_option maxHeartbeats 4000000
set_option maxRecDepth 100000
namespace Go.Af.Tryz
open Go Go.Proofs
attribute [local irreducible] awp qj qI qK qE

theorem xy0 (l:List Fi) : ∀ v∈fisC l, ∃ z,v = .int .i64 z:=by
 intro v hv;obtain ⟨x,_,hx⟩:=List.mem_flatMap.1 hv;simp only[fiC,List.mem_cons,List.not_mem_nil,or_false] at hx;rcases hx with rfl | rfl | rfl | rfl <;> exact⟨_,rfl⟩
theorem ZX (l:List Fi) : ∀ v∈fisC l,wS 6 v=true:=fun v hv=>by
 obtain ⟨z,rfl⟩:=xy0 l v hv;rfl

abbrev tk0 (op pr ro pa:Int):Tk:=⟨op,pr,ro,pa,[],[]⟩
abbrev tk0V (op pr ro pa:Int):Value := .agg ⟨[.int .i64 op, .int .i64 pr, .int .i64 ro, .int .i64 pa, .slice none 0 0, .slice none 0 0]⟩
theorem c77z {op pr ro pa r:Int} (kt:TkOk (tk0 op pr ro pa)) (h14:op=1\/op=4) (hr:0<=r/\r<pr) :
 qj Tryz.prog 77 [tk0V op pr ro pa, .int .i64 r] [] (fun v H' => v=sv 0 (finF (tk0 op pr ro pa) r).length/\H' = [.cells true 4 (fisC (finF (tk0 op pr ro pa) r))]):=by
 refine Qm ?_;refine vg0 (Hs := [Go.Af.ro [], .cells false 1 []]) (args' := [tkV (tk0 op pr ro pa) 0 1, .int .i64 r]) ?_ ?_ ⟨by simp,fun i b b' h=>by simp at h⟩
 ·refine (c77r (t:=tk0 op pr ro pa) (H := [Go.Af.ro [], .cells false 1 []]) (b:=0) (c:=1) kt h14 ⟨_,rfl⟩ ⟨by decide,_,rfl⟩ hr (R:=fun v H' => ∃ k,HS [Go.Af.ro [], .cells false 1 []] none' [(true,k, .cells true 4 (fisC (finF (tk0 op pr ro pa) r)))] H' /\ v=sv k (finF (tk0 op pr ro pa) r).length) (fun H' k hs=>⟨k,hs,rfl⟩)).mono ?_
  rintro v H' ⟨k,hs,rfl⟩;have hb:=hs.get 0 rfl;refine⟨[(k,0)],sv 0 (finF (tk0 op pr ro pa) r).length,[.cells true 4 (fisC (finF (tk0 op pr ro pa) r))],Nat.zero_le _,(fun i hi=>by simp at hi),⟨⟨_,hb, ?_⟩,trivial⟩,rfl, ?_,rfl,rfl⟩
  ·exact BRen.cells (fun h=>h) (fun i x2 hx=>⟨x2,by rw[Nat.zero_add];exact hx,VRen.plain (ZX _ x2 (List.mem_of_getElem? hx))⟩)
  ·exact VRen.slice (s:=0) rfl rfl (Nat.le_refl _)
 ·exact LUp.cons (VUp.agg (LUp.cons VUp.rfl (LUp.cons VUp.rfl (LUp.cons VUp.rfl (LUp.cons VUp.rfl (LUp.cons (VUp.nil 0) (LUp.cons (VUp.nil 1) LUp.nil))))))) (LUp.cons VUp.rfl LUp.nil)
def uD0:List Value->(Nat->Option (Nat × List Value))->Nat->Option (Value × List (Bool × Nat × List Value))
 | [.agg xs, .int .i64 r],_,n=>match xs.toList with
   | [.int .i64 op, .int .i64 pr, .int .i64 ro, .int .i64 pa, .slice none 0 0, .slice none 0 0]=>match decide (chkF (tk0 op pr ro pa)=0),ile 0 r,ilt r pr,Bool.or (ieq op 1) (ieq op 4) with
     | true,true,true,true=>some (sv n (finF (tk0 op pr ro pa) r).length,[(true,4,fisC (finF (tk0 op pr ro pa) r))])
     | _,_,_,_=>none
   | _=>none
 | _,_,_=>none
theorem xh0:Vr0 Tryz.prog 77 uD0:=by
 intro args mem H v bs hm hg;clear hm;unfold uD0 at hg;split at hg
 ·rename_i xs r
  split at hg
  ·rename_i op pr ro pa hx
   split at hg
   ·rename_i h1 h2 h3 h4
    cases hg;have kt:=Xi (of_decide_eq_true h1);rw[ZW] at h2;rw[ww0] at h3
    have h14:op=1\/op=4:=by
     rcases Bool.or_eq_true_iff.1 h4 with h | h
     ·rw[Vj] at h;exact .inl (of_decide_eq_true h)
     ·rw[Vj] at h;exact .inr (of_decide_eq_true h)
    have hr:0<=r/\r<pr:=⟨of_decide_eq_true h2,of_decide_eq_true h3⟩;have ex:xs=⟨[.int .i64 op, .int .i64 pr, .int .i64 ro, .int .i64 pa, .slice none 0 0, .slice none 0 0]⟩:=Array.toList_inj.1 hx;subst ex;generalize hf:finF (tk0 op pr ro pa) r=fi;have hc:=c77z kt h14 hr;rw[hf] at hc;refine (Zv (H:=H) (R:=fun v' H' => v' = sv H.length fi.length/\H' = H ++ [.cells true 4 (fisC fi)]) hc [] rfl (.cons (VRen.plain rfl) (.cons (.int _ _) .nil)) trivial ?_).call;rintro v2 H2' ⟨rfl,rfl⟩;refine⟨sv H.length fi.length,[.cells true 4 (fisC fi)],[.cells true 4 (fisC fi)],rfl,rfl,fun k b2 hk=>?_, ?_,rfl,rfl⟩
    ·cases k with
     | zero=>cases hk;exact⟨.inl rfl,_,rfl,UF.cells (Vt.plain (List.all_eq_true.2 (ZX fi))) rfl⟩
     | succ k=>simp at hk
    ·exact uF.slice (i:=H.length) (s:=0) rfl
   ·cases hg
  ·cases hg
 ·cases hg
end Go.Af.Tryz
namespace Go.Af.Tryz
open Go Go.Proofs
def vW0:List Value->(Nat->Option (Nat × List Value))->Nat->Option (Value × List (Bool × Nat × List Value))
 | [.int .i64 a, .int .i64 b],_,n=>match ieq a 1,ieq b 1 with
   | true,true=>some (.func (.func 280) ⟨[]⟩ ⟨[.pointer (some ⟨n,0,none⟩)]⟩,[(true,1,[.func (.func 176) ⟨[]⟩ ⟨[]⟩])])
   | _,_=>none
 | _,_,_=>none
theorem vV0:Vr0 Tryz.prog 99 vW0:=by
 intro args mem H v bs hm hg;clear hm;unfold vW0 at hg;split at hg
 ·rename_i a b n
  split at hg
  ·rename_i ha hb
   cases hg;rw[Vj] at ha hb;have ha:=of_decide_eq_true ha;have hb:=of_decide_eq_true hb;subst ha;subst hb;exact g99a H
  ·cases hg
 ·cases hg
end Go.Af.Tryz
namespace Go.Af.Tryz.W
open Go Go.Proofs Tryz
abbrev T:TT:=Go.Af.Tryz.T
theorem tok:TOk prog T:=Go.Af.Tryz.tok
theorem mx:prog.follows .mixedOrders=true:=by kernel_rfl
def Ms:List (String × List (Nat × Nat)) := []
theorem QN0:ZE prog 48 [.i64, .i64, .i64, .i64, .i64, .i64]:=yx (by kernel_rfl) (by kernel_rfl) (by kernel_rfl) (yg (by kernel_rfl))
theorem yi0:ZE prog 105 [.i64, .i64]:=yx (by kernel_rfl) (by kernel_rfl) (by kernel_rfl) (yg (by kernel_rfl))
theorem uJ0:MKey prog 105 [.i64, .i64]:=QE (by kernel_rfl) (by kernel_rfl) (by kernel_rfl) (yg (by kernel_rfl))
theorem uI0:MKey prog 146 [.i64, .i64]:=QE (by kernel_rfl) (by kernel_rfl) (by kernel_rfl) (yg (by kernel_rfl))
def EE:Env := { T:=T,eqs := [(48,[.i64, .i64, .i64, .i64, .i64, .i64]),(105,[.i64, .i64])],mks := [(105,[.i64, .i64]),(146,[.i64, .i64])],ms:=Ms,ors := [(99,vW0),(77,uD0)] }
theorem eok:EOk prog EE:=by
 refine⟨tok,fun t ks h=>(by
  simp only[EE,List.mem_cons,List.not_mem_nil,or_false,Prod.mk.injEq] at h;rcases h with ⟨rfl,rfl⟩ | ⟨rfl,rfl⟩
  ·exact QN0
  ·exact yi0),fun t ks h=>(by
  simp only[EE,List.mem_cons,List.not_mem_nil,or_false,Prod.mk.injEq] at h;rcases h with ⟨rfl,rfl⟩ | ⟨rfl,rfl⟩
  ·exact uJ0
  ·exact uI0),fun name m h t f hm v w=>?_,fun f v h=>(by
  simp only[EE,List.mem_cons,List.not_mem_nil,or_false,Prod.mk.injEq] at h;rcases h with ⟨rfl,rfl⟩ | ⟨rfl,rfl⟩
  ·exact vV0
  ·exact xh0)⟩
 simp[EE,Ms] at h
def i15:FI:=fiOf Tryz.f15 [(2, .ord [0,0,2,6,15,31,63,127,127,383,895,1919,4095,8191,16383] [false,false,false,false,false,false,false,false,true,true,true,true,false,false,false] [0,1,2,3,4,5,6,7,8,9,10,11,12,13,14])]
def i16:FI:=fiOf Tryz.f16 [(6, .ord [0,1,3,7,0,16,48,127,127,383,1023,2047,4095,8191] [false,false,false,true,true,true,true,false,false,false,false,false,false,false] [0,1,2,4,5,6,3,8,9,7,10,11,12,13]),(9, .ord [0,0,2,7,0,31,0,127] [true,false,false,true,true,true,true,false] [1,2,4,6,0,3,5,7]),(17, .ord [0,1,0,0,8,0,32,0,0,256,0,1792,3840,0,8192,32764,65532,131071,262143,524287] [false,false,true,true,true,true,true,true,true,true,true,true,true,true,true,true,true,false,false,false] [0,1,2,3,4,5,6,7,8,9,10,11,12,13,14,15,16,17,18,19])]
def i21:FI:=fiOf Tryz.f21 [(25, .ord [0,0,3,7,0,16,63,127,255,0] [false,false,false,false,true,true,false,false,false,true] [0,1,2,3,4,5,6,7,8,9]),(36, .ord [0,0,0,0,12,28,0,64,192,448,1020,2047,4095] [false,false,false,false,false,false,true,true,true,true,false,false,false] [0,1,2,3,4,5,6,7,8,9,10,11,12])]
def i26:FI:=fiOf Tryz.f26 []
def i29:FI:=fiOf Tryz.f29 [(14, .ord [0,1,3,7,15,31,63,127,255,511,1023,2047,4095,8191,4095,20479,65535,131071,4095,524287,1048575,2097151,4194303,8388607] [false,false,false,false,false,false,false,false,false,false,false,false,false,false,true,true,false,false,true,false,false,false,false,false] [0,1,2,3,4,5,6,7,8,9,10,11,12,13,14,15,16,17,18,19,20,21,22,23]),(16, .ord [0,1,3,7,15,7,39,127,255,511,7,1031,4095,8191] [false,false,false,false,false,true,true,false,false,false,true,true,false,false] [0,1,2,3,4,5,6,7,8,9,10,11,12,13]),(24, .tree [0,1,0,4,0,16,0,64,0,256,0,1024,783,8191] [false,false,true,true,true,true,true,true,true,true,true,true,false,false] (.first 0 (.first 1 (.first 2 (.first 3 (.first 4 (.first 6 (.first 8 (.first 9 (.first 10 (.alt 5 (.alt 7 (.alt 11 (.first 12 (.first 13 .done)) (.alt 12 (.first 11 (.first 13 .done)) .no)) (.alt 11 (.alt 7 (.first 12 (.first 13 .done)) (.alt 12 (.first 7 (.first 13 .done)) .no)) (.alt 12 (.first 7 (.first 11 (.first 13 .done))) .no))) (.alt 7 (.alt 5 (.alt 11 (.first 12 (.first 13 .done)) (.alt 12 (.first 11 (.first 13 .done)) .no)) (.alt 11 (.alt 5 (.first 12 (.first 13 .done)) (.alt 12 (.first 5 (.first 13 .done)) .no)) (.alt 12 (.first 5 (.first 11 (.first 13 .done))) .no))) (.alt 11 (.alt 5 (.alt 7 (.first 12 (.first 13 .done)) (.alt 12 (.first 7 (.first 13 .done)) .no)) (.alt 7 (.alt 5 (.first 12 (.first 13 .done)) (.alt 12 (.first 5 (.first 13 .done)) .no)) (.alt 12 (.first 5 (.first 7 (.first 13 .done))) .no))) (.alt 12 (.first 5 (.first 7 (.first 11 (.first 13 .done)))) .no))))))))))))))]
def i31:FI:=fiOf Tryz.f31 []
def i34:FI:=fiOf Tryz.f34 [(4, .ord [0,1,0,4,15,31,63] [false,true,true,true,false,false,false] [0,2,3,1,4,5,6])]
def i41:FI:=fiOf Tryz.f41 [(6, .ord [0,0,2,7,15] [true,false,false,false,false] [1,2,0,3,4])] 2
def i45:FI:=fiOf Tryz.f45 []
def i46:FI:=fiOf Tryz.f46 []
def i53:FI:=fiOf Tryz.f53 [(7, .ord [0,1,0,7,15,0,0,96,224,511] [false,false,true,false,false,true,true,true,true,false] [0,1,2,3,4,5,6,7,8,9])]
def i54:FI:=fiOf Tryz.f54 []
def i56:FI:=fiOf Tryz.f56 []
def i57:FI:=fiOf Tryz.f57 []
def i58:FI:=fiOf Tryz.f58 []
def i59:FI:=fiOf Tryz.f59 []
def i60:FI:=fiOf Tryz.f60 []
def i61:FI:=fiOf Tryz.f61 [(1, .ord [0,1,0,4,15,0,32,0,128,480,0,1024,0,4096,15360,0,32768,0,131072,491520,0,1048576,0,4194304,16744448,33554431,67108863,134217727] [false,false,true,true,false,true,true,true,true,true,true,true,true,true,true,true,true,true,true,true,true,true,true,true,true,false,false,false] [0,1,2,3,4,5,6,7,8,9,10,11,12,13,14,15,16,17,18,20,21,22,23,19,24,25,26,27])]
def i74:FI:=fiOf Tryz.f74 [(10, .ord [0,1,0,0,0,24,56,0,128,504,1016,2047,4095] [false,false,true,true,true,true,true,true,true,true,true,false,false] [0,1,2,3,4,5,6,7,8,9,10,11,12])]
def i75:FI:=fiOf Tryz.f75 []
def i76:FI:=fiOf Tryz.f76 []
def i83:FI:=fiOf Tryz.f83 []
def i84:FI:=fiOf Tryz.f84 []
def i87:FI:=fiOf Tryz.f87 []
def i92:FI:=fiOf Tryz.f92 [(13, .ord [0,0,2,7,15] [false,true,true,false,false] [0,1,2,3,4])]
def i96:FI:=fiOf Tryz.f96 []
def i97:FI:=fiOf Tryz.f97 []
def i98:FI:=fiOf Tryz.f98 []
def i102:FI:=fiOf Tryz.f102 [(5, .ord [0,0,0,4,12,0,32,96,252,508,1023,2047] [false,true,true,true,true,true,true,true,true,true,false,false] [0,1,2,3,5,6,7,4,8,9,10,11]),(16, .ord [0,0,2,6,15,31,63,127,63,511,1023,2047,63,4159,63,28735,61503,127039,262143,524287] [false,false,false,false,false,false,false,false,true,false,false,false,true,true,true,true,true,true,false,false] [0,1,2,3,4,5,6,7,8,9,10,11,12,13,14,15,16,17,18,19]),(19, .ord [0,0,2,7,15,0,32,127,255,0,0,1024,3584,7680,0,16384,65024,130560,511,524287] [false,true,true,false,false,true,true,false,false,true,true,true,true,true,true,true,true,true,true,false] [0,1,2,3,4,5,6,7,8,9,10,11,12,13,14,15,16,17,18,19]),(33, .ord [0,0,2,7,15,0,32,0,255,511] [false,true,true,false,false,true,true,true,false,false] [0,1,2,3,4,5,6,7,8,9])]
def i108:FI:=fiOf Tryz.f108 []
def i109:FI:=fiOf Tryz.f109 []
def i111:FI:=fiOf Tryz.f111 [(1, .ord [0,0,3,7] [true,false,false,false] [1,0,2,3])]
def i120:FI:=fiOf Tryz.f120 [(1, .ord [0,0,3,7] [true,false,false,false] [1,0,2,3])]
def i136:FI:=fiOf Tryz.f136 [(17, .ord [0,1,3,7,7,7,39,119,247,7,7,1543,3591,8191,16383,32767,65535] [false,false,false,false,false,false,false,false,false,true,true,true,true,false,false,false,false] [0,1,2,3,4,5,6,7,8,9,10,11,12,13,14,15,16])]
def i137:FI:=fiOf Tryz.f137 []
def i138:FI:=fiOf Tryz.f138 []
def i139:FI:=fiOf Tryz.f139 []
def i154:FI:=fiOf Tryz.f154 [(2, .ord [0,1,3,7,15,31,63,15,143,511,1023,2047] [false,false,false,false,false,false,false,true,true,false,false,false] [0,1,2,3,4,5,6,7,8,9,10,11])]
def i157:FI:=fiOf Tryz.f157 []
def i171:FI:=fiOf Tryz.f171 [(17, .ord [0,1,3,7,7,23,63,127,7,7,775,1799,4095,8191,16383] [false,false,false,false,false,false,false,false,true,true,true,true,false,false,false] [0,1,2,3,4,5,6,7,8,9,10,11,12,13,14])]
def i176:FI:=fiOf Tryz.f176 []
def i192:FI:=fiOf Tryz.f192 []
def i193:FI:=fiOf Tryz.f193 []
def i194:FI:=fiOf Tryz.f194 []
def i198:FI:=fiOf Tryz.f198 []
def i199:FI:=fiOf Tryz.f199 []
def i200:FI:=fiOf Tryz.f200 []
def i201:FI:=fiOf Tryz.f201 []
def i202:FI:=fiOf Tryz.f202 []
def i203:FI:=fiOf Tryz.f203 []
def i204:FI:=fiOf Tryz.f204 [(5, .ord [0,0,0,6,0,0,0,96,254,0,1022,2046,4094,8191,16383] [false,false,true,true,true,true,true,true,true,true,false,false,false,false,false] [0,1,2,4,5,6,7,9,3,8,10,11,12,13,14])]
def i210:FI:=fiOf Tryz.f210 [(1, .ord [0,0,2,7,0,16,63,0,128,511,1023] [false,false,false,false,true,true,false,true,true,false,false] [0,1,2,3,4,5,6,7,8,9,10])]
def i221:FI:=fiOf Tryz.f221 []
def i245:FI:=fiOf Tryz.f245 [(4, .ord [0,0,3,7,15,15,15,111,239,15,15,1039,3599,7695,16383,32767,65535] [false,false,false,false,false,false,false,false,false,true,true,true,true,true,false,false,false] [0,1,2,3,4,5,6,7,8,9,10,11,12,13,14,15,16]),(6, .ord [0,0,0,0,8,0,0,64,224,480,0,0,3072,7168,16355,32739,65535,131071] [false,false,false,false,false,false,false,false,false,false,true,true,true,true,false,false,false,false] [0,1,2,3,4,5,6,7,8,9,10,11,12,13,14,15,16,17])]
def i253:FI:=fiOf Tryz.f253 []
def i254:FI:=fiOf Tryz.f254 []
def i255:FI:=fiOf Tryz.f255 []
def i265:FI:=fiOf Tryz.f265 [(4, .ord [0,0,3,7,15,15,63,127,15,15,527,1807,3855,8191,16383] [false,false,false,false,false,false,false,false,true,true,true,true,true,false,false] [0,1,2,3,4,5,6,7,8,9,10,11,12,13,14]),(6, .ord [0,0,0,0,8,0,0,64,224,480,0,0,3072,7168,16355,32739,65535,131071] [false,false,false,false,false,false,false,false,false,false,true,true,true,true,false,false,false,false] [0,1,2,3,4,5,6,7,8,9,10,11,12,13,14,15,16,17])]
def i271:FI:=fiOf Tryz.f271 []
def i280:FI:=fiOf Tryz.f280 []
def i290:FI:=fiOf Tryz.f290 []
def i291:FI:=fiOf Tryz.f291 [] 2
def i292:FI:=fiOf Tryz.f292 []
def i293:FI:=fiOf Tryz.f293 []
def FNt:Tr FI:=(.n (.n (.n (.n (.n (.n (.n (.n (.n .e (some i255) .e) none .e) none .e) (some i31) .e) (some i15) (.n (.n (.n (.n .e (some i271) .e) none .e) none .e) none (.n .e (some i111) .e))) none (.n (.n (.n .e none (.n .e (some i199) .e)) none .e) none (.n (.n .e (some i87) .e) none .e))) none (.n (.n (.n .e none (.n (.n (.n .e (some i291) .e) none .e) none .e)) none (.n (.n .e (some i83) .e) none .e)) none (.n (.n (.n (.n .e (some i139) .e) (some i75) (.n .e (some i203) .e)) none (.n (.n .e (some i171) .e) none .e)) none (.n .e (some i59) .e)))) none (.n (.n (.n (.n (.n .e none (.n .e (some i193) .e)) none (.n .e (some i97) .e)) none .e) none (.n (.n (.n (.n (.n .e (some i265) .e) (some i137) .e) none (.n .e (some i201) .e)) (some i41) .e) none (.n .e (some i57) .e))) none (.n (.n (.n .e none (.n (.n (.n .e (some i293) .e) none .e) none .e)) (some i21) (.n .e (some i53) (.n .e none (.n .e (some i245) .e)))) none (.n (.n .e (some i45) (.n .e (some i109) .e)) (some i29) (.n (.n (.n .e (some i157) .e) none (.n .e (some i221) .e)) (some i61) (.n .e none (.n .e (some i253) .e))))))) none (.n (.n (.n (.n (.n (.n .e none (.n .e (some i192) .e)) none (.n .e (some i96) .e)) (some i16) (.n .e none (.n (.n .e (some i176) .e) none .e))) none (.n (.n (.n (.n .e (some i136) .e) none (.n .e (some i200) .e)) none .e) none (.n (.n (.n (.n .e (some i280) .e) none .e) none .e) (some i56) (.n .e (some i120) .e)))) none (.n (.n (.n .e none (.n (.n (.n .e (some i292) .e) none .e) none .e)) none (.n (.n .e (some i84) .e) none .e)) none (.n (.n (.n .e (some i76) (.n .e (some i204) .e)) none (.n .e (some i108) .e)) none (.n (.n .e (some i92) .e) (some i60) .e)))) none (.n (.n (.n (.n (.n .e none (.n .e (some i194) .e)) (some i34) (.n (.n (.n .e (some i290) .e) none .e) (some i98) .e)) none (.n (.n .e none (.n .e (some i210) .e)) none .e)) none (.n (.n (.n (.n .e (some i138) .e) (some i74) (.n .e (some i202) .e)) none .e) (some i26) (.n (.n (.n .e (some i154) .e) none .e) (some i58) .e))) none (.n (.n (.n (.n .e none (.n .e (some i198) .e)) none (.n .e (some i102) .e)) none (.n .e (some i54) .e)) none (.n (.n .e (some i46) .e) none (.n .e none (.n .e none (.n .e (some i254) .e))))))))
theorem o15:FOk prog 15 i15:=⟨call15,Tryz.f15,func15,rfl,rfl,rfl⟩
theorem o16:FOk prog 16 i16:=⟨call16,Tryz.f16,func16,rfl,rfl,rfl⟩
theorem o21:FOk prog 21 i21:=⟨call21,Tryz.f21,func21,rfl,rfl,rfl⟩
theorem o26:FOk prog 26 i26:=⟨call26,Tryz.f26,func26,rfl,rfl,rfl⟩
theorem o29:FOk prog 29 i29:=⟨call29,Tryz.f29,func29,rfl,rfl,rfl⟩
theorem o31:FOk prog 31 i31:=⟨call31,Tryz.f31,func31,rfl,rfl,rfl⟩
theorem o34:FOk prog 34 i34:=⟨call34,Tryz.f34,func34,rfl,rfl,rfl⟩
theorem o41:FOk prog 41 i41:=⟨call41,Tryz.f41,func41,rfl,rfl,rfl⟩
theorem o45:FOk prog 45 i45:=⟨call45,Tryz.f45,func45,rfl,rfl,rfl⟩
theorem o46:FOk prog 46 i46:=⟨call46,Tryz.f46,func46,rfl,rfl,rfl⟩
theorem o53:FOk prog 53 i53:=⟨call53,Tryz.f53,func53,rfl,rfl,rfl⟩
theorem o54:FOk prog 54 i54:=⟨call54,Tryz.f54,func54,rfl,rfl,rfl⟩
theorem o56:FOk prog 56 i56:=⟨call56,Tryz.f56,func56,rfl,rfl,rfl⟩
theorem o57:FOk prog 57 i57:=⟨call57,Tryz.f57,func57,rfl,rfl,rfl⟩
theorem o58:FOk prog 58 i58:=⟨call58,Tryz.f58,func58,rfl,rfl,rfl⟩
theorem o59:FOk prog 59 i59:=⟨call59,Tryz.f59,func59,rfl,rfl,rfl⟩
theorem o60:FOk prog 60 i60:=⟨call60,Tryz.f60,func60,rfl,rfl,rfl⟩
theorem o61:FOk prog 61 i61:=⟨call61,Tryz.f61,func61,rfl,rfl,rfl⟩
theorem o74:FOk prog 74 i74:=⟨call74,Tryz.f74,func74,rfl,rfl,rfl⟩
theorem o75:FOk prog 75 i75:=⟨call75,Tryz.f75,func75,rfl,rfl,rfl⟩
theorem o76:FOk prog 76 i76:=⟨call76,Tryz.f76,func76,rfl,rfl,rfl⟩
theorem o83:FOk prog 83 i83:=⟨call83,Tryz.f83,func83,rfl,rfl,rfl⟩
theorem o84:FOk prog 84 i84:=⟨call84,Tryz.f84,func84,rfl,rfl,rfl⟩
theorem o87:FOk prog 87 i87:=⟨call87,Tryz.f87,func87,rfl,rfl,rfl⟩
theorem o92:FOk prog 92 i92:=⟨call92,Tryz.f92,func92,rfl,rfl,rfl⟩
theorem o96:FOk prog 96 i96:=⟨call96,Tryz.f96,func96,rfl,rfl,rfl⟩
theorem o97:FOk prog 97 i97:=⟨call97,Tryz.f97,func97,rfl,rfl,rfl⟩
theorem o98:FOk prog 98 i98:=⟨call98,Tryz.f98,func98,rfl,rfl,rfl⟩
theorem o102:FOk prog 102 i102:=⟨call102,Tryz.f102,func102,rfl,rfl,rfl⟩
theorem o108:FOk prog 108 i108:=⟨call108,Tryz.f108,func108,rfl,rfl,rfl⟩
theorem o109:FOk prog 109 i109:=⟨call109,Tryz.f109,func109,rfl,rfl,rfl⟩
theorem o111:FOk prog 111 i111:=⟨call111,Tryz.f111,func111,rfl,rfl,rfl⟩
theorem o120:FOk prog 120 i120:=⟨call120,Tryz.f120,func120,rfl,rfl,rfl⟩
theorem o136:FOk prog 136 i136:=⟨call136,Tryz.f136,func136,rfl,rfl,rfl⟩
theorem o137:FOk prog 137 i137:=⟨call137,Tryz.f137,func137,rfl,rfl,rfl⟩
theorem o138:FOk prog 138 i138:=⟨call138,Tryz.f138,func138,rfl,rfl,rfl⟩
theorem o139:FOk prog 139 i139:=⟨call139,Tryz.f139,func139,rfl,rfl,rfl⟩
theorem o154:FOk prog 154 i154:=⟨call154,Tryz.f154,func154,rfl,rfl,rfl⟩
theorem o157:FOk prog 157 i157:=⟨call157,Tryz.f157,func157,rfl,rfl,rfl⟩
theorem o171:FOk prog 171 i171:=⟨call171,Tryz.f171,func171,rfl,rfl,rfl⟩
theorem o176:FOk prog 176 i176:=⟨call176,Tryz.f176,func176,rfl,rfl,rfl⟩
theorem o192:FOk prog 192 i192:=⟨call192,Tryz.f192,func192,rfl,rfl,rfl⟩
theorem o193:FOk prog 193 i193:=⟨call193,Tryz.f193,func193,rfl,rfl,rfl⟩
theorem o194:FOk prog 194 i194:=⟨call194,Tryz.f194,func194,rfl,rfl,rfl⟩
theorem o198:FOk prog 198 i198:=⟨call198,Tryz.f198,func198,rfl,rfl,rfl⟩
theorem o199:FOk prog 199 i199:=⟨call199,Tryz.f199,func199,rfl,rfl,rfl⟩
theorem o200:FOk prog 200 i200:=⟨call200,Tryz.f200,func200,rfl,rfl,rfl⟩
theorem o201:FOk prog 201 i201:=⟨call201,Tryz.f201,func201,rfl,rfl,rfl⟩
theorem o202:FOk prog 202 i202:=⟨call202,Tryz.f202,func202,rfl,rfl,rfl⟩
theorem o203:FOk prog 203 i203:=⟨call203,Tryz.f203,func203,rfl,rfl,rfl⟩
theorem o204:FOk prog 204 i204:=⟨call204,Tryz.f204,func204,rfl,rfl,rfl⟩
theorem o210:FOk prog 210 i210:=⟨call210,Tryz.f210,func210,rfl,rfl,rfl⟩
theorem o221:FOk prog 221 i221:=⟨call221,Tryz.f221,func221,rfl,rfl,rfl⟩
theorem o245:FOk prog 245 i245:=⟨call245,Tryz.f245,func245,rfl,rfl,rfl⟩
theorem o253:FOk prog 253 i253:=⟨call253,Tryz.f253,func253,rfl,rfl,rfl⟩
theorem o254:FOk prog 254 i254:=⟨call254,Tryz.f254,func254,rfl,rfl,rfl⟩
theorem o255:FOk prog 255 i255:=⟨call255,Tryz.f255,func255,rfl,rfl,rfl⟩
theorem o265:FOk prog 265 i265:=⟨call265,Tryz.f265,func265,rfl,rfl,rfl⟩
theorem o271:FOk prog 271 i271:=⟨call271,Tryz.f271,func271,rfl,rfl,rfl⟩
theorem o280:FOk prog 280 i280:=⟨call280,Tryz.f280,func280,rfl,rfl,rfl⟩
theorem o290:FOk prog 290 i290:=⟨call290,Tryz.f290,func290,rfl,rfl,rfl⟩
theorem o291:FOk prog 291 i291:=⟨call291,Tryz.f291,func291,rfl,rfl,rfl⟩
theorem o292:FOk prog 292 i292:=⟨call292,Tryz.f292,func292,rfl,rfl,rfl⟩
theorem o293:FOk prog 293 i293:=⟨call293,Tryz.f293,func293,rfl,rfl,rfl⟩
theorem fall:YL (FOk prog) (fun m=>m) FNt:=⟨⟨⟨⟨⟨⟨⟨⟨⟨trivial,o255,trivial⟩,trivial,trivial⟩,trivial,trivial⟩,o31,trivial⟩,o15,⟨⟨⟨⟨trivial,o271,trivial⟩,trivial,trivial⟩,trivial,trivial⟩,trivial,⟨trivial,o111,trivial⟩⟩⟩,trivial,⟨⟨⟨trivial,trivial,⟨trivial,o199,trivial⟩⟩,trivial,trivial⟩,trivial,⟨⟨trivial,o87,trivial⟩,trivial,trivial⟩⟩⟩,trivial,⟨⟨⟨trivial,trivial,⟨⟨⟨trivial,o291,trivial⟩,trivial,trivial⟩,trivial,trivial⟩⟩,trivial,⟨⟨trivial,o83,trivial⟩,trivial,trivial⟩⟩,trivial,⟨⟨⟨⟨trivial,o139,trivial⟩,o75,⟨trivial,o203,trivial⟩⟩,trivial,⟨⟨trivial,o171,trivial⟩,trivial,trivial⟩⟩,trivial,⟨trivial,o59,trivial⟩⟩⟩⟩,trivial,⟨⟨⟨⟨⟨trivial,trivial,⟨trivial,o193,trivial⟩⟩,trivial,⟨trivial,o97,trivial⟩⟩,trivial,trivial⟩,trivial,⟨⟨⟨⟨⟨trivial,o265,trivial⟩,o137,trivial⟩,trivial,⟨trivial,o201,trivial⟩⟩,o41,trivial⟩,trivial,⟨trivial,o57,trivial⟩⟩⟩,trivial,⟨⟨⟨trivial,trivial,⟨⟨⟨trivial,o293,trivial⟩,trivial,trivial⟩,trivial,trivial⟩⟩,o21,⟨trivial,o53,⟨trivial,trivial,⟨trivial,o245,trivial⟩⟩⟩⟩,trivial,⟨⟨trivial,o45,⟨trivial,o109,trivial⟩⟩,o29,⟨⟨⟨trivial,o157,trivial⟩,trivial,⟨trivial,o221,trivial⟩⟩,o61,⟨trivial,trivial,⟨trivial,o253,trivial⟩⟩⟩⟩⟩⟩⟩,trivial,⟨⟨⟨⟨⟨⟨trivial,trivial,⟨trivial,o192,trivial⟩⟩,trivial,⟨trivial,o96,trivial⟩⟩,o16,⟨trivial,trivial,⟨⟨trivial,o176,trivial⟩,trivial,trivial⟩⟩⟩,trivial,⟨⟨⟨⟨trivial,o136,trivial⟩,trivial,⟨trivial,o200,trivial⟩⟩,trivial,trivial⟩,trivial,⟨⟨⟨⟨trivial,o280,trivial⟩,trivial,trivial⟩,trivial,trivial⟩,o56,⟨trivial,o120,trivial⟩⟩⟩⟩,trivial,⟨⟨⟨trivial,trivial,⟨⟨⟨trivial,o292,trivial⟩,trivial,trivial⟩,trivial,trivial⟩⟩,trivial,⟨⟨trivial,o84,trivial⟩,trivial,trivial⟩⟩,trivial,⟨⟨⟨trivial,o76,⟨trivial,o204,trivial⟩⟩,trivial,⟨trivial,o108,trivial⟩⟩,trivial,⟨⟨trivial,o92,trivial⟩,o60,trivial⟩⟩⟩⟩,trivial,⟨⟨⟨⟨⟨trivial,trivial,⟨trivial,o194,trivial⟩⟩,o34,⟨⟨⟨trivial,o290,trivial⟩,trivial,trivial⟩,o98,trivial⟩⟩,trivial,⟨⟨trivial,trivial,⟨trivial,o210,trivial⟩⟩,trivial,trivial⟩⟩,trivial,⟨⟨⟨⟨trivial,o138,trivial⟩,o74,⟨trivial,o202,trivial⟩⟩,trivial,trivial⟩,o26,⟨⟨⟨trivial,o154,trivial⟩,trivial,trivial⟩,o58,trivial⟩⟩⟩,trivial,⟨⟨⟨⟨trivial,trivial,⟨trivial,o198,trivial⟩⟩,trivial,⟨trivial,o102,trivial⟩⟩,trivial,⟨trivial,o54,trivial⟩⟩,trivial,⟨⟨trivial,o46,trivial⟩,trivial,⟨trivial,trivial,⟨trivial,trivial,⟨trivial,o254,trivial⟩⟩⟩⟩⟩⟩⟩⟩
theorem fok:FnOk prog FNt:=fok_of fall
end Go.Af.Tryz.W
namespace Go.Af.Tryz.W
open Go Go.Proofs
theorem vj0:(evN FNt EE 100).call 0 15 [] .e 0 (fun v _ _=>match v with | .bool b=>b | _=>false)=true:=by kernel_rfl
end Go.Af.Tryz.W
namespace Go.Af.Tryz.W
open Go Go.Proofs
theorem works:qj Tryz.prog 15 [] [] (fun v H=>v = .bool true/\H = []) :=
 Qm ((run_ok fok eok mx vj0).mono fun v H h=>by
  split at h
  ·rename_i b;subst h
   exact⟨[], .bool true,[],by simp,zl0 rfl,trivial,rfl,VRen.plain rfl,rfl,rfl⟩
  ·cases h)
theorem worksX (H:List Blk) {R:Value->List Blk->Prop} (h:R (.bool true) H):qI Tryz.prog 15 [] H R :=
 XR works [] rfl .nil trivial rfl h
end Go.Af.Tryz.W
