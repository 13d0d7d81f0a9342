/-
  What a process holds in the end, as a call that the computing machine need not run (for tasks without a grid).
  The examples of the chapter on schedules hold: the program's function works, computed.
  The examples of the chapter on schedules hold, wherever works is called.
-/
import Derived.Test.YtmnjcogpchodhaaGreatMGF
import Derived.Test.YtmnjcogpchodhaaGreatME
import Derived.Test.YtmnjcogpchodhaaGreatMS2
import Derived.Test.YtmnjcogpchodhaaGreatMF
import Derived.Test.YtmnjcogpchodhaaGreatMB
import Derived.Test.YtmnjcogpchodhaaGreatProg
import Derived.KernelRfl
set_option linter.all false
noncomputable section
namespace Go.Af
open Go
theorem Fr.fewer {n n' : Nat} {m m' : LM} {H H' : List Blk} {w w' : World} (hn:n' <= n) (hl:n<=H.length) (h:Fr n m H w m' H' w'):Fr n' m H w m' H' w' :=
 ⟨h.size,fun _=>Nat.le_trans hn (h.len hl),fun i hi=>h.base i (by omega),fun i hi=>h.base' i (by omega),fun i hi=>h.rw i (by omega),h.keep,h.out⟩
theorem acall_seen {P:Program} {f:FuncId} {args args' : List Value} {H Hs:List Blk} {R:Value->List Blk->Prop} (h:qC P f args' Hs R) (hl : ∀ (m:LM) (ys:List Value),LRel m args ys->LRel m args' ys) (hh:WkH H Hs):qC P f args H R :=
 ⟨h.1,fun m aR w hr hw=>(h.2 m aR w (hl m _ hr) (hw.weak hh)).mono fun _ _ ⟨v,H',m',r1,r2,r3,r4⟩=>⟨v,H',m',r1,r2,r3,(r4.fewer hh.1 (Nat.le_refl _)).weak hh hw (Nat.le_refl _)⟩⟩
def VUp (v v' : Value):Prop := ∀ (m:LM) (u:Value),VRel m v u->VRel m v' u
def LUp (l l' : List Value):Prop := ∀ (m:LM) (us:List Value),LRel m l us->LRel m l' us
theorem VUp.rfl {v:Value}:VUp v v:=fun _ _ h=>h
theorem VUp.nil (b:Nat):VUp (.slice none 0 0) (.slice (some ⟨b,0,none⟩) 0 0):=fun m u h=>by cases h;exact .sliceZero b 0 none
theorem LUp.nil:LUp [] []:=fun _ _ h=>h
theorem LUp.cons {x x' : Value} {xs xs' : List Value} (h:VUp x x') (hs:LUp xs xs'):LUp (x::xs) (x' :: xs'):=fun m ys hr=>by
 obtain ⟨y,ys',rfl,h1,h2⟩:=hr.inv_cons
 exact .cons (h m _ h1) (hs m _ h2)
theorem VUp.agg {xs xs' : Array Value} (h:LUp xs.toList xs'.toList):VUp (.agg xs) (.agg xs'):=fun m vR hr=>by
 obtain ⟨ys,rfl,hl⟩:=hr.inv_agg;exact .agg' (h m _ hl)
end Go.Af
namespace Go.Af.Tryz
open Go Go.Proofs
attribute [local irreducible] awp qC vK vS vH

theorem fisC_int (l:List Fi) : ∀ v∈fisC l, ∃ z,v = .int .i64 z:=by
 intro v hv
 obtain ⟨x,_,hx⟩:=List.mem_flatMap.1 hv
 simp only[fiC,List.mem_cons,List.not_mem_nil,or_false] at hx
 rcases hx with rfl | rfl | rfl | rfl <;> exact⟨_,rfl⟩
theorem fisC_plain (l:List Fi) : ∀ v∈fisC l,wR 6 v=true:=fun v hv=>by
 obtain ⟨z,rfl⟩:=fisC_int l v hv;rfl

abbrev tk0 (op pr ro pa:Int):Tk:=⟨op,pr,ro,pa,[],[]⟩
abbrev tk0V (op pr ro pa:Int):Value := .agg ⟨[.int .i64 op, .int .i64 pr, .int .i64 ro, .int .i64 pa, .slice none 0 0, .slice none 0 0]⟩
theorem c77z {op pr ro pa r:Int} (kt:TkOk (tk0 op pr ro pa)) (hr:0<=r/\r<pr) :
 qC Tryz.prog 77 [tk0V op pr ro pa, .int .i64 r] [] (fun v H' => v=sv 0 (finF (tk0 op pr ro pa) r).length/\H' = [.cells true 4 (fisC (finF (tk0 op pr ro pa) r))]):=by
 refine acall_drop ?_
 refine acall_seen (Hs := [Go.Af.ro [], .cells false 1 []]) (args' := [tkV (tk0 op pr ro pa) 0 1, .int .i64 r]) ?_ ?_ ⟨by simp,fun i b b' h=>by simp at h⟩
 ·refine (c77 (t:=tk0 op pr ro pa) (H := [Go.Af.ro [], .cells false 1 []]) (b:=0) (c:=1) kt ⟨_,rfl⟩ ⟨by decide,_,rfl⟩ hr (R:=fun v H' => ∃ k,HS [Go.Af.ro [], .cells false 1 []] none' [(true,k, .cells true 4 (fisC (finF (tk0 op pr ro pa) r)))] H' /\ v=sv k (finF (tk0 op pr ro pa) r).length) (fun H' k hs=>⟨k,hs,rfl⟩)).mono ?_
  rintro v H' ⟨k,hs,rfl⟩
  have hb:=hs.get 0 rfl
  refine⟨[(k,0)],sv 0 (finF (tk0 op pr ro pa) r).length,[.cells true 4 (fisC (finF (tk0 op pr ro pa) r))],Nat.zero_le _,(fun i hi=>by simp at hi),⟨⟨_,hb, ?_⟩,trivial⟩,rfl, ?_,rfl,rfl⟩
  ·exact BRen.cells (fun h=>h) (fun i x2 hx=>⟨x2,by rw[Nat.zero_add];exact hx,VRen.plain (fisC_plain _ x2 (List.mem_of_getElem? hx))⟩)
  ·exact VRen.slice (s:=0) rfl rfl (Nat.le_refl _)
 ·exact LUp.cons (VUp.agg (LUp.cons VUp.rfl (LUp.cons VUp.rfl (LUp.cons VUp.rfl (LUp.cons VUp.rfl (LUp.cons (VUp.nil 0) (LUp.cons (VUp.nil 1) LUp.nil))))))) (LUp.cons VUp.rfl LUp.nil)
def orc77:List Value->(Nat->Option (Nat × List Value))->Nat->Option (Value × List (Nat × List Value))
 | [.agg xs, .int .i64 r],_,n=>match xs.toList with
   | [.int .i64 op, .int .i64 pr, .int .i64 ro, .int .i64 pa, .slice none 0 0, .slice none 0 0]=>match decide (chkF (tk0 op pr ro pa)=0),ile 0 r,ilt r pr with
     | true,true,true=>some (sv n (finF (tk0 op pr ro pa) r).length,[(4,fisC (finF (tk0 op pr ro pa) r))])
     | _,_,_=>none
   | _=>none
 | _,_,_=>none
theorem orc77_ok:OrcOk Tryz.prog 77 orc77:=by
 intro args mem H v bs hm hg
 clear hm
 unfold orc77 at hg
 split at hg
 ·rename_i xs r
  split at hg
  ·rename_i op pr ro pa hx
   split at hg
   ·rename_i h1 h2 h3
    cases hg
    have kt:=tk_ok (of_decide_eq_true h1)
    rw[ile_eq] at h2
    rw[ilt_eq] at h3
    have hr:0<=r/\r<pr:=⟨of_decide_eq_true h2,of_decide_eq_true h3⟩
    have ex:xs=⟨[.int .i64 op, .int .i64 pr, .int .i64 ro, .int .i64 pa, .slice none 0 0, .slice none 0 0]⟩:=Array.toList_inj.1 hx
    subst ex
    generalize hf:finF (tk0 op pr ro pa) r=fi
    have hc:=c77z kt hr
    rw[hf] at hc
    refine (acallx_ro (H:=H) (R:=fun v' H' => v' = sv H.length fi.length/\H' = H ++ [.cells true 4 (fisC fi)]) hc [] rfl (.cons (VRen.plain rfl) (.cons (.int _ _) .nil)) trivial ?_).call
    rintro v2 H2' ⟨rfl,rfl⟩
    refine⟨sv H.length fi.length,[.cells true 4 (fisC fi)],[.cells true 4 (fisC fi)],rfl,rfl,fun k b2 hk=>?_, ?_,rfl,rfl⟩
    ·cases k with
     | zero=>cases hk;exact⟨.inl rfl,_,rfl,BBack.cells (LBack.plain (List.all_eq_true.2 (fisC_plain fi))) rfl⟩
     | succ k=>simp at hk
    ·exact VBack.slice (i:=H.length) (s:=0) rfl
   ·cases hg
  ·cases hg
 ·cases hg
end Go.Af.Tryz
namespace Go.Af.Tryz.W
open Go Go.Proofs
set_option maxRecDepth 100000
abbrev T:TT:=Go.Af.Tryz.T
theorem tok:TOk Tryz.prog T:=Go.Af.Tryz.tok
theorem mx:Tryz.prog.follows .mixedOrders=true:=by kernel_rfl
def Ms:List (String × List (Nat × Nat)) := []
theorem aggEq48:AggEq Tryz.prog 48 [.i64, .i64, .i64, .i64, .i64, .i64]:=aggEq_struct (by kernel_rfl) (by kernel_rfl) (by kernel_rfl) (zN (by kernel_rfl))
theorem aggEq105:AggEq Tryz.prog 105 [.i64, .i64]:=aggEq_struct (by kernel_rfl) (by kernel_rfl) (by kernel_rfl) (zN (by kernel_rfl))
theorem mkey105:MKey Tryz.prog 105 [.i64, .i64]:=zX (by kernel_rfl) (by kernel_rfl) (by kernel_rfl) (zN (by kernel_rfl))
theorem mkey146:MKey Tryz.prog 146 [.i64, .i64]:=zX (by kernel_rfl) (by kernel_rfl) (by kernel_rfl) (zN (by kernel_rfl))
def EE:Env := { T:=T,eqs := [(48,[.i64, .i64, .i64, .i64, .i64, .i64]),(105,[.i64, .i64])],mks := [(105,[.i64, .i64]),(146,[.i64, .i64])],ms:=Ms,ors := [(99,orc99),(77,orc77)] }
theorem eok:EOk Tryz.prog EE:=by
 refine⟨tok,fun t ks h=>(by
  simp only[EE,List.mem_cons,List.not_mem_nil,or_false,Prod.mk.injEq] at h
  rcases h with ⟨rfl,rfl⟩ | ⟨rfl,rfl⟩
  ·exact aggEq48
  ·exact aggEq105),fun t ks h=>(by
  simp only[EE,List.mem_cons,List.not_mem_nil,or_false,Prod.mk.injEq] at h
  rcases h with ⟨rfl,rfl⟩ | ⟨rfl,rfl⟩
  ·exact mkey105
  ·exact mkey146),fun name m h t f hm v w=>?_,fun f v h=>(by
  simp only[EE,List.mem_cons,List.not_mem_nil,or_false,Prod.mk.injEq] at h
  rcases h with ⟨rfl,rfl⟩ | ⟨rfl,rfl⟩
  ·exact orc99_ok
  ·exact orc77_ok)⟩
 simp[EE,Ms] at h
def i15:FI:=fiOf Tryz.f15 [(2, .ord [0,0,2,6,15,31,63,127,127,383,895,1919,4095,8191,16383] [false,false,false,false,false,false,false,false,true,true,true,true,false,false,false] [0,1,2,3,4,5,6,7,8,9,10,11,12,13,14])]
def i16:FI:=fiOf Tryz.f16 [(6, .ord [0,1,3,7,0,16,48,127,127,383,1023,2047,4095,8191] [false,false,false,true,true,true,true,false,false,false,false,false,false,false] [0,1,2,4,5,6,3,8,9,7,10,11,12,13]),(9, .ord [0,0,2,7,0,31,0,127] [true,false,false,true,true,true,true,false] [1,2,4,6,0,3,5,7]),(17, .ord [0,1,0,0,8,0,32,0,0,256,0,1792,3840,0,8192,32764,65532,131071,262143,524287] [false,false,true,true,true,true,true,true,true,true,true,true,true,true,true,true,true,false,false,false] [0,1,2,3,4,5,6,7,8,9,10,11,12,13,14,15,16,17,18,19])]
def i21:FI:=fiOf Tryz.f21 [(25, .ord [0,0,3,7,0,16,63,127,255,0] [false,false,false,false,true,true,false,false,false,true] [0,1,2,3,4,5,6,7,8,9]),(36, .ord [0,0,0,0,12,28,0,64,192,448,1020,2047,4095] [false,false,false,false,false,false,true,true,true,true,false,false,false] [0,1,2,3,4,5,6,7,8,9,10,11,12])]
def i26:FI:=fiOf Tryz.f26 []
def i29:FI:=fiOf Tryz.f29 [(14, .ord [0,1,3,7,15,31,63,127,255,511,1023,2047,4095,8191,4095,20479,65535,131071,4095,524287,1048575,2097151,4194303,8388607] [false,false,false,false,false,false,false,false,false,false,false,false,false,false,true,true,false,false,true,false,false,false,false,false] [0,1,2,3,4,5,6,7,8,9,10,11,12,13,14,15,16,17,18,19,20,21,22,23]),(16, .ord [0,1,3,7,15,7,39,127,255,511,7,1031,4095,8191] [false,false,false,false,false,true,true,false,false,false,true,true,false,false] [0,1,2,3,4,5,6,7,8,9,10,11,12,13]),(24, .tree [0,1,0,4,0,16,0,64,0,256,0,1024,783,8191] [false,false,true,true,true,true,true,true,true,true,true,true,false,false] (.first 0 (.first 1 (.first 2 (.first 3 (.first 4 (.first 6 (.first 8 (.first 9 (.first 10 (.alt 5 (.alt 7 (.alt 11 (.first 12 (.first 13 .done)) (.alt 12 (.first 11 (.first 13 .done)) .no)) (.alt 11 (.alt 7 (.first 12 (.first 13 .done)) (.alt 12 (.first 7 (.first 13 .done)) .no)) (.alt 12 (.first 7 (.first 11 (.first 13 .done))) .no))) (.alt 7 (.alt 5 (.alt 11 (.first 12 (.first 13 .done)) (.alt 12 (.first 11 (.first 13 .done)) .no)) (.alt 11 (.alt 5 (.first 12 (.first 13 .done)) (.alt 12 (.first 5 (.first 13 .done)) .no)) (.alt 12 (.first 5 (.first 11 (.first 13 .done))) .no))) (.alt 11 (.alt 5 (.alt 7 (.first 12 (.first 13 .done)) (.alt 12 (.first 7 (.first 13 .done)) .no)) (.alt 7 (.alt 5 (.first 12 (.first 13 .done)) (.alt 12 (.first 5 (.first 13 .done)) .no)) (.alt 12 (.first 5 (.first 7 (.first 13 .done))) .no))) (.alt 12 (.first 5 (.first 7 (.first 11 (.first 13 .done)))) .no))))))))))))))]
def i31:FI:=fiOf Tryz.f31 []
def i34:FI:=fiOf Tryz.f34 [(4, .ord [0,1,0,4,15,31,63] [false,true,true,true,false,false,false] [0,2,3,1,4,5,6])]
def i41:FI:=fiOf Tryz.f41 [(6, .ord [0,0,2,7,15] [true,false,false,false,false] [1,2,0,3,4])] 2
def i45:FI:=fiOf Tryz.f45 []
def i46:FI:=fiOf Tryz.f46 []
def i53:FI:=fiOf Tryz.f53 [(7, .ord [0,1,0,7,15,0,0,96,224,511] [false,false,true,false,false,true,true,true,true,false] [0,1,2,3,4,5,6,7,8,9])]
def i54:FI:=fiOf Tryz.f54 []
def i56:FI:=fiOf Tryz.f56 []
def i57:FI:=fiOf Tryz.f57 []
def i58:FI:=fiOf Tryz.f58 []
def i59:FI:=fiOf Tryz.f59 []
def i60:FI:=fiOf Tryz.f60 []
def i61:FI:=fiOf Tryz.f61 [(1, .ord [0,1,0,4,15,0,32,0,128,480,0,1024,0,4096,15360,0,32768,0,131072,491520,0,1048576,0,4194304,16744448,33554431,67108863,134217727] [false,false,true,true,false,true,true,true,true,true,true,true,true,true,true,true,true,true,true,true,true,true,true,true,true,false,false,false] [0,1,2,3,4,5,6,7,8,9,10,11,12,13,14,15,16,17,18,20,21,22,23,19,24,25,26,27])]
def i74:FI:=fiOf Tryz.f74 [(10, .ord [0,1,0,0,0,24,56,0,128,504,1016,2047,4095] [false,false,true,true,true,true,true,true,true,true,true,false,false] [0,1,2,3,4,5,6,7,8,9,10,11,12])]
def i75:FI:=fiOf Tryz.f75 []
def i76:FI:=fiOf Tryz.f76 []
def i83:FI:=fiOf Tryz.f83 []
def i84:FI:=fiOf Tryz.f84 []
def i87:FI:=fiOf Tryz.f87 []
def i92:FI:=fiOf Tryz.f92 [(13, .ord [0,0,2,7,15] [false,true,true,false,false] [0,1,2,3,4])]
def i96:FI:=fiOf Tryz.f96 []
def i97:FI:=fiOf Tryz.f97 []
def i98:FI:=fiOf Tryz.f98 []
def i102:FI:=fiOf Tryz.f102 [(5, .ord [0,0,0,4,12,0,32,96,252,508,1023,2047] [false,true,true,true,true,true,true,true,true,true,false,false] [0,1,2,3,5,6,7,4,8,9,10,11]),(16, .ord [0,0,2,6,15,31,63,127,63,511,1023,2047,63,4159,63,28735,61503,127039,262143,524287] [false,false,false,false,false,false,false,false,true,false,false,false,true,true,true,true,true,true,false,false] [0,1,2,3,4,5,6,7,8,9,10,11,12,13,14,15,16,17,18,19]),(19, .ord [0,0,2,7,15,0,32,127,255,0,0,1024,3584,7680,0,16384,65024,130560,511,524287] [false,true,true,false,false,true,true,false,false,true,true,true,true,true,true,true,true,true,true,false] [0,1,2,3,4,5,6,7,8,9,10,11,12,13,14,15,16,17,18,19]),(33, .ord [0,0,2,7,15,0,32,0,255,511] [false,true,true,false,false,true,true,true,false,false] [0,1,2,3,4,5,6,7,8,9])]
def i108:FI:=fiOf Tryz.f108 []
def i109:FI:=fiOf Tryz.f109 []
def i111:FI:=fiOf Tryz.f111 [(1, .ord [0,0,3,7] [true,false,false,false] [1,0,2,3])]
def i120:FI:=fiOf Tryz.f120 [(1, .ord [0,0,3,7] [true,false,false,false] [1,0,2,3])]
def i136:FI:=fiOf Tryz.f136 [(17, .ord [0,1,3,7,7,7,39,119,247,7,7,1543,3591,8191,16383,32767,65535] [false,false,false,false,false,false,false,false,false,true,true,true,true,false,false,false,false] [0,1,2,3,4,5,6,7,8,9,10,11,12,13,14,15,16])]
def i137:FI:=fiOf Tryz.f137 []
def i138:FI:=fiOf Tryz.f138 []
def i139:FI:=fiOf Tryz.f139 []
def i154:FI:=fiOf Tryz.f154 [(2, .ord [0,1,3,7,15,31,63,15,143,511,1023,2047] [false,false,false,false,false,false,false,true,true,false,false,false] [0,1,2,3,4,5,6,7,8,9,10,11])]
def i157:FI:=fiOf Tryz.f157 []
def i171:FI:=fiOf Tryz.f171 [(17, .ord [0,1,3,7,7,23,63,127,7,7,775,1799,4095,8191,16383] [false,false,false,false,false,false,false,false,true,true,true,true,false,false,false] [0,1,2,3,4,5,6,7,8,9,10,11,12,13,14])]
def i176:FI:=fiOf Tryz.f176 []
def i192:FI:=fiOf Tryz.f192 []
def i193:FI:=fiOf Tryz.f193 []
def i194:FI:=fiOf Tryz.f194 []
def i198:FI:=fiOf Tryz.f198 []
def i199:FI:=fiOf Tryz.f199 []
def i200:FI:=fiOf Tryz.f200 []
def i201:FI:=fiOf Tryz.f201 []
def i202:FI:=fiOf Tryz.f202 []
def i203:FI:=fiOf Tryz.f203 []
def i204:FI:=fiOf Tryz.f204 [(5, .ord [0,0,0,6,0,0,0,96,254,0,1022,2046,4094,8191,16383] [false,false,true,true,true,true,true,true,true,true,false,false,false,false,false] [0,1,2,4,5,6,7,9,3,8,10,11,12,13,14])]
def i210:FI:=fiOf Tryz.f210 [(1, .ord [0,0,2,7,0,16,63,0,128,511,1023] [false,false,false,false,true,true,false,true,true,false,false] [0,1,2,3,4,5,6,7,8,9,10])]
def i221:FI:=fiOf Tryz.f221 []
def i245:FI:=fiOf Tryz.f245 [(4, .ord [0,0,3,7,15,15,15,111,239,15,15,1039,3599,7695,16383,32767,65535] [false,false,false,false,false,false,false,false,false,true,true,true,true,true,false,false,false] [0,1,2,3,4,5,6,7,8,9,10,11,12,13,14,15,16]),(6, .ord [0,0,0,0,8,0,0,64,224,480,0,0,3072,7168,16355,32739,65535,131071] [false,false,false,false,false,false,false,false,false,false,true,true,true,true,false,false,false,false] [0,1,2,3,4,5,6,7,8,9,10,11,12,13,14,15,16,17])]
def i253:FI:=fiOf Tryz.f253 []
def i254:FI:=fiOf Tryz.f254 []
def i255:FI:=fiOf Tryz.f255 []
def i265:FI:=fiOf Tryz.f265 [(4, .ord [0,0,3,7,15,15,63,127,15,15,527,1807,3855,8191,16383] [false,false,false,false,false,false,false,false,true,true,true,true,true,false,false] [0,1,2,3,4,5,6,7,8,9,10,11,12,13,14]),(6, .ord [0,0,0,0,8,0,0,64,224,480,0,0,3072,7168,16355,32739,65535,131071] [false,false,false,false,false,false,false,false,false,false,true,true,true,true,false,false,false,false] [0,1,2,3,4,5,6,7,8,9,10,11,12,13,14,15,16,17])]
def i271:FI:=fiOf Tryz.f271 []
def i280:FI:=fiOf Tryz.f280 []
def i290:FI:=fiOf Tryz.f290 []
def i291:FI:=fiOf Tryz.f291 [] 2
def i292:FI:=fiOf Tryz.f292 []
def i293:FI:=fiOf Tryz.f293 []
def FNt:Tr FI:=(.n (.n (.n (.n (.n (.n (.n (.n (.n .e (some i255) .e) none .e) none .e) (some i31) .e) (some i15) (.n (.n (.n (.n .e (some i271) .e) none .e) none .e) none (.n .e (some i111) .e))) none (.n (.n (.n .e none (.n .e (some i199) .e)) none .e) none (.n (.n .e (some i87) .e) none .e))) none (.n (.n (.n .e none (.n (.n (.n .e (some i291) .e) none .e) none .e)) none (.n (.n .e (some i83) .e) none .e)) none (.n (.n (.n (.n .e (some i139) .e) (some i75) (.n .e (some i203) .e)) none (.n (.n .e (some i171) .e) none .e)) none (.n .e (some i59) .e)))) none (.n (.n (.n (.n (.n .e none (.n .e (some i193) .e)) none (.n .e (some i97) .e)) none .e) none (.n (.n (.n (.n (.n .e (some i265) .e) (some i137) .e) none (.n .e (some i201) .e)) (some i41) .e) none (.n .e (some i57) .e))) none (.n (.n (.n .e none (.n (.n (.n .e (some i293) .e) none .e) none .e)) (some i21) (.n .e (some i53) (.n .e none (.n .e (some i245) .e)))) none (.n (.n .e (some i45) (.n .e (some i109) .e)) (some i29) (.n (.n (.n .e (some i157) .e) none (.n .e (some i221) .e)) (some i61) (.n .e none (.n .e (some i253) .e))))))) none (.n (.n (.n (.n (.n (.n .e none (.n .e (some i192) .e)) none (.n .e (some i96) .e)) (some i16) (.n .e none (.n (.n .e (some i176) .e) none .e))) none (.n (.n (.n (.n .e (some i136) .e) none (.n .e (some i200) .e)) none .e) none (.n (.n (.n (.n .e (some i280) .e) none .e) none .e) (some i56) (.n .e (some i120) .e)))) none (.n (.n (.n .e none (.n (.n (.n .e (some i292) .e) none .e) none .e)) none (.n (.n .e (some i84) .e) none .e)) none (.n (.n (.n .e (some i76) (.n .e (some i204) .e)) none (.n .e (some i108) .e)) none (.n (.n .e (some i92) .e) (some i60) .e)))) none (.n (.n (.n (.n (.n .e none (.n .e (some i194) .e)) (some i34) (.n (.n (.n .e (some i290) .e) none .e) (some i98) .e)) none (.n (.n .e none (.n .e (some i210) .e)) none .e)) none (.n (.n (.n (.n .e (some i138) .e) (some i74) (.n .e (some i202) .e)) none .e) (some i26) (.n (.n (.n .e (some i154) .e) none .e) (some i58) .e))) none (.n (.n (.n (.n .e none (.n .e (some i198) .e)) none (.n .e (some i102) .e)) none (.n .e (some i54) .e)) none (.n (.n .e (some i46) .e) none (.n .e none (.n .e none (.n .e (some i254) .e))))))))
theorem o15:FOk Tryz.prog 15 i15:=⟨Tryz.call15,Tryz.f15,Tryz.func15,rfl,rfl,rfl⟩
theorem o16:FOk Tryz.prog 16 i16:=⟨Tryz.call16,Tryz.f16,Tryz.func16,rfl,rfl,rfl⟩
theorem o21:FOk Tryz.prog 21 i21:=⟨Tryz.call21,Tryz.f21,Tryz.func21,rfl,rfl,rfl⟩
theorem o26:FOk Tryz.prog 26 i26:=⟨Tryz.call26,Tryz.f26,Tryz.func26,rfl,rfl,rfl⟩
theorem o29:FOk Tryz.prog 29 i29:=⟨Tryz.call29,Tryz.f29,Tryz.func29,rfl,rfl,rfl⟩
theorem o31:FOk Tryz.prog 31 i31:=⟨Tryz.call31,Tryz.f31,Tryz.func31,rfl,rfl,rfl⟩
theorem o34:FOk Tryz.prog 34 i34:=⟨Tryz.call34,Tryz.f34,Tryz.func34,rfl,rfl,rfl⟩
theorem o41:FOk Tryz.prog 41 i41:=⟨Tryz.call41,Tryz.f41,Tryz.func41,rfl,rfl,rfl⟩
theorem o45:FOk Tryz.prog 45 i45:=⟨Tryz.call45,Tryz.f45,Tryz.func45,rfl,rfl,rfl⟩
theorem o46:FOk Tryz.prog 46 i46:=⟨Tryz.call46,Tryz.f46,Tryz.func46,rfl,rfl,rfl⟩
theorem o53:FOk Tryz.prog 53 i53:=⟨Tryz.call53,Tryz.f53,Tryz.func53,rfl,rfl,rfl⟩
theorem o54:FOk Tryz.prog 54 i54:=⟨Tryz.call54,Tryz.f54,Tryz.func54,rfl,rfl,rfl⟩
theorem o56:FOk Tryz.prog 56 i56:=⟨Tryz.call56,Tryz.f56,Tryz.func56,rfl,rfl,rfl⟩
theorem o57:FOk Tryz.prog 57 i57:=⟨Tryz.call57,Tryz.f57,Tryz.func57,rfl,rfl,rfl⟩
theorem o58:FOk Tryz.prog 58 i58:=⟨Tryz.call58,Tryz.f58,Tryz.func58,rfl,rfl,rfl⟩
theorem o59:FOk Tryz.prog 59 i59:=⟨Tryz.call59,Tryz.f59,Tryz.func59,rfl,rfl,rfl⟩
theorem o60:FOk Tryz.prog 60 i60:=⟨Tryz.call60,Tryz.f60,Tryz.func60,rfl,rfl,rfl⟩
theorem o61:FOk Tryz.prog 61 i61:=⟨Tryz.call61,Tryz.f61,Tryz.func61,rfl,rfl,rfl⟩
theorem o74:FOk Tryz.prog 74 i74:=⟨Tryz.call74,Tryz.f74,Tryz.func74,rfl,rfl,rfl⟩
theorem o75:FOk Tryz.prog 75 i75:=⟨Tryz.call75,Tryz.f75,Tryz.func75,rfl,rfl,rfl⟩
theorem o76:FOk Tryz.prog 76 i76:=⟨Tryz.call76,Tryz.f76,Tryz.func76,rfl,rfl,rfl⟩
theorem o83:FOk Tryz.prog 83 i83:=⟨Tryz.call83,Tryz.f83,Tryz.func83,rfl,rfl,rfl⟩
theorem o84:FOk Tryz.prog 84 i84:=⟨Tryz.call84,Tryz.f84,Tryz.func84,rfl,rfl,rfl⟩
theorem o87:FOk Tryz.prog 87 i87:=⟨Tryz.call87,Tryz.f87,Tryz.func87,rfl,rfl,rfl⟩
theorem o92:FOk Tryz.prog 92 i92:=⟨Tryz.call92,Tryz.f92,Tryz.func92,rfl,rfl,rfl⟩
theorem o96:FOk Tryz.prog 96 i96:=⟨Tryz.call96,Tryz.f96,Tryz.func96,rfl,rfl,rfl⟩
theorem o97:FOk Tryz.prog 97 i97:=⟨Tryz.call97,Tryz.f97,Tryz.func97,rfl,rfl,rfl⟩
theorem o98:FOk Tryz.prog 98 i98:=⟨Tryz.call98,Tryz.f98,Tryz.func98,rfl,rfl,rfl⟩
theorem o102:FOk Tryz.prog 102 i102:=⟨Tryz.call102,Tryz.f102,Tryz.func102,rfl,rfl,rfl⟩
theorem o108:FOk Tryz.prog 108 i108:=⟨Tryz.call108,Tryz.f108,Tryz.func108,rfl,rfl,rfl⟩
theorem o109:FOk Tryz.prog 109 i109:=⟨Tryz.call109,Tryz.f109,Tryz.func109,rfl,rfl,rfl⟩
theorem o111:FOk Tryz.prog 111 i111:=⟨Tryz.call111,Tryz.f111,Tryz.func111,rfl,rfl,rfl⟩
theorem o120:FOk Tryz.prog 120 i120:=⟨Tryz.call120,Tryz.f120,Tryz.func120,rfl,rfl,rfl⟩
theorem o136:FOk Tryz.prog 136 i136:=⟨Tryz.call136,Tryz.f136,Tryz.func136,rfl,rfl,rfl⟩
theorem o137:FOk Tryz.prog 137 i137:=⟨Tryz.call137,Tryz.f137,Tryz.func137,rfl,rfl,rfl⟩
theorem o138:FOk Tryz.prog 138 i138:=⟨Tryz.call138,Tryz.f138,Tryz.func138,rfl,rfl,rfl⟩
theorem o139:FOk Tryz.prog 139 i139:=⟨Tryz.call139,Tryz.f139,Tryz.func139,rfl,rfl,rfl⟩
theorem o154:FOk Tryz.prog 154 i154:=⟨Tryz.call154,Tryz.f154,Tryz.func154,rfl,rfl,rfl⟩
theorem o157:FOk Tryz.prog 157 i157:=⟨Tryz.call157,Tryz.f157,Tryz.func157,rfl,rfl,rfl⟩
theorem o171:FOk Tryz.prog 171 i171:=⟨Tryz.call171,Tryz.f171,Tryz.func171,rfl,rfl,rfl⟩
theorem o176:FOk Tryz.prog 176 i176:=⟨Tryz.call176,Tryz.f176,Tryz.func176,rfl,rfl,rfl⟩
theorem o192:FOk Tryz.prog 192 i192:=⟨Tryz.call192,Tryz.f192,Tryz.func192,rfl,rfl,rfl⟩
theorem o193:FOk Tryz.prog 193 i193:=⟨Tryz.call193,Tryz.f193,Tryz.func193,rfl,rfl,rfl⟩
theorem o194:FOk Tryz.prog 194 i194:=⟨Tryz.call194,Tryz.f194,Tryz.func194,rfl,rfl,rfl⟩
theorem o198:FOk Tryz.prog 198 i198:=⟨Tryz.call198,Tryz.f198,Tryz.func198,rfl,rfl,rfl⟩
theorem o199:FOk Tryz.prog 199 i199:=⟨Tryz.call199,Tryz.f199,Tryz.func199,rfl,rfl,rfl⟩
theorem o200:FOk Tryz.prog 200 i200:=⟨Tryz.call200,Tryz.f200,Tryz.func200,rfl,rfl,rfl⟩
theorem o201:FOk Tryz.prog 201 i201:=⟨Tryz.call201,Tryz.f201,Tryz.func201,rfl,rfl,rfl⟩
theorem o202:FOk Tryz.prog 202 i202:=⟨Tryz.call202,Tryz.f202,Tryz.func202,rfl,rfl,rfl⟩
theorem o203:FOk Tryz.prog 203 i203:=⟨Tryz.call203,Tryz.f203,Tryz.func203,rfl,rfl,rfl⟩
theorem o204:FOk Tryz.prog 204 i204:=⟨Tryz.call204,Tryz.f204,Tryz.func204,rfl,rfl,rfl⟩
theorem o210:FOk Tryz.prog 210 i210:=⟨Tryz.call210,Tryz.f210,Tryz.func210,rfl,rfl,rfl⟩
theorem o221:FOk Tryz.prog 221 i221:=⟨Tryz.call221,Tryz.f221,Tryz.func221,rfl,rfl,rfl⟩
theorem o245:FOk Tryz.prog 245 i245:=⟨Tryz.call245,Tryz.f245,Tryz.func245,rfl,rfl,rfl⟩
theorem o253:FOk Tryz.prog 253 i253:=⟨Tryz.call253,Tryz.f253,Tryz.func253,rfl,rfl,rfl⟩
theorem o254:FOk Tryz.prog 254 i254:=⟨Tryz.call254,Tryz.f254,Tryz.func254,rfl,rfl,rfl⟩
theorem o255:FOk Tryz.prog 255 i255:=⟨Tryz.call255,Tryz.f255,Tryz.func255,rfl,rfl,rfl⟩
theorem o265:FOk Tryz.prog 265 i265:=⟨Tryz.call265,Tryz.f265,Tryz.func265,rfl,rfl,rfl⟩
theorem o271:FOk Tryz.prog 271 i271:=⟨Tryz.call271,Tryz.f271,Tryz.func271,rfl,rfl,rfl⟩
theorem o280:FOk Tryz.prog 280 i280:=⟨Tryz.call280,Tryz.f280,Tryz.func280,rfl,rfl,rfl⟩
theorem o290:FOk Tryz.prog 290 i290:=⟨Tryz.call290,Tryz.f290,Tryz.func290,rfl,rfl,rfl⟩
theorem o291:FOk Tryz.prog 291 i291:=⟨Tryz.call291,Tryz.f291,Tryz.func291,rfl,rfl,rfl⟩
theorem o292:FOk Tryz.prog 292 i292:=⟨Tryz.call292,Tryz.f292,Tryz.func292,rfl,rfl,rfl⟩
theorem o293:FOk Tryz.prog 293 i293:=⟨Tryz.call293,Tryz.f293,Tryz.func293,rfl,rfl,rfl⟩
theorem fall:TrAll (FOk Tryz.prog) (fun m=>m) FNt:=⟨⟨⟨⟨⟨⟨⟨⟨⟨trivial,o255,trivial⟩,trivial,trivial⟩,trivial,trivial⟩,o31,trivial⟩,o15,⟨⟨⟨⟨trivial,o271,trivial⟩,trivial,trivial⟩,trivial,trivial⟩,trivial,⟨trivial,o111,trivial⟩⟩⟩,trivial,⟨⟨⟨trivial,trivial,⟨trivial,o199,trivial⟩⟩,trivial,trivial⟩,trivial,⟨⟨trivial,o87,trivial⟩,trivial,trivial⟩⟩⟩,trivial,⟨⟨⟨trivial,trivial,⟨⟨⟨trivial,o291,trivial⟩,trivial,trivial⟩,trivial,trivial⟩⟩,trivial,⟨⟨trivial,o83,trivial⟩,trivial,trivial⟩⟩,trivial,⟨⟨⟨⟨trivial,o139,trivial⟩,o75,⟨trivial,o203,trivial⟩⟩,trivial,⟨⟨trivial,o171,trivial⟩,trivial,trivial⟩⟩,trivial,⟨trivial,o59,trivial⟩⟩⟩⟩,trivial,⟨⟨⟨⟨⟨trivial,trivial,⟨trivial,o193,trivial⟩⟩,trivial,⟨trivial,o97,trivial⟩⟩,trivial,trivial⟩,trivial,⟨⟨⟨⟨⟨trivial,o265,trivial⟩,o137,trivial⟩,trivial,⟨trivial,o201,trivial⟩⟩,o41,trivial⟩,trivial,⟨trivial,o57,trivial⟩⟩⟩,trivial,⟨⟨⟨trivial,trivial,⟨⟨⟨trivial,o293,trivial⟩,trivial,trivial⟩,trivial,trivial⟩⟩,o21,⟨trivial,o53,⟨trivial,trivial,⟨trivial,o245,trivial⟩⟩⟩⟩,trivial,⟨⟨trivial,o45,⟨trivial,o109,trivial⟩⟩,o29,⟨⟨⟨trivial,o157,trivial⟩,trivial,⟨trivial,o221,trivial⟩⟩,o61,⟨trivial,trivial,⟨trivial,o253,trivial⟩⟩⟩⟩⟩⟩⟩,trivial,⟨⟨⟨⟨⟨⟨trivial,trivial,⟨trivial,o192,trivial⟩⟩,trivial,⟨trivial,o96,trivial⟩⟩,o16,⟨trivial,trivial,⟨⟨trivial,o176,trivial⟩,trivial,trivial⟩⟩⟩,trivial,⟨⟨⟨⟨trivial,o136,trivial⟩,trivial,⟨trivial,o200,trivial⟩⟩,trivial,trivial⟩,trivial,⟨⟨⟨⟨trivial,o280,trivial⟩,trivial,trivial⟩,trivial,trivial⟩,o56,⟨trivial,o120,trivial⟩⟩⟩⟩,trivial,⟨⟨⟨trivial,trivial,⟨⟨⟨trivial,o292,trivial⟩,trivial,trivial⟩,trivial,trivial⟩⟩,trivial,⟨⟨trivial,o84,trivial⟩,trivial,trivial⟩⟩,trivial,⟨⟨⟨trivial,o76,⟨trivial,o204,trivial⟩⟩,trivial,⟨trivial,o108,trivial⟩⟩,trivial,⟨⟨trivial,o92,trivial⟩,o60,trivial⟩⟩⟩⟩,trivial,⟨⟨⟨⟨⟨trivial,trivial,⟨trivial,o194,trivial⟩⟩,o34,⟨⟨⟨trivial,o290,trivial⟩,trivial,trivial⟩,o98,trivial⟩⟩,trivial,⟨⟨trivial,trivial,⟨trivial,o210,trivial⟩⟩,trivial,trivial⟩⟩,trivial,⟨⟨⟨⟨trivial,o138,trivial⟩,o74,⟨trivial,o202,trivial⟩⟩,trivial,trivial⟩,o26,⟨⟨⟨trivial,o154,trivial⟩,trivial,trivial⟩,o58,trivial⟩⟩⟩,trivial,⟨⟨⟨⟨trivial,trivial,⟨trivial,o198,trivial⟩⟩,trivial,⟨trivial,o102,trivial⟩⟩,trivial,⟨trivial,o54,trivial⟩⟩,trivial,⟨⟨trivial,o46,trivial⟩,trivial,⟨trivial,trivial,⟨trivial,trivial,⟨trivial,o254,trivial⟩⟩⟩⟩⟩⟩⟩⟩
theorem fok:FnOk Tryz.prog FNt:=fok_of fall
end Go.Af.Tryz.W
namespace Go.Af.Tryz.W
open Go Go.Proofs
set_option maxRecDepth 100000
theorem works_run:(evN FNt EE 100).call 0 15 [] .e 0 (fun v _ _=>match v with | .bool b=>b | _=>false)=true:=by kernel_rfl
end Go.Af.Tryz.W
namespace Go.Af.Tryz.W
open Go Go.Proofs
theorem works:qC Tryz.prog 15 [] [] (fun v H=>v = .bool true/\H = []) :=
 acall_drop ((run_ok fok eok mx works_run).mono fun v H h=>by
  split at h
  ·rename_i b;subst h
   exact⟨[], .bool true,[],by simp,anch_of rfl,trivial,rfl,VRen.plain rfl,rfl,rfl⟩
  ·cases h)
theorem worksX (H:List Blk) {R:Value->List Blk->Prop} (h:R (.bool true) H):vK Tryz.prog 15 [] H R :=
 acallx_s works [] rfl .nil trivial rfl h
end Go.Af.Tryz.W
