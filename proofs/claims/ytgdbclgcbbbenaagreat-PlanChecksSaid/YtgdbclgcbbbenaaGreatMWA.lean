/-
  The examples of the chapter on plans hold: the program's function works, computed.
  The examples of the chapter on plans hold, wherever works is called.
-/
import Derived.Test.YtgdbclgcbbbenaaGreatMWO
import Derived.Test.YtgdbclgcbbbenaaGreatMF
import Derived.Test.YtgdbclgcbbbenaaGreatMB
import Derived.Test.YtgdbclgcbbbenaaGreatProg
import Derived.KernelRfl
set_option linter.all false
noncomputable section
namespace Go.Af.Tryz.W
open Go Go.Proofs
set_option maxRecDepth 100000
abbrev T:TT:=Go.Af.Tryz.T
theorem tok:TOk Tryz.prog T:=Go.Af.Tryz.tok
theorem mx:Tryz.prog.follows .mixedOrders=true:=by kernel_rfl
def Ms : List (String × List (Nat × Nat)) := [("armada/net.homes", [(252, 382), (271, 391), (273, 403)]), ("armada/net.near", [(252, 383), (271, 392), (273, 404)]), ("armada/net.sides", [(252, 385), (271, 395), (273, 407)]), ("armada/net.switches", [(252, 386), (271, 396), (273, 408)])]
theorem em0 (v : Value) (w : World) : (method (Tryz.prog.types.size + Made.depth) 252 v "armada/net.homes").run Tryz.prog w = .ok (382, v) w := by kernel_rfl
theorem em1 (v : Value) (w : World) : (method (Tryz.prog.types.size + Made.depth) 271 v "armada/net.homes").run Tryz.prog w = .ok (391, v) w := by kernel_rfl
theorem em2 (v : Value) (w : World) : (method (Tryz.prog.types.size + Made.depth) 273 v "armada/net.homes").run Tryz.prog w = .ok (403, v) w := by kernel_rfl
theorem em3 (v : Value) (w : World) : (method (Tryz.prog.types.size + Made.depth) 252 v "armada/net.near").run Tryz.prog w = .ok (383, v) w := by kernel_rfl
theorem em4 (v : Value) (w : World) : (method (Tryz.prog.types.size + Made.depth) 271 v "armada/net.near").run Tryz.prog w = .ok (392, v) w := by kernel_rfl
theorem em5 (v : Value) (w : World) : (method (Tryz.prog.types.size + Made.depth) 273 v "armada/net.near").run Tryz.prog w = .ok (404, v) w := by kernel_rfl
theorem em6 (v : Value) (w : World) : (method (Tryz.prog.types.size + Made.depth) 252 v "armada/net.sides").run Tryz.prog w = .ok (385, v) w := by kernel_rfl
theorem em7 (v : Value) (w : World) : (method (Tryz.prog.types.size + Made.depth) 271 v "armada/net.sides").run Tryz.prog w = .ok (395, v) w := by kernel_rfl
theorem em8 (v : Value) (w : World) : (method (Tryz.prog.types.size + Made.depth) 273 v "armada/net.sides").run Tryz.prog w = .ok (407, v) w := by kernel_rfl
theorem em9 (v : Value) (w : World) : (method (Tryz.prog.types.size + Made.depth) 252 v "armada/net.switches").run Tryz.prog w = .ok (386, v) w := by kernel_rfl
theorem em10 (v : Value) (w : World) : (method (Tryz.prog.types.size + Made.depth) 271 v "armada/net.switches").run Tryz.prog w = .ok (396, v) w := by kernel_rfl
theorem em11 (v : Value) (w : World) : (method (Tryz.prog.types.size + Made.depth) 273 v "armada/net.switches").run Tryz.prog w = .ok (408, v) w := by kernel_rfl
theorem aggEq38:AggEq Tryz.prog 38 [.i64, .i64, .i64, .i64, .i64]:=aggEq_struct (by kernel_rfl) (by kernel_rfl) (by kernel_rfl) (flatFs_of (by kernel_rfl))
theorem aggEq77:AggEq Tryz.prog 77 [.i64, .i64]:=aggEq_arr (n:=2) (e:=3) (k := .i64) (by kernel_rfl) (i:=(Tryz.prog.info? 3).getD default) (by kernel_rfl) (by kernel_rfl) (by kernel_rfl) (PK.of_ofB (by kernel_rfl))
theorem mkey77:MKey Tryz.prog 77 [.i64, .i64]:=mkey_arr (n:=2) (e:=3) (k := .i64) (by kernel_rfl) (i:=(Tryz.prog.info? 3).getD default) (by kernel_rfl) (by kernel_rfl) (by kernel_rfl) (PK.of_ofB (by kernel_rfl))
theorem mkey140:MKey Tryz.prog 140 [.i64, .i64]:=mkey_struct (by kernel_rfl) (by kernel_rfl) (by kernel_rfl) (flatFs_of (by kernel_rfl))
theorem mkey145:MKey Tryz.prog 145 [.i64, .i64]:=mkey_struct (by kernel_rfl) (by kernel_rfl) (by kernel_rfl) (flatFs_of (by kernel_rfl))
def EE:Env := { T:=T,eqs := [(38,[.i64, .i64, .i64, .i64, .i64]),(77,[.i64, .i64])],mks := [(77,[.i64, .i64]),(140,[.i64, .i64]),(145,[.i64, .i64])],ms:=Ms,ors := [(53,orc53),(136,orcD)] }
theorem eok:EOk Tryz.prog EE:=by
 refine⟨tok,fun t ks h=>(by
  simp only[EE,List.mem_cons,List.not_mem_nil,or_false,Prod.mk.injEq] at h
  rcases h with ⟨rfl,rfl⟩ | ⟨rfl,rfl⟩
  ·exact aggEq38
  ·exact aggEq77),fun t ks h=>(by
  simp only[EE,List.mem_cons,List.not_mem_nil,or_false,Prod.mk.injEq] at h
  rcases h with ⟨rfl,rfl⟩ | ⟨rfl,rfl⟩ | ⟨rfl,rfl⟩
  ·exact mkey77
  ·exact mkey140
  ·exact mkey145),fun name m h t f hm v w=>?_,fun f v h=>(by
  simp only[EE,List.mem_cons,List.not_mem_nil,or_false,Prod.mk.injEq] at h
  rcases h with ⟨rfl,rfl⟩ | ⟨rfl,rfl⟩
  ·exact orc53_ok
  ·exact orcD_ok)⟩
 simp only[EE,Ms,List.mem_cons,List.not_mem_nil,or_false] at h
 rcases h with h | h | h | h
 ·cases h
  simp only[List.mem_cons,List.not_mem_nil,or_false] at hm
  rcases hm with hm | hm | hm
  ·cases hm;exact em0 v w
  ·cases hm;exact em1 v w
  ·cases hm;exact em2 v w
 ·cases h
  simp only[List.mem_cons,List.not_mem_nil,or_false] at hm
  rcases hm with hm | hm | hm
  ·cases hm;exact em3 v w
  ·cases hm;exact em4 v w
  ·cases hm;exact em5 v w
 ·cases h
  simp only[List.mem_cons,List.not_mem_nil,or_false] at hm
  rcases hm with hm | hm | hm
  ·cases hm;exact em6 v w
  ·cases hm;exact em7 v w
  ·cases hm;exact em8 v w
 ·cases h
  simp only[List.mem_cons,List.not_mem_nil,or_false] at hm
  rcases hm with hm | hm | hm
  ·cases hm;exact em9 v w
  ·cases hm;exact em10 v w
  ·cases hm;exact em11 v w
def i13:FI:=fiOf Tryz.f13 [(2, .ev [0,0,3,7,15,15,0,95,255] [3,4,5,8] [.op 1 [], .res 6, .op 0 [1], .op 2 [], .op 3 [], .op 4 [], .op 5 [], .op 6 [], .op 7 [], .op 8 []])]
def i14:FI:=fiOf Tryz.f14 []
def i18:FI:=fiOf Tryz.f18 [(11, .ord [0,0,2,6,15,31,63,127,63,511,1023,2047,63,4159,63,28735,61503,127039,262143,524287] [false,false,false,false,false,false,false,false,true,false,false,false,true,true,true,true,true,true,false,false] [0,1,2,3,4,5,6,7,8,9,10,11,12,13,14,15,16,17,18,19]),(13, .ord [0,0,2,0,14,30,62,0,0,0,512,0,0,7680,16128,32640,65535,131071] [false,false,false,true,false,false,false,true,true,true,true,true,true,true,true,true,false,false] [0,1,2,3,4,5,6,7,8,9,10,11,12,13,14,15,16,17])]
def i21:FI:=fiOf Tryz.f21 [(14, .ord [0,1,3,7,15,31,63,127,255,511,1023,2047,4095,8191,4095,20479,65535,131071,4095,524287,1048575,2097151,4194303,8388607] [false,false,false,false,false,false,false,false,false,false,false,false,false,false,true,true,false,false,true,false,false,false,false,false] [0,1,2,3,4,5,6,7,8,9,10,11,12,13,14,15,16,17,18,19,20,21,22,23]),(16, .ord [0,1,3,7,15,7,39,127,255,511,7,1031,4095,8191] [false,false,false,false,false,true,true,false,false,false,true,true,false,false] [0,1,2,3,4,5,6,7,8,9,10,11,12,13]),(24, .ev [0,1,0,4,0,16,0,64,0,256,0,1024,783,8191] [0,2,4,6,8,10] [.op 0 [], .op 1 [], .op 2 [], .op 3 [], .op 4 [], .op 5 [], .op 6 [], .op 7 [], .op 8 [], .op 9 [], .op 10 [], .op 11 [], .op 12 [5,7,11], .op 13 []])]
def i22:FI:=fiOf Tryz.f22 []
def i29:FI:=fiOf Tryz.f29 [(5, .ev [0,0,3,0,15,31,0,127] [5] [.op 0 [], .op 1 [], .op 3 [], .res 6, .op 2 [3], .op 4 [], .op 5 [], .op 6 [], .op 7 []]),(28, .ev [0,0,1,7,15] [0,3] [.op 0 [], .op 1 [], .op 2 [1], .op 3 [], .op 4 []]),(29, .ev [0,0,2,0,8,30,63,0,0,256,896,895,2943,8191,16383] [0,1,8,11,13] [.op 0 [], .op 1 [], .op 2 [], .op 3 [], .op 7 [], .op 8 [], .op 9 [], .op 10 [], .op 4 [2,7,9,10], .op 5 [], .op 6 [], .op 11 [], .op 12 [7,10], .op 13 [], .op 14 []]),(30, .ord [0,1,0,7,15,31,63] [false,true,true,false,false,false,false] [0,2,1,3,4,5,6])]
def i39:FI:=fiOf Tryz.f39 []
def i44:FI:=fiOf Tryz.f44 [(6, .ord [0,0,2,7,15] [true,false,false,false,false] [1,2,0,3,4])] 2
def i46:FI:=fiOf Tryz.f46 []
def i49:FI:=fiOf Tryz.f49 [(2, .ev [0,0,3,7,15,15,0,95,255] [3,4,5,8] [.op 1 [], .res 6, .op 0 [1], .op 2 [], .op 3 [], .op 4 [], .op 5 [], .op 6 [], .op 7 [], .op 8 []])]
def i50:FI:=fiOf Tryz.f50 []
def i51:FI:=fiOf Tryz.f51 [(1, .ord [0,1,0,4,0,16,0,64,0,0,512,1792,4095,8191] [false,false,true,true,true,true,true,true,true,true,true,true,false,false] [0,1,2,3,4,5,6,7,8,9,10,11,12,13])]
def i56:FI:=fiOf Tryz.f56 [(4, .ord [0,1,0,7,0,16,63,15,255,511] [false,true,false,true,false,false,false,true,false,false] [0,2,4,5,1,3,6,7,8,9])]
def i57:FI:=fiOf Tryz.f57 []
def i58:FI:=fiOf Tryz.f58 [(4, .ord [0,1,0,4,15,31,63] [false,true,true,true,false,false,false] [0,2,3,1,4,5,6])]
def i59:FI:=fiOf Tryz.f59 []
def i60:FI:=fiOf Tryz.f60 [(1, .ord [0,1,0,4,15,0,32,0,128,480,0,1024,0,4096,15360,0,32768,0,131072,491520,0,1048576,0,4194304,16744448,33554431,67108863,134217727] [false,false,true,true,false,true,true,true,true,true,true,true,true,true,true,true,true,true,true,true,true,true,true,true,true,false,false,false] [0,1,2,3,4,5,6,7,8,9,10,11,12,13,14,15,16,17,18,20,21,22,23,19,24,25,26,27])]
def i61:FI:=fiOf Tryz.f61 []
def i63:FI:=fiOf Tryz.f63 [(2, .ev [0,0,2,6,15,31,63,63,0,383,1023] [1,2,5,6,7,10] [.op 0 [], .op 1 [], .op 2 [], .op 3 [], .res 8, .op 4 [], .op 5 [], .op 6 [], .op 7 [], .op 8 [], .op 9 [], .op 10 []])]
def i67:FI:=fiOf Tryz.f67 []
def i68:FI:=fiOf Tryz.f68 [(4, .ord [0,0,2,6,14,30,62,30,158,510,1022,31,4095] [false,false,false,false,false,false,false,true,true,false,false,true,false] [0,1,2,3,4,5,6,7,8,9,10,11,12]),(6, .ord [0,0,3,0,8,24,63,127,255,127,639,2047,4095,127,16383] [false,false,true,false,false,false,false,false,false,true,true,false,false,true,false] [0,1,3,4,5,2,6,7,8,9,10,11,12,13,14])]
def i71:FI:=fiOf Tryz.f71 []
def i72:FI:=fiOf Tryz.f72 [(6, .ord [0,1,3,0,0,16,56,120,0,256,1016,2047,4095] [false,false,true,true,true,true,true,true,true,true,true,false,false] [0,1,3,4,5,6,7,8,9,10,2,11,12])]
def i73:FI:=fiOf Tryz.f73 [(1, .ord [0,1,0,0,12,0,0,124,255,511,1023,1023,2047,8191] [false,false,true,true,true,true,true,true,false,false,false,false,false,false] [0,1,2,3,5,6,4,7,8,9,10,11,12,13])]
def i74:FI:=fiOf Tryz.f74 []
def i75:FI:=fiOf Tryz.f75 []
def i76:FI:=fiOf Tryz.f76 []
def i77:FI:=fiOf Tryz.f77 []
def i78:FI:=fiOf Tryz.f78 []
def i85:FI:=fiOf Tryz.f85 [(6, .ord [0,1,3,7,0,16,48,127,127,383,1023,2047,4095,8191] [false,false,false,true,true,true,true,false,false,false,false,false,false,false] [0,1,2,4,5,6,3,8,9,7,10,11,12,13]),(9, .ord [0,0,2,7,0,31,0,127] [true,false,false,true,true,true,true,false] [1,2,4,6,0,3,5,7]),(17, .ord [0,1,0,0,8,0,32,0,0,256,0,1792,3840,0,8192,32764,65532,131071,262143,524287] [false,false,true,true,true,true,true,true,true,true,true,true,true,true,true,true,true,false,false,false] [0,1,2,3,4,5,6,7,8,9,10,11,12,13,14,15,16,17,18,19])]
def i93:FI:=fiOf Tryz.f93 []
def i94:FI:=fiOf Tryz.f94 []
def i100:FI:=fiOf Tryz.f100 [(1, .ord [0,1,0,7,15,0,32,96,255,511] [false,false,true,false,false,true,true,true,false,false] [0,1,2,3,4,5,6,7,8,9])]
def i109:FI:=fiOf Tryz.f109 [(15, .ord [0,1,3,7,15,31,63,127,255,511,1023,2047,4095,8191,16383,32767,65535,131071,262143,524287,1048575,2097151,4194303,524287,8912895,25690111,59244543,134217727,268435455,536870911,1073741823,2147483647,4294967295,2147483647,10737418239,27917287423,62277025791,137438953471,274877906943] [false,false,false,false,false,false,false,false,false,false,false,false,false,false,false,false,false,false,false,false,false,false,false,true,true,true,true,false,false,false,false,false,false,true,true,true,true,false,false] [0,1,2,3,4,5,6,7,8,9,10,11,12,13,14,15,16,17,18,19,20,21,22,23,24,25,26,27,28,29,30,31,32,33,34,35,36,37,38]),(16, .ord [0,1,3,7,0,16,48,112,255,511,1023,2047] [false,false,false,false,true,true,true,true,false,false,false,false] [0,1,2,3,4,5,6,7,8,9,10,11]),(18, .ord [0,1,3,7,15,31,63,127,255,511,1023,2047,4095,8191,16383,32767,65535,131071,262143,524287,1048575,2097151,4194303,8388607,16777215,33554431,4194303,71303167,205520895,473956351,4194303,1077936127,3225419775,7520387071,17116954623,34296823807,68719476735,137438953471,274877906943] [false,false,false,false,false,false,false,false,false,false,false,false,false,false,false,false,false,false,false,false,false,false,false,false,false,false,true,true,true,true,true,true,true,true,true,true,false,false,false] [0,1,2,3,4,5,6,7,8,9,10,11,12,13,14,15,16,17,18,19,20,21,22,23,24,25,26,27,28,29,30,31,32,33,34,35,36,37,38]),(19, .ord [0,1,3,7,0,16,48,112,255,511,1023,2047] [false,false,false,false,true,true,true,true,false,false,false,false] [0,1,2,3,4,5,6,7,8,9,10,11])]
def i110:FI:=fiOf Tryz.f110 []
def i111:FI:=fiOf Tryz.f111 []
def i112:FI:=fiOf Tryz.f112 []
def i113:FI:=fiOf Tryz.f113 []
def i114:FI:=fiOf Tryz.f114 []
def i116:FI:=fiOf Tryz.f116 []
def i117:FI:=fiOf Tryz.f117 []
def i122:FI:=fiOf Tryz.f122 []
def i123:FI:=fiOf Tryz.f123 [(2, .ev [0,1,3,0,8,0,32,120,7,511] [0,3,5] [.op 0 [], .op 1 [], .op 2 [], .op 3 [], .op 4 [], .op 5 [], .op 6 [], .op 7 [], .op 8 [4,6,7], .op 9 []]),(3, .ev [0,1,0,4,0,16,60,3,255] [0,2,4] [.op 0 [], .op 1 [], .op 2 [], .op 3 [], .op 4 [], .op 5 [], .op 6 [], .op 7 [3,5,6], .op 8 []])]
def i124:FI:=fiOf Tryz.f124 []
def i125:FI:=fiOf Tryz.f125 []
def i126:FI:=fiOf Tryz.f126 [(1, .ord [0,1,3,0,8,24,0,64,248,7,1023] [false,false,false,true,true,true,true,true,true,true,false] [0,1,2,3,4,5,6,7,8,9,10])]
def i127:FI:=fiOf Tryz.f127 [(4, .ord [0,1,0,4,15,31] [false,false,true,true,false,false] [0,1,2,3,4,5])]
def i128:FI:=fiOf Tryz.f128 [(1, .ord [0,1,0,0,8,28,63,127,255,511,1023,511,511,4607,12799,31231,65535,131071,262143,524287,1048575] [false,false,true,true,true,true,false,false,false,false,false,true,true,true,true,true,false,false,false,false,false] [0,1,2,3,4,5,6,7,8,9,10,11,12,13,14,15,16,17,18,19,20])]
def i133:FI:=fiOf Tryz.f133 [(1, .ord [0,1,0,4,12,0,60,3,255] [false,false,true,true,true,true,true,true,false] [0,1,2,3,4,5,6,7,8])]
def i134:FI:=fiOf Tryz.f134 [(1, .ord [0,1,3,0,8,0,56,7,255] [false,false,false,true,true,true,true,true,false] [0,1,2,3,4,5,6,7,8])]
def i135:FI:=fiOf Tryz.f135 []
def i137:FI:=fiOf Tryz.f137 []
def i138:FI:=fiOf Tryz.f138 []
def i139:FI:=fiOf Tryz.f139 []
def i143:FI:=fiOf Tryz.f143 []
def i144:FI:=fiOf Tryz.f144 []
def i157:FI:=fiOf Tryz.f157 [(5, .ord [0,0,0,0,12,31,63] [false,true,true,true,true,false,false] [0,1,2,3,4,5,6])]
def i158:FI:=fiOf Tryz.f158 []
def i160:FI:=fiOf Tryz.f160 []
def i161:FI:=fiOf Tryz.f161 [(1, .ord [0,1,0,0,8,31,0,127,255,511,1023] [false,true,true,true,true,true,true,false,false,false,false] [0,2,3,4,6,1,5,7,8,9,10])]
def i162:FI:=fiOf Tryz.f162 [(1, .ord [0,0,3,7] [true,false,false,false] [1,0,2,3])]
def i163:FI:=fiOf Tryz.f163 []
def i164:FI:=fiOf Tryz.f164 [(2, .ord [0,0,2,7,0,0,63,127,255,511] [false,true,true,true,true,true,false,false,false,false] [0,1,2,4,5,3,6,7,8,9])]
def i165:FI:=fiOf Tryz.f165 [(2, .ord [0,1,3,0,15,0,32,0,128,511,1023,2047] [false,false,false,true,false,true,true,true,true,false,false,false] [0,1,2,3,4,5,6,7,8,9,10,11]),(3, .ord [0,1,0,4,0,16,63,127,255] [false,false,false,false,true,true,false,false,false] [0,1,2,3,4,5,6,7,8])]
def i166:FI:=fiOf Tryz.f166 [(1, .ord [0,0,3,7] [true,false,false,false] [1,0,2,3])]
def i167:FI:=fiOf Tryz.f167 [(1, .ord [0,1,0,7,15,31,63] [false,true,true,false,false,false,false] [0,2,1,3,4,5,6])]
def i168:FI:=fiOf Tryz.f168 [(23, .ord [0,0,0,6,0,0,0,96,254,0,1022,0,0,0,12288,32766,65534,131070,262143,524287] [false,false,false,true,false,false,false,false,true,false,false,true,true,true,true,false,false,false,false,false] [0,1,2,4,5,6,7,9,11,12,13,14,3,8,10,15,16,17,18,19])]
def i169:FI:=fiOf Tryz.f169 [(3, .ord [0,0,3,0,0,31,63,127,255] [false,false,true,true,true,false,false,false,false] [0,1,3,4,2,5,6,7,8])]
def i170:FI:=fiOf Tryz.f170 []
def i171:FI:=fiOf Tryz.f171 [(1, .ord [0,0,3,7] [true,false,false,false] [1,0,2,3])]
def i172:FI:=fiOf Tryz.f172 []
def i173:FI:=fiOf Tryz.f173 [(1, .ord [0,0,3,7] [true,false,false,false] [1,0,2,3])]
def i174:FI:=fiOf Tryz.f174 []
def i175:FI:=fiOf Tryz.f175 []
def i176:FI:=fiOf Tryz.f176 []
def i177:FI:=fiOf Tryz.f177 [(1, .ord [0,0,3,7] [true,false,false,false] [1,0,2,3])]
def i178:FI:=fiOf Tryz.f178 [(1, .ord [0,0,3,7] [true,false,false,false] [1,0,2,3])]
def i179:FI:=fiOf Tryz.f179 [(1, .ord [0,0,3,7] [true,false,false,false] [1,0,2,3])]
def i180:FI:=fiOf Tryz.f180 [(1, .ord [0,0,3,7] [true,false,false,false] [1,0,2,3])]
def i181:FI:=fiOf Tryz.f181 [(4, .ord [0,0,3,0,0,31,0,0,255,511,1023,2047] [false,false,true,false,false,false,true,true,false,false,false,false] [0,1,3,4,6,7,2,5,8,9,10,11])]
def i182:FI:=fiOf Tryz.f182 []
def i183:FI:=fiOf Tryz.f183 []
def i184:FI:=fiOf Tryz.f184 []
def i185:FI:=fiOf Tryz.f185 [(1, .ord [0,0,3,7] [true,false,false,false] [1,0,2,3])]
def i186:FI:=fiOf Tryz.f186 []
def i187:FI:=fiOf Tryz.f187 [(17, .ord [0,1,3,7,7,23,63,127,7,7,775,1799,4095,8191,16383] [false,false,false,false,false,false,false,false,true,true,true,true,false,false,false] [0,1,2,3,4,5,6,7,8,9,10,11,12,13,14])]
def i188:FI:=fiOf Tryz.f188 []
def i200:FI:=fiOf Tryz.f200 []
def i201:FI:=fiOf Tryz.f201 []
def i202:FI:=fiOf Tryz.f202 []
def i203:FI:=fiOf Tryz.f203 []
def i204:FI:=fiOf Tryz.f204 [(5, .ev [0,0,0,0,12,0,0,96,31,287,1023] [1,3,6] [.op 0 [], .op 1 [], .op 2 [], .op 3 [], .op 4 [], .op 5 [], .op 6 [], .op 7 [], .op 8 [], .op 9 [5,7], .op 10 []])]
def i205:FI:=fiOf Tryz.f205 []
def i206:FI:=fiOf Tryz.f206 [(5, .ord [0,0,0,4,12,0,32,96,252,508,1023,2047] [false,true,true,true,true,true,true,true,true,true,false,false] [0,1,2,3,5,6,7,4,8,9,10,11]),(16, .ord [0,0,2,6,15,31,63,127,63,511,1023,2047,63,4159,63,28735,61503,127039,262143,524287] [false,false,false,false,false,false,false,false,true,false,false,false,true,true,true,true,true,true,false,false] [0,1,2,3,4,5,6,7,8,9,10,11,12,13,14,15,16,17,18,19]),(19, .ord [0,0,2,7,15,0,32,127,255,0,0,1024,3584,7680,0,16384,65024,130560,511,524287] [false,true,true,false,false,true,true,false,false,true,true,true,true,true,true,true,true,true,true,false] [0,1,2,3,4,5,6,7,8,9,10,11,12,13,14,15,16,17,18,19]),(33, .ord [0,0,2,7,15,0,32,0,255,511] [false,true,true,false,false,true,true,true,false,false] [0,1,2,3,4,5,6,7,8,9])]
def i207:FI:=fiOf Tryz.f207 []
def i208:FI:=fiOf Tryz.f208 [(4, .ev [0,0,2,7,0,0,0,64,255,0,1023,2047] [5,6,7,10] [.op 0 [], .op 1 [], .op 4 [], .op 5 [], .op 6 [], .op 7 [], .res 9, .op 2 [0,4], .op 3 [4], .op 8 [], .op 9 [], .op 10 [], .op 11 []])]
def i222:FI:=fiOf Tryz.f222 [(17, .ord [0,1,3,7,7,7,39,119,247,7,7,1543,3591,8191,16383,32767,65535] [false,false,false,false,false,false,false,false,false,true,true,true,true,false,false,false,false] [0,1,2,3,4,5,6,7,8,9,10,11,12,13,14,15,16])]
def i238:FI:=fiOf Tryz.f238 []
def i239:FI:=fiOf Tryz.f239 []
def i240:FI:=fiOf Tryz.f240 []
def i241:FI:=fiOf Tryz.f241 []
def i242:FI:=fiOf Tryz.f242 []
def i243:FI:=fiOf Tryz.f243 []
def i244:FI:=fiOf Tryz.f244 []
def i245:FI:=fiOf Tryz.f245 [(5, .ord [0,0,0,6,0,0,0,96,254,0,1022,2046,4094,8191,16383] [false,false,true,true,true,true,true,true,true,true,false,false,false,false,false] [0,1,2,4,5,6,7,9,3,8,10,11,12,13,14])]
def i246:FI:=fiOf Tryz.f246 [(0, .ord [0,1,0,4,3,31] [false,false,true,true,true,false] [0,1,2,3,4,5]),(9, .ev [0,0,3,0,0,24,0,0,128,504,1016,0,4095,8191] [0,1,2,4,7,8,12] [.op 0 [], .op 1 [], .op 2 [], .op 3 [], .op 4 [], .op 6 [], .op 7 [], .op 8 [], .res 11, .op 5 [6], .op 9 [], .op 10 [], .op 11 [], .op 12 [], .op 13 []]),(11, .ord [0,0,2,0,14,31,0,0,128,448,0,0,4032,8128,16383,32767] [false,false,false,false,false,false,false,true,true,true,true,true,false,false,false,false] [0,1,2,3,4,5,6,7,8,10,11,9,12,13,14,15])]
def i247:FI:=fiOf Tryz.f247 []
def i248:FI:=fiOf Tryz.f248 []
def i249:FI:=fiOf Tryz.f249 [(1, .ord [0,0,3,0,0,16,63,0,0,0,0,1536,3967,8191,16383,32767] [false,true,true,true,true,true,true,true,true,true,true,true,true,false,false,false] [0,1,3,4,5,7,8,9,10,11,2,6,12,13,14,15])]
def i250:FI:=fiOf Tryz.f250 []
def i251:FI:=fiOf Tryz.f251 [(1, .ord [0,0,2,7,0,16,63,0,128,511,1023] [false,false,false,false,true,true,false,true,true,false,false] [0,1,2,3,4,5,6,7,8,9,10])]
def i252:FI:=fiOf Tryz.f252 []
def i253:FI:=fiOf Tryz.f253 []
def i254:FI:=fiOf Tryz.f254 [(5, .ord [0,0,0,6,0,0,0,96,254,0,1022,2046,4094,8191,16383] [false,false,true,true,true,true,true,true,true,true,false,false,false,false,false] [0,1,2,4,5,6,7,9,3,8,10,11,12,13,14])]
def i255:FI:=fiOf Tryz.f255 []
def i256:FI:=fiOf Tryz.f256 []
def i257:FI:=fiOf Tryz.f257 []
def i258:FI:=fiOf Tryz.f258 []
def i259:FI:=fiOf Tryz.f259 [(1, .ord [0,0,0,4,14,0,0,0,0,384,990,2046,4095,8191] [false,false,true,true,true,true,true,true,true,true,true,false,false,false] [0,1,2,3,5,6,7,8,9,4,10,11,12,13])]
def i260:FI:=fiOf Tryz.f260 []
def i261:FI:=fiOf Tryz.f261 [(1, .ord [0,0,0,4,14,0,0,0,128,0,896,2014,4094,8191,16383] [false,false,true,true,true,true,true,true,true,true,true,true,false,false,false] [0,1,2,3,5,6,7,8,9,10,4,11,12,13,14])]
def i262:FI:=fiOf Tryz.f262 []
def i263:FI:=fiOf Tryz.f263 [(1, .ord [0,0,0,0,0,16,60,0,0,0,512,2044,0,8191,16383] [false,false,false,true,true,true,true,true,true,true,true,false,true,false,false] [0,1,2,3,4,5,7,8,9,10,12,6,11,13,14])]
def i264:FI:=fiOf Tryz.f264 [(8, .ord [0,0,0,0,12,0,0,0,192,508,0,0,4092,0,0,32764,65534,131070,262143,524287] [false,false,true,true,true,true,true,true,true,true,true,true,true,true,true,true,false,false,false,false] [0,1,2,3,5,6,7,8,10,11,13,14,4,9,12,15,16,17,18,19])]
def i265:FI:=fiOf Tryz.f265 [(1, .ord [0,0,0,6,0,0,62,126,255,511] [false,true,true,true,true,true,true,true,false,false] [0,1,2,4,5,3,6,7,8,9])]
def i266:FI:=fiOf Tryz.f266 []
def i267:FI:=fiOf Tryz.f267 [(1, .ord [0,0,0,0,8,28,0,0,0,384,1020,0,0,0,12288,32764,65535,131071] [false,true,true,true,true,true,true,true,true,true,true,true,true,true,true,true,false,false] [0,1,2,3,4,6,7,8,9,11,12,13,14,5,10,15,16,17])]
def i268:FI:=fiOf Tryz.f268 []
def i269:FI:=fiOf Tryz.f269 [(1, .ord [0,0,0,6,0,30,0,0,192,0,960,0,4032,8191,16383] [false,true,true,true,true,true,true,true,true,true,true,true,true,false,false] [0,1,2,3,4,5,6,7,8,9,10,11,12,13,14])]
def i270:FI:=fiOf Tryz.f270 []
def i271:FI:=fiOf Tryz.f271 [(5, .ord [0,0,0,0,0,24,60,0,0,0,768,2044,4092,8190,16383,32767] [false,false,true,true,true,true,true,true,true,true,true,true,true,false,false,false] [0,1,2,3,4,5,7,8,9,10,6,11,12,13,14,15])]
def i272:FI:=fiOf Tryz.f272 []
def i273:FI:=fiOf Tryz.f273 []
def i274:FI:=fiOf Tryz.f274 []
def i275:FI:=fiOf Tryz.f275 [(8, .ord [0,0,0,0,0,0,0,112,0,0,768,2046,4094,8191,16383] [false,false,true,true,true,true,true,true,true,true,true,false,false,false,false] [0,1,2,3,4,5,6,8,9,10,7,11,12,13,14])]
def i276:FI:=fiOf Tryz.f276 []
def i277:FI:=fiOf Tryz.f277 []
def i278:FI:=fiOf Tryz.f278 []
def i279:FI:=fiOf Tryz.f279 [(1, .ord [0,0,0,0,12,30,63,127] [false,true,true,true,true,true,false,false] [0,1,2,3,4,5,6,7])]
def i280:FI:=fiOf Tryz.f280 [(1, .ord [0,0,0,0,8,28,0,0,0,384,896,2044,0,0,0,24576,57344,131068,262143,524287] [false,true,true,true,true,true,true,true,true,true,true,true,true,true,true,true,true,true,false,false] [0,1,2,3,4,6,7,8,9,10,12,13,14,15,16,5,11,17,18,19])]
def i281:FI:=fiOf Tryz.f281 []
def i282:FI:=fiOf Tryz.f282 []
def i283:FI:=fiOf Tryz.f283 [(2, .ord [0,0,0,0,0,24,0,120,0,0,768,0,3840,0,16128,32764,0,0,262140,524287,1048575] [false,false,false,true,true,true,true,true,true,true,true,true,true,true,true,false,true,true,false,false,false] [0,1,2,3,4,5,6,7,8,9,10,11,12,13,14,16,17,15,18,19,20])]
def i284:FI:=fiOf Tryz.f284 []
def i285:FI:=fiOf Tryz.f285 [(1, .ord [0,0,0,0,12,30,0,126,255,511] [false,false,true,true,true,true,true,false,false,false] [0,1,2,3,4,6,5,7,8,9])]
def i286:FI:=fiOf Tryz.f286 []
def i287:FI:=fiOf Tryz.f287 []
def i288:FI:=fiOf Tryz.f288 [(4, .ord [0,0,3,7,15,15,63,127,15,15,527,1807,3855,8191,16383] [false,false,false,false,false,false,false,false,true,true,true,true,true,false,false] [0,1,2,3,4,5,6,7,8,9,10,11,12,13,14]),(6, .ord [0,0,0,0,8,0,0,64,224,480,0,0,3072,7168,16355,32739,65535,131071] [false,false,false,false,false,false,false,false,false,false,true,true,true,true,false,false,false,false] [0,1,2,3,4,5,6,7,8,9,10,11,12,13,14,15,16,17])]
def i289:FI:=fiOf Tryz.f289 [(10, .ord [0,0,0,0,0,24,0,0,0,384,960,1984,0,0,12288,28672,65475,131011,262143,524287] [false,false,false,false,false,false,false,false,false,false,false,false,true,true,true,true,false,false,false,false] [0,1,2,3,4,5,6,7,8,9,10,11,12,13,14,15,16,17,18,19])]
def i290:FI:=fiOf Tryz.f290 [(10, .ord [0,0,0,0,0,24,0,0,0,384,960,1984,0,0,12288,28672,65475,131011,262143,524287] [false,false,false,false,false,false,false,false,false,false,false,false,true,true,true,true,false,false,false,false] [0,1,2,3,4,5,6,7,8,9,10,11,12,13,14,15,16,17,18,19])]
def i291:FI:=fiOf Tryz.f291 []
def i292:FI:=fiOf Tryz.f292 [(3, .ord [0,0,0,0,0,0,48,112,0,0,768,1792,4083,8179,16383,32767] [false,false,false,false,false,false,false,false,true,true,true,true,false,false,false,false] [0,1,2,3,4,5,6,7,8,9,10,11,12,13,14,15])]
def i293:FI:=fiOf Tryz.f293 [(5, .ord [0,0,3,7,15,15,63,127,15,15,527,1807,3855,8191,16383,32767] [false,false,false,false,false,false,false,false,true,true,true,true,true,false,false,false] [0,1,2,3,4,5,6,7,8,9,10,11,12,13,14,15]),(11, .ord [0,0,0,0,8,0,0,64,224,480,0,0,3072,7168,16355,32739,65535,131071] [false,false,false,false,false,false,false,false,false,false,true,true,true,true,false,false,false,false] [0,1,2,3,4,5,6,7,8,9,10,11,12,13,14,15,16,17]),(16, .ord [0,0,3,7,0,0,32,112,240,511,1023] [false,false,false,false,true,true,true,true,true,false,false] [0,1,2,3,4,5,6,7,8,9,10]),(17, .ord [0,0,0,0,8,0,0,64,224,480,0,0,3072,7168,16355,32739,65535,131071] [false,false,false,false,false,false,false,false,false,false,true,true,true,true,false,false,false,false] [0,1,2,3,4,5,6,7,8,9,10,11,12,13,14,15,16,17]),(22, .ord [0,0,3,7,0,0,32,112,240,511,1023] [false,false,false,false,true,true,true,true,true,false,false] [0,1,2,3,4,5,6,7,8,9,10]),(23, .ord [0,0,0,0,8,0,0,64,224,480,0,0,3072,7168,16355,32739,65535,131071] [false,false,false,false,false,false,false,false,false,false,true,true,true,true,false,false,false,false] [0,1,2,3,4,5,6,7,8,9,10,11,12,13,14,15,16,17])]
def i294:FI:=fiOf Tryz.f294 []
def i295:FI:=fiOf Tryz.f295 [(1, .ord [0,0,0,0,0,0,48,112,0,0,768,1792,4083,8179,16383,32767] [false,false,false,false,false,false,false,false,true,true,true,true,false,false,false,false] [0,1,2,3,4,5,6,7,8,9,10,11,12,13,14,15]),(3, .ord [0,0,3,7,15,15,63,127,15,15,783,1807,4095,8191,16383] [false,false,false,false,false,false,false,false,true,true,true,true,false,false,false] [0,1,2,3,4,5,6,7,8,9,10,11,12,13,14]),(5, .ord [0,0,3,7,15,15,63,127,15,15,783,1807,4095,8191] [false,false,false,false,false,false,false,false,true,true,true,true,false,false] [0,1,2,3,4,5,6,7,8,9,10,11,12,13]),(8, .ord [0,0,0,0,0,0,48,112,0,0,768,1792,4083,8179,16383,32767] [false,false,false,false,false,false,false,false,true,true,true,true,false,false,false,false] [0,1,2,3,4,5,6,7,8,9,10,11,12,13,14,15])]
def i296:FI:=fiOf Tryz.f296 [(1, .ord [0,0,0,0,0,0,48,112,0,0,768,1792,4083,8179,16383,32767] [false,false,false,false,false,false,false,false,true,true,true,true,false,false,false,false] [0,1,2,3,4,5,6,7,8,9,10,11,12,13,14,15]),(3, .ord [0,0,3,7,15,15,63,127,15,15,783,1807,4095,8191] [false,false,false,false,false,false,false,false,true,true,true,true,false,false] [0,1,2,3,4,5,6,7,8,9,10,11,12,13]),(5, .ord [0,0,3,7,15,15,63,127,15,15,783,1807,4095,8191,16383] [false,false,false,false,false,false,false,false,true,true,true,true,false,false,false] [0,1,2,3,4,5,6,7,8,9,10,11,12,13,14]),(8, .ord [0,0,0,0,0,0,48,112,0,0,768,1792,4083,8179,16383,32767] [false,false,false,false,false,false,false,false,true,true,true,true,false,false,false,false] [0,1,2,3,4,5,6,7,8,9,10,11,12,13,14,15]),(10, .ord [0,0,0,0,0,0,48,112,0,0,768,1792,4083,8179,16383,32767] [false,false,false,false,false,false,false,false,true,true,true,true,false,false,false,false] [0,1,2,3,4,5,6,7,8,9,10,11,12,13,14,15]),(13, .ord [0,0,3,7,15,15,63,127,15,15,783,1807,4095,8191] [false,false,false,false,false,false,false,false,true,true,true,true,false,false] [0,1,2,3,4,5,6,7,8,9,10,11,12,13]),(15, .ord [0,0,3,7,15,15,63,127,15,15,783,1807,4095,8191,16383] [false,false,false,false,false,false,false,false,true,true,true,true,false,false,false] [0,1,2,3,4,5,6,7,8,9,10,11,12,13,14]),(18, .ord [0,0,0,0,0,0,48,112,0,0,768,1792,4083,8179,16383,32767] [false,false,false,false,false,false,false,false,true,true,true,true,false,false,false,false] [0,1,2,3,4,5,6,7,8,9,10,11,12,13,14,15]),(21, .ord [0,0,0,0,0,0,48,112,0,0,768,1792,4083,8179,16383,32767] [false,false,false,false,false,false,false,false,true,true,true,true,false,false,false,false] [0,1,2,3,4,5,6,7,8,9,10,11,12,13,14,15])]
def i297:FI:=fiOf Tryz.f297 []
def i298:FI:=fiOf Tryz.f298 []
def i302:FI:=fiOf Tryz.f302 []
def i303:FI:=fiOf Tryz.f303 []
def i304:FI:=fiOf Tryz.f304 [(13, .ord [0,0,2,7,15] [false,true,true,false,false] [0,1,2,3,4])]
def i305:FI:=fiOf Tryz.f305 []
def i306:FI:=fiOf Tryz.f306 []
def i307:FI:=fiOf Tryz.f307 []
def i308:FI:=fiOf Tryz.f308 [(3, .ord [0,0,0,0,12,30,62,127,255] [false,true,true,true,true,true,true,false,false] [0,1,2,3,4,5,6,7,8])]
def i309:FI:=fiOf Tryz.f309 []
def i310:FI:=fiOf Tryz.f310 []
def i311:FI:=fiOf Tryz.f311 [(1, .ord [0,1,0,0,12,28,63,127] [false,false,true,true,true,true,false,false] [0,1,2,3,4,5,6,7])]
def i312:FI:=fiOf Tryz.f312 []
def i313:FI:=fiOf Tryz.f313 [(1, .ord [0,0,2,7,0,0,0,64,224,496,1008,2047,4095] [false,false,false,false,true,true,true,true,true,true,true,false,false] [0,1,2,3,4,5,6,7,8,9,10,11,12])]
def i314:FI:=fiOf Tryz.f314 []
def i325:FI:=fiOf Tryz.f325 [(4, .ord [0,0,3,7,15,15,15,111,239,15,15,1039,3599,7695,16383,32767,65535] [false,false,false,false,false,false,false,false,false,true,true,true,true,true,false,false,false] [0,1,2,3,4,5,6,7,8,9,10,11,12,13,14,15,16]),(6, .ord [0,0,0,0,8,0,0,64,224,480,0,0,3072,7168,16355,32739,65535,131071] [false,false,false,false,false,false,false,false,false,false,true,true,true,true,false,false,false,false] [0,1,2,3,4,5,6,7,8,9,10,11,12,13,14,15,16,17])]
def i326:FI:=fiOf Tryz.f326 [(10, .ord [0,0,0,0,0,24,0,0,0,384,960,1984,0,0,12288,28672,65475,131011,262143,524287] [false,false,false,false,false,false,false,false,false,false,false,false,true,true,true,true,false,false,false,false] [0,1,2,3,4,5,6,7,8,9,10,11,12,13,14,15,16,17,18,19])]
def i327:FI:=fiOf Tryz.f327 [(10, .ord [0,0,0,0,0,24,0,0,0,384,960,1984,0,0,12288,28672,65475,131011,262143,524287] [false,false,false,false,false,false,false,false,false,false,false,false,true,true,true,true,false,false,false,false] [0,1,2,3,4,5,6,7,8,9,10,11,12,13,14,15,16,17,18,19])]
def i328:FI:=fiOf Tryz.f328 []
def i329:FI:=fiOf Tryz.f329 [(3, .ord [0,0,0,0,0,0,48,112,0,0,768,1792,4083,8179,16383,32767] [false,false,false,false,false,false,false,false,true,true,true,true,false,false,false,false] [0,1,2,3,4,5,6,7,8,9,10,11,12,13,14,15])]
def i330:FI:=fiOf Tryz.f330 [(5, .ord [0,0,3,7,15,15,15,111,239,15,15,1039,3599,7695,16383,32767,65535,131071] [false,false,false,false,false,false,false,false,false,true,true,true,true,true,false,false,false,false] [0,1,2,3,4,5,6,7,8,9,10,11,12,13,14,15,16,17]),(11, .ord [0,0,0,0,8,0,0,64,224,480,0,0,3072,7168,16355,32739,65535,131071] [false,false,false,false,false,false,false,false,false,false,true,true,true,true,false,false,false,false] [0,1,2,3,4,5,6,7,8,9,10,11,12,13,14,15,16,17]),(16, .ord [0,0,0,6,14,0,0,64,224,480,1023,2047,4095] [false,false,false,false,false,true,true,true,true,true,false,false,false] [0,1,2,3,4,5,6,7,8,9,10,11,12]),(17, .ord [0,0,0,0,8,0,0,64,224,480,0,0,3072,7168,16355,32739,65535,131071] [false,false,false,false,false,false,false,false,false,false,true,true,true,true,false,false,false,false] [0,1,2,3,4,5,6,7,8,9,10,11,12,13,14,15,16,17]),(22, .ord [0,0,0,6,14,0,0,64,224,480,1023,2047,4095] [false,false,false,false,false,true,true,true,true,true,false,false,false] [0,1,2,3,4,5,6,7,8,9,10,11,12]),(23, .ord [0,0,0,0,8,0,0,64,224,480,0,0,3072,7168,16355,32739,65535,131071] [false,false,false,false,false,false,false,false,false,false,true,true,true,true,false,false,false,false] [0,1,2,3,4,5,6,7,8,9,10,11,12,13,14,15,16,17])]
def i331:FI:=fiOf Tryz.f331 [(1, .ord [0,0,0,0,0,0,48,112,0,0,768,1792,4083,8179,16383,32767] [false,false,false,false,false,false,false,false,true,true,true,true,false,false,false,false] [0,1,2,3,4,5,6,7,8,9,10,11,12,13,14,15]),(3, .ord [0,0,3,7,15,15,15,111,239,15,15,1551,3599,8191,16383,32767,65535] [false,false,false,false,false,false,false,false,false,true,true,true,true,false,false,false,false] [0,1,2,3,4,5,6,7,8,9,10,11,12,13,14,15,16]),(5, .ord [0,0,3,7,15,15,15,111,239,15,15,1551,3599,8191,16383,32767] [false,false,false,false,false,false,false,false,false,true,true,true,true,false,false,false] [0,1,2,3,4,5,6,7,8,9,10,11,12,13,14,15]),(8, .ord [0,0,0,0,0,0,48,112,0,0,768,1792,4083,8179,16383,32767] [false,false,false,false,false,false,false,false,true,true,true,true,false,false,false,false] [0,1,2,3,4,5,6,7,8,9,10,11,12,13,14,15])]
def i332:FI:=fiOf Tryz.f332 [(1, .ord [0,0,0,0,0,0,48,112,0,0,768,1792,4083,8179,16383,32767] [false,false,false,false,false,false,false,false,true,true,true,true,false,false,false,false] [0,1,2,3,4,5,6,7,8,9,10,11,12,13,14,15]),(3, .ord [0,0,3,7,15,15,15,111,239,15,15,1551,3599,8191,16383,32767] [false,false,false,false,false,false,false,false,false,true,true,true,true,false,false,false] [0,1,2,3,4,5,6,7,8,9,10,11,12,13,14,15]),(5, .ord [0,0,3,7,15,15,15,111,239,15,15,1551,3599,8191,16383,32767,65535] [false,false,false,false,false,false,false,false,false,true,true,true,true,false,false,false,false] [0,1,2,3,4,5,6,7,8,9,10,11,12,13,14,15,16]),(8, .ord [0,0,0,0,0,0,48,112,0,0,768,1792,4083,8179,16383,32767] [false,false,false,false,false,false,false,false,true,true,true,true,false,false,false,false] [0,1,2,3,4,5,6,7,8,9,10,11,12,13,14,15]),(10, .ord [0,0,0,0,0,0,48,112,0,0,768,1792,4083,8179,16383,32767] [false,false,false,false,false,false,false,false,true,true,true,true,false,false,false,false] [0,1,2,3,4,5,6,7,8,9,10,11,12,13,14,15]),(13, .ord [0,0,3,7,15,15,15,111,239,15,15,1551,3599,8191,16383,32767] [false,false,false,false,false,false,false,false,false,true,true,true,true,false,false,false] [0,1,2,3,4,5,6,7,8,9,10,11,12,13,14,15]),(15, .ord [0,0,3,7,15,15,15,111,239,15,15,1551,3599,8191,16383,32767,65535] [false,false,false,false,false,false,false,false,false,true,true,true,true,false,false,false,false] [0,1,2,3,4,5,6,7,8,9,10,11,12,13,14,15,16]),(18, .ord [0,0,0,0,0,0,48,112,0,0,768,1792,4083,8179,16383,32767] [false,false,false,false,false,false,false,false,true,true,true,true,false,false,false,false] [0,1,2,3,4,5,6,7,8,9,10,11,12,13,14,15]),(21, .ord [0,0,0,0,0,0,48,112,0,0,768,1792,4083,8179,16383,32767] [false,false,false,false,false,false,false,false,true,true,true,true,false,false,false,false] [0,1,2,3,4,5,6,7,8,9,10,11,12,13,14,15])]
def i334:FI:=fiOf Tryz.f334 []
def i335:FI:=fiOf Tryz.f335 []
def i336:FI:=fiOf Tryz.f336 []
def i337:FI:=fiOf Tryz.f337 []
def i338:FI:=fiOf Tryz.f338 [(13, .ord [0,0,0,6,0,0,0,96,254,0,0,2046,4094,8190,16383,32767] [false,false,true,true,true,true,true,true,true,true,true,false,false,false,false,false] [0,1,2,4,5,6,7,9,10,3,8,11,12,13,14,15])]
def i339:FI:=fiOf Tryz.f339 []
def i340:FI:=fiOf Tryz.f340 []
def i341:FI:=fiOf Tryz.f341 []
def i342:FI:=fiOf Tryz.f342 []
def i343:FI:=fiOf Tryz.f343 []
def i344:FI:=fiOf Tryz.f344 [(3, .ord [0,1,0,7,15,31,31,31,223,511,1023,31,31,31,12319,28703,63519,129055,262143,524287] [false,false,false,false,false,false,false,false,false,false,false,true,true,true,true,true,true,true,false,false] [0,1,2,3,4,5,6,7,8,9,10,11,12,13,14,15,16,17,18,19]),(5, .ord [0,0,0,6,15,31,0,0,0,384,960,1984,4095,8191] [false,false,false,false,false,false,true,true,true,true,true,true,false,false] [0,1,2,3,4,5,6,7,8,9,10,11,12,13]),(6, .ord [0,0,0,6,0,0,0,96,0,0,0,1536,3840,7936,0,0,0,98304,245760,507904,1048335,2096911,4194303,8388607] [false,false,false,false,false,false,false,false,false,false,false,false,false,false,true,true,true,true,true,true,false,false,false,false] [0,1,2,3,4,5,6,7,8,9,10,11,12,13,14,15,16,17,18,19,20,21,22,23])]
def i345:FI:=fiOf Tryz.f345 []
def i346:FI:=fiOf Tryz.f346 [(1, .ord [0,1,3,0,8,24,56,127,255,511] [false,false,false,true,true,true,true,false,false,false] [0,1,2,3,4,5,6,7,8,9]),(2, .ord [0,1,3,0,8,24,56,127,255,511] [false,false,false,true,true,true,true,false,false,false] [0,1,2,3,4,5,6,7,8,9]),(3, .ord [0,1,3,0,8,24,56,127,255,511] [false,false,false,true,true,true,true,false,false,false] [0,1,2,3,4,5,6,7,8,9])]
def i347:FI:=fiOf Tryz.f347 []
def i348:FI:=fiOf Tryz.f348 []
def i349:FI:=fiOf Tryz.f349 []
def i350:FI:=fiOf Tryz.f350 []
def i351:FI:=fiOf Tryz.f351 [] 2
def i354:FI:=fiOf Tryz.f354 [(3, .ord [0,1,0,7,15,31,31,31,31,415,991,2015,31,31,31,24607,57375,127007,258079,524287,1048575,2097151] [false,false,false,false,false,false,false,false,false,false,false,false,true,true,true,true,true,true,true,false,false,false] [0,1,2,3,4,5,6,7,8,9,10,11,12,13,14,15,16,17,18,19,20,21]),(5, .ord [0,0,0,0,12,30,62,0,0,0,768,1920,3968,8191,16383,32767] [false,false,false,false,false,false,false,true,true,true,true,true,true,false,false,false] [0,1,2,3,4,5,6,7,8,9,10,11,12,13,14,15]),(6, .ord [0,0,0,6,0,0,0,96,0,0,0,1536,3840,7936,0,0,0,98304,245760,507904,1048335,2096911,4194303,8388607] [false,false,false,false,false,false,false,false,false,false,false,false,false,false,true,true,true,true,true,true,false,false,false,false] [0,1,2,3,4,5,6,7,8,9,10,11,12,13,14,15,16,17,18,19,20,21,22,23])]
def i355:FI:=fiOf Tryz.f355 []
def i356:FI:=fiOf Tryz.f356 []
def i358:FI:=fiOf Tryz.f358 [(6, .ord [0,0,3,0,0,31,63,127] [false,true,true,true,true,false,false,false] [0,1,3,4,2,5,6,7]),(9, .ord [0,0,3,0,0,31,63,127] [false,true,true,true,true,false,false,false] [0,1,3,4,2,5,6,7])]
def i359:FI:=fiOf Tryz.f359 [(1, .ord [0,0,3,7,0,0,48,112,255] [false,false,false,false,true,true,true,true,false] [0,1,2,3,4,5,6,7,8])]
def i362:FI:=fiOf Tryz.f362 [(1, .ord [0,0,0,6,14,0,0,96,224,511,1023] [false,false,false,false,false,true,true,true,true,false,false] [0,1,2,3,4,5,6,7,8,9,10])]
def i365:FI:=fiOf Tryz.f365 []
def i366:FI:=fiOf Tryz.f366 []
def i382:FI:=fiOf Tryz.f382 []
def i383:FI:=fiOf Tryz.f383 []
def i385:FI:=fiOf Tryz.f385 []
def i386:FI:=fiOf Tryz.f386 []
def i387:FI:=fiOf Tryz.f387 []
def i388:FI:=fiOf Tryz.f388 [(1, .ord [0,0,3,0,0,24,56,127,0,0,768,1792,4095,8191] [false,false,false,false,false,false,false,false,true,true,true,true,false,false] [0,1,2,3,4,5,6,7,8,9,10,11,12,13])]
def i389:FI:=fiOf Tryz.f389 []
def i390:FI:=fiOf Tryz.f390 [(1, .ord [0,0,3,0,15,31,0,64,255,511] [false,true,true,true,true,true,true,true,false,false] [0,1,3,6,7,2,4,5,8,9])]
def i391:FI:=fiOf Tryz.f391 []
def i392:FI:=fiOf Tryz.f392 []
def i393:FI:=fiOf Tryz.f393 [(1, .ord [0,0,2,7,0,0,38,118,255,511] [false,false,true,true,true,true,false,false,false,false] [0,1,4,5,2,3,6,7,8,9])]
def i395:FI:=fiOf Tryz.f395 []
def i396:FI:=fiOf Tryz.f396 [(1, .ord [0,1,0,4,15,31] [false,false,true,true,false,false] [0,1,2,3,4,5])]
def i397:FI:=fiOf Tryz.f397 []
def i398:FI:=fiOf Tryz.f398 [(4, .ord [0,1,3,7,0,16,48,112,15,511] [false,false,false,false,true,true,true,true,true,false] [0,1,2,3,4,5,6,7,8,9]),(6, .ord [0,1,3,0,8,24,56,7,255] [false,false,false,true,true,true,true,true,false] [0,1,2,3,4,5,6,7,8]),(11, .ord [0,0,0,4,14,0,0,64,192,0,0,0,2048,0,14348,31756,65516,131070,262143,524287] [false,false,false,true,true,true,true,true,true,true,true,true,true,true,true,true,false,false,false,false] [0,1,2,5,6,7,8,9,10,11,12,13,3,4,14,15,16,17,18,19])]
def i399:FI:=fiOf Tryz.f399 [(2, .ord [0,0,0,6,0,16,62,0,0,384,0,1024,3968,8190,0,32766,65535,131071] [false,false,false,false,false,false,false,true,true,true,true,true,true,false,true,false,false,false] [0,1,2,3,4,5,6,7,8,9,10,11,12,13,14,15,16,17])]
def i400:FI:=fiOf Tryz.f400 []
def i401:FI:=fiOf Tryz.f401 [(2, .ord [0,1,3,0,15,31,63,127,255,63,575,63,2111,7743,16383,63,65535,131071,262143] [false,false,false,true,false,false,false,false,false,true,true,true,true,true,true,true,false,false,false] [0,1,2,3,4,5,6,7,8,9,10,11,12,15,13,14,16,17,18])]
def i402:FI:=fiOf Tryz.f402 []
def i403:FI:=fiOf Tryz.f403 []
def i404:FI:=fiOf Tryz.f404 []
def i405:FI:=fiOf Tryz.f405 [(1, .ord [0,0,2,7,0,0,32,112,255,511] [false,false,false,false,true,true,true,true,false,false] [0,1,2,3,4,5,6,7,8,9])]
def i407:FI:=fiOf Tryz.f407 []
def i408:FI:=fiOf Tryz.f408 [(1, .ord [0,1,0,4,15,31] [false,false,true,true,false,false] [0,1,2,3,4,5])]
def i409:FI:=fiOf Tryz.f409 [(4, .ord [0,0,2,6,15,31,63,63,191,447,63,1087,4031,63,16319,32767,65535,131071] [false,false,false,false,false,false,false,false,false,false,true,true,false,true,false,false,false,false] [0,1,2,3,4,5,6,7,8,9,10,11,12,13,14,15,16,17]),(6, .ord [0,1,3,0,8,31,63] [false,false,false,true,true,false,false] [0,1,2,3,4,5,6]),(7, .ord [0,0,2,6,14,0,32,126,255] [false,false,false,false,false,true,true,false,false] [0,1,2,3,4,5,6,7,8]),(9, .ord [0,0,2,6,0,16,48,0,240,496,0,1024,4080,8191,16383,32767,32767,65535,262143] [false,true,true,true,true,true,true,true,true,true,true,true,true,false,false,false,false,false,false] [0,1,2,3,4,5,6,7,8,9,10,11,12,13,14,15,16,17,18])]
def i410:FI:=fiOf Tryz.f410 [(1, .ord [0,0,3,7,0,16,63,0,176,511,1023] [false,false,false,false,false,true,true,true,false,false,false] [0,1,2,3,4,7,5,6,8,9,10]),(2, .ord [0,0,2,7,0,0,32,112,255,0,0,1024,3584,0,8192,24576,0,122880,0,262144,1040384,2096640,25087,8388607] [false,false,false,false,true,true,true,true,false,true,true,true,true,true,true,true,true,true,true,true,true,true,true,false] [0,1,2,3,4,5,6,7,8,9,10,11,12,13,16,18,19,14,15,17,20,21,22,23])]
def i412:FI:=fiOf Tryz.f412 []
def i413:FI:=fiOf Tryz.f413 [(1, .ord [0,0,2,7,0,31,63] [false,false,false,false,true,false,false] [0,1,2,3,4,5,6])]
def FNt:Tr FI:=(.n (.n (.n (.n (.n (.n (.n (.n (.n .e (some i255) .e) (some i127) (.n .e (some i383) .e)) (some i63) .e) none (.n (.n (.n .e (some i287) .e) none .e) none (.n (.n .e (some i351) .e) none .e))) none (.n (.n (.n (.n .e (some i271) .e) (some i143) (.n .e (some i399) .e)) none (.n (.n .e (some i335) .e) (some i207) .e)) none (.n (.n (.n .e (some i303) .e) (some i175) .e) (some i111) (.n .e (some i239) .e)))) none (.n (.n (.n (.n (.n .e (some i263) .e) (some i135) (.n .e (some i391) .e)) (some i71) (.n (.n .e (some i327) .e) none .e)) (some i39) (.n (.n (.n .e (some i295) .e) (some i167) .e) none (.n (.n .e (some i359) .e) none .e))) none (.n (.n (.n (.n .e (some i279) .e) none (.n .e (some i407) .e)) none (.n (.n .e (some i343) .e) none .e)) none (.n (.n (.n .e (some i311) .e) (some i183) .e) none (.n .e (some i247) .e))))) none (.n (.n (.n (.n (.n (.n .e (some i259) .e) none (.n .e (some i387) .e)) (some i67) .e) none (.n (.n (.n .e (some i291) .e) (some i163) .e) none (.n (.n .e (some i355) .e) none .e))) none (.n (.n (.n (.n .e (some i275) .e) none (.n .e (some i403) .e)) none (.n (.n .e (some i339) .e) none .e)) (some i51) (.n (.n (.n .e (some i307) .e) (some i179) .e) none (.n .e (some i243) .e)))) none (.n (.n (.n (.n (.n .e (some i267) .e) (some i139) (.n .e (some i395) .e)) (some i75) (.n (.n .e (some i331) .e) (some i203) .e)) none (.n (.n .e (some i171) .e) none .e)) none (.n (.n (.n (.n .e (some i283) .e) none .e) none (.n (.n .e (some i347) .e) none .e)) (some i59) (.n (.n .e (some i187) .e) (some i123) (.n .e (some i251) .e)))))) none (.n (.n (.n (.n (.n (.n (.n .e (some i257) .e) none (.n .e (some i385) .e)) none .e) none (.n (.n (.n .e (some i289) .e) (some i161) .e) none .e)) none (.n (.n (.n (.n .e (some i273) .e) none (.n .e (some i401) .e)) none (.n (.n .e (some i337) .e) none .e)) (some i49) (.n (.n (.n .e (some i305) .e) (some i177) .e) (some i113) (.n .e (some i241) .e)))) none (.n (.n (.n (.n (.n .e (some i265) .e) (some i137) (.n .e (some i393) .e)) (some i73) (.n (.n .e (some i329) .e) (some i201) .e)) none (.n (.n (.n .e (some i297) .e) (some i169) .e) none .e)) none (.n (.n (.n (.n .e (some i281) .e) none (.n .e (some i409) .e)) none (.n (.n .e (some i345) .e) none .e)) (some i57) (.n (.n (.n .e (some i313) .e) (some i185) .e) none (.n .e (some i249) .e))))) none (.n (.n (.n (.n (.n (.n .e (some i261) .e) (some i133) (.n .e (some i389) .e)) none (.n (.n .e (some i325) .e) none .e)) none (.n (.n (.n .e (some i293) .e) (some i165) .e) none .e)) (some i21) (.n (.n (.n (.n .e (some i277) .e) none (.n .e (some i405) .e)) (some i85) (.n (.n .e (some i341) .e) none .e)) none (.n (.n (.n .e (some i309) .e) (some i181) .e) (some i117) (.n .e (some i245) .e)))) (some i13) (.n (.n (.n (.n (.n .e (some i269) .e) none (.n .e (some i397) .e)) (some i77) (.n .e (some i205) .e)) none (.n (.n .e (some i173) .e) (some i109) (.n (.n .e (some i365) .e) none .e))) (some i29) (.n (.n (.n (.n .e (some i285) .e) (some i157) (.n .e (some i413) .e)) (some i93) (.n (.n .e (some i349) .e) none .e)) (some i61) (.n .e (some i125) (.n .e (some i253) .e))))))) none (.n (.n (.n (.n (.n (.n (.n (.n .e (some i256) .e) (some i128) .e) none .e) none (.n (.n (.n .e (some i288) .e) (some i160) .e) none .e)) none (.n (.n (.n (.n .e (some i272) .e) (some i144) (.n .e (some i400) .e)) none (.n (.n .e (some i336) .e) (some i208) .e)) none (.n (.n (.n .e (some i304) .e) (some i176) .e) (some i112) (.n .e (some i240) .e)))) none (.n (.n (.n (.n (.n .e (some i264) .e) none (.n .e (some i392) .e)) (some i72) (.n (.n .e (some i328) .e) (some i200) .e)) none (.n (.n (.n .e (some i296) .e) (some i168) .e) none .e)) none (.n (.n (.n (.n .e (some i280) .e) none (.n .e (some i408) .e)) none (.n (.n .e (some i344) .e) none .e)) (some i56) (.n (.n (.n .e (some i312) .e) (some i184) .e) none (.n .e (some i248) .e))))) none (.n (.n (.n (.n (.n (.n .e (some i260) .e) none (.n .e (some i388) .e)) (some i68) .e) none (.n (.n (.n .e (some i292) .e) (some i164) .e) (some i100) (.n (.n .e (some i356) .e) none .e))) none (.n (.n (.n (.n .e (some i276) .e) none (.n .e (some i404) .e)) none (.n (.n .e (some i340) .e) none .e)) none (.n (.n (.n .e (some i308) .e) (some i180) .e) (some i116) (.n .e (some i244) .e)))) none (.n (.n (.n (.n (.n .e (some i268) .e) none (.n .e (some i396) .e)) (some i76) (.n (.n .e (some i332) .e) (some i204) .e)) (some i44) (.n (.n .e (some i172) .e) none .e)) none (.n (.n (.n (.n .e (some i284) .e) none (.n .e (some i412) .e)) none (.n (.n .e (some i348) .e) none .e)) (some i60) (.n (.n .e (some i188) .e) (some i124) (.n .e (some i252) .e)))))) none (.n (.n (.n (.n (.n (.n (.n .e (some i258) .e) none (.n .e (some i386) .e)) none .e) none (.n (.n (.n .e (some i290) .e) (some i162) .e) none (.n (.n .e (some i354) .e) none .e))) (some i18) (.n (.n (.n (.n .e (some i274) .e) none (.n .e (some i402) .e)) none (.n (.n .e (some i338) .e) none .e)) (some i50) (.n (.n (.n .e (some i306) .e) (some i178) .e) (some i114) (.n .e (some i242) .e)))) none (.n (.n (.n (.n (.n .e (some i266) .e) (some i138) .e) (some i74) (.n (.n .e (some i330) .e) (some i202) .e)) none (.n (.n (.n .e (some i298) .e) (some i170) .e) none (.n (.n .e (some i362) .e) none .e))) none (.n (.n (.n (.n .e (some i282) .e) none (.n .e (some i410) .e)) none (.n (.n .e (some i346) .e) none .e)) (some i58) (.n (.n (.n .e (some i314) .e) (some i186) .e) (some i122) (.n .e (some i250) .e))))) none (.n (.n (.n (.n (.n (.n .e (some i262) .e) (some i134) (.n .e (some i390) .e)) none (.n (.n .e (some i326) .e) none .e)) none (.n (.n (.n .e (some i294) .e) (some i166) .e) none (.n (.n .e (some i358) .e) none .e))) (some i22) (.n (.n (.n (.n .e (some i278) .e) none .e) none (.n (.n .e (some i342) .e) none .e)) none (.n (.n (.n .e (some i310) .e) (some i182) .e) none (.n .e (some i246) .e)))) (some i14) (.n (.n (.n (.n (.n .e (some i270) .e) none (.n .e (some i398) .e)) (some i78) (.n (.n .e (some i334) .e) (some i206) .e)) (some i46) (.n (.n (.n .e (some i302) .e) (some i174) .e) (some i110) (.n (.n .e (some i366) .e) (some i238) .e))) none (.n (.n (.n (.n .e (some i286) .e) (some i158) .e) (some i94) (.n (.n .e (some i350) .e) (some i222) .e)) none (.n .e (some i126) (.n (.n .e (some i382) .e) (some i254) .e))))))))
theorem o13:FOk Tryz.prog 13 i13:=⟨Tryz.call13,Tryz.f13,Tryz.func13,rfl,rfl,rfl⟩
theorem o14:FOk Tryz.prog 14 i14:=⟨Tryz.call14,Tryz.f14,Tryz.func14,rfl,rfl,rfl⟩
theorem o18:FOk Tryz.prog 18 i18:=⟨Tryz.call18,Tryz.f18,Tryz.func18,rfl,rfl,rfl⟩
theorem o21:FOk Tryz.prog 21 i21:=⟨Tryz.call21,Tryz.f21,Tryz.func21,rfl,rfl,rfl⟩
theorem o22:FOk Tryz.prog 22 i22:=⟨Tryz.call22,Tryz.f22,Tryz.func22,rfl,rfl,rfl⟩
theorem o29:FOk Tryz.prog 29 i29:=⟨Tryz.call29,Tryz.f29,Tryz.func29,rfl,rfl,rfl⟩
theorem o39:FOk Tryz.prog 39 i39:=⟨Tryz.call39,Tryz.f39,Tryz.func39,rfl,rfl,rfl⟩
theorem o44:FOk Tryz.prog 44 i44:=⟨Tryz.call44,Tryz.f44,Tryz.func44,rfl,rfl,rfl⟩
theorem o46:FOk Tryz.prog 46 i46:=⟨Tryz.call46,Tryz.f46,Tryz.func46,rfl,rfl,rfl⟩
theorem o49:FOk Tryz.prog 49 i49:=⟨Tryz.call49,Tryz.f49,Tryz.func49,rfl,rfl,rfl⟩
theorem o50:FOk Tryz.prog 50 i50:=⟨Tryz.call50,Tryz.f50,Tryz.func50,rfl,rfl,rfl⟩
theorem o51:FOk Tryz.prog 51 i51:=⟨Tryz.call51,Tryz.f51,Tryz.func51,rfl,rfl,rfl⟩
theorem o56:FOk Tryz.prog 56 i56:=⟨Tryz.call56,Tryz.f56,Tryz.func56,rfl,rfl,rfl⟩
theorem o57:FOk Tryz.prog 57 i57:=⟨Tryz.call57,Tryz.f57,Tryz.func57,rfl,rfl,rfl⟩
theorem o58:FOk Tryz.prog 58 i58:=⟨Tryz.call58,Tryz.f58,Tryz.func58,rfl,rfl,rfl⟩
theorem o59:FOk Tryz.prog 59 i59:=⟨Tryz.call59,Tryz.f59,Tryz.func59,rfl,rfl,rfl⟩
theorem o60:FOk Tryz.prog 60 i60:=⟨Tryz.call60,Tryz.f60,Tryz.func60,rfl,rfl,rfl⟩
theorem o61:FOk Tryz.prog 61 i61:=⟨Tryz.call61,Tryz.f61,Tryz.func61,rfl,rfl,rfl⟩
theorem o63:FOk Tryz.prog 63 i63:=⟨Tryz.call63,Tryz.f63,Tryz.func63,rfl,rfl,rfl⟩
theorem o67:FOk Tryz.prog 67 i67:=⟨Tryz.call67,Tryz.f67,Tryz.func67,rfl,rfl,rfl⟩
theorem o68:FOk Tryz.prog 68 i68:=⟨Tryz.call68,Tryz.f68,Tryz.func68,rfl,rfl,rfl⟩
theorem o71:FOk Tryz.prog 71 i71:=⟨Tryz.call71,Tryz.f71,Tryz.func71,rfl,rfl,rfl⟩
theorem o72:FOk Tryz.prog 72 i72:=⟨Tryz.call72,Tryz.f72,Tryz.func72,rfl,rfl,rfl⟩
theorem o73:FOk Tryz.prog 73 i73:=⟨Tryz.call73,Tryz.f73,Tryz.func73,rfl,rfl,rfl⟩
theorem o74:FOk Tryz.prog 74 i74:=⟨Tryz.call74,Tryz.f74,Tryz.func74,rfl,rfl,rfl⟩
theorem o75:FOk Tryz.prog 75 i75:=⟨Tryz.call75,Tryz.f75,Tryz.func75,rfl,rfl,rfl⟩
theorem o76:FOk Tryz.prog 76 i76:=⟨Tryz.call76,Tryz.f76,Tryz.func76,rfl,rfl,rfl⟩
theorem o77:FOk Tryz.prog 77 i77:=⟨Tryz.call77,Tryz.f77,Tryz.func77,rfl,rfl,rfl⟩
theorem o78:FOk Tryz.prog 78 i78:=⟨Tryz.call78,Tryz.f78,Tryz.func78,rfl,rfl,rfl⟩
theorem o85:FOk Tryz.prog 85 i85:=⟨Tryz.call85,Tryz.f85,Tryz.func85,rfl,rfl,rfl⟩
theorem o93:FOk Tryz.prog 93 i93:=⟨Tryz.call93,Tryz.f93,Tryz.func93,rfl,rfl,rfl⟩
theorem o94:FOk Tryz.prog 94 i94:=⟨Tryz.call94,Tryz.f94,Tryz.func94,rfl,rfl,rfl⟩
theorem o100:FOk Tryz.prog 100 i100:=⟨Tryz.call100,Tryz.f100,Tryz.func100,rfl,rfl,rfl⟩
theorem o109:FOk Tryz.prog 109 i109:=⟨Tryz.call109,Tryz.f109,Tryz.func109,rfl,rfl,rfl⟩
theorem o110:FOk Tryz.prog 110 i110:=⟨Tryz.call110,Tryz.f110,Tryz.func110,rfl,rfl,rfl⟩
theorem o111:FOk Tryz.prog 111 i111:=⟨Tryz.call111,Tryz.f111,Tryz.func111,rfl,rfl,rfl⟩
theorem o112:FOk Tryz.prog 112 i112:=⟨Tryz.call112,Tryz.f112,Tryz.func112,rfl,rfl,rfl⟩
theorem o113:FOk Tryz.prog 113 i113:=⟨Tryz.call113,Tryz.f113,Tryz.func113,rfl,rfl,rfl⟩
theorem o114:FOk Tryz.prog 114 i114:=⟨Tryz.call114,Tryz.f114,Tryz.func114,rfl,rfl,rfl⟩
theorem o116:FOk Tryz.prog 116 i116:=⟨Tryz.call116,Tryz.f116,Tryz.func116,rfl,rfl,rfl⟩
theorem o117:FOk Tryz.prog 117 i117:=⟨Tryz.call117,Tryz.f117,Tryz.func117,rfl,rfl,rfl⟩
theorem o122:FOk Tryz.prog 122 i122:=⟨Tryz.call122,Tryz.f122,Tryz.func122,rfl,rfl,rfl⟩
theorem o123:FOk Tryz.prog 123 i123:=⟨Tryz.call123,Tryz.f123,Tryz.func123,rfl,rfl,rfl⟩
theorem o124:FOk Tryz.prog 124 i124:=⟨Tryz.call124,Tryz.f124,Tryz.func124,rfl,rfl,rfl⟩
theorem o125:FOk Tryz.prog 125 i125:=⟨Tryz.call125,Tryz.f125,Tryz.func125,rfl,rfl,rfl⟩
theorem o126:FOk Tryz.prog 126 i126:=⟨Tryz.call126,Tryz.f126,Tryz.func126,rfl,rfl,rfl⟩
theorem o127:FOk Tryz.prog 127 i127:=⟨Tryz.call127,Tryz.f127,Tryz.func127,rfl,rfl,rfl⟩
theorem o128:FOk Tryz.prog 128 i128:=⟨Tryz.call128,Tryz.f128,Tryz.func128,rfl,rfl,rfl⟩
theorem o133:FOk Tryz.prog 133 i133:=⟨Tryz.call133,Tryz.f133,Tryz.func133,rfl,rfl,rfl⟩
theorem o134:FOk Tryz.prog 134 i134:=⟨Tryz.call134,Tryz.f134,Tryz.func134,rfl,rfl,rfl⟩
theorem o135:FOk Tryz.prog 135 i135:=⟨Tryz.call135,Tryz.f135,Tryz.func135,rfl,rfl,rfl⟩
theorem o137:FOk Tryz.prog 137 i137:=⟨Tryz.call137,Tryz.f137,Tryz.func137,rfl,rfl,rfl⟩
theorem o138:FOk Tryz.prog 138 i138:=⟨Tryz.call138,Tryz.f138,Tryz.func138,rfl,rfl,rfl⟩
theorem o139:FOk Tryz.prog 139 i139:=⟨Tryz.call139,Tryz.f139,Tryz.func139,rfl,rfl,rfl⟩
theorem o143:FOk Tryz.prog 143 i143:=⟨Tryz.call143,Tryz.f143,Tryz.func143,rfl,rfl,rfl⟩
theorem o144:FOk Tryz.prog 144 i144:=⟨Tryz.call144,Tryz.f144,Tryz.func144,rfl,rfl,rfl⟩
theorem o157:FOk Tryz.prog 157 i157:=⟨Tryz.call157,Tryz.f157,Tryz.func157,rfl,rfl,rfl⟩
theorem o158:FOk Tryz.prog 158 i158:=⟨Tryz.call158,Tryz.f158,Tryz.func158,rfl,rfl,rfl⟩
theorem o160:FOk Tryz.prog 160 i160:=⟨Tryz.call160,Tryz.f160,Tryz.func160,rfl,rfl,rfl⟩
theorem o161:FOk Tryz.prog 161 i161:=⟨Tryz.call161,Tryz.f161,Tryz.func161,rfl,rfl,rfl⟩
theorem o162:FOk Tryz.prog 162 i162:=⟨Tryz.call162,Tryz.f162,Tryz.func162,rfl,rfl,rfl⟩
theorem o163:FOk Tryz.prog 163 i163:=⟨Tryz.call163,Tryz.f163,Tryz.func163,rfl,rfl,rfl⟩
theorem o164:FOk Tryz.prog 164 i164:=⟨Tryz.call164,Tryz.f164,Tryz.func164,rfl,rfl,rfl⟩
theorem o165:FOk Tryz.prog 165 i165:=⟨Tryz.call165,Tryz.f165,Tryz.func165,rfl,rfl,rfl⟩
theorem o166:FOk Tryz.prog 166 i166:=⟨Tryz.call166,Tryz.f166,Tryz.func166,rfl,rfl,rfl⟩
theorem o167:FOk Tryz.prog 167 i167:=⟨Tryz.call167,Tryz.f167,Tryz.func167,rfl,rfl,rfl⟩
theorem o168:FOk Tryz.prog 168 i168:=⟨Tryz.call168,Tryz.f168,Tryz.func168,rfl,rfl,rfl⟩
theorem o169:FOk Tryz.prog 169 i169:=⟨Tryz.call169,Tryz.f169,Tryz.func169,rfl,rfl,rfl⟩
theorem o170:FOk Tryz.prog 170 i170:=⟨Tryz.call170,Tryz.f170,Tryz.func170,rfl,rfl,rfl⟩
theorem o171:FOk Tryz.prog 171 i171:=⟨Tryz.call171,Tryz.f171,Tryz.func171,rfl,rfl,rfl⟩
theorem o172:FOk Tryz.prog 172 i172:=⟨Tryz.call172,Tryz.f172,Tryz.func172,rfl,rfl,rfl⟩
theorem o173:FOk Tryz.prog 173 i173:=⟨Tryz.call173,Tryz.f173,Tryz.func173,rfl,rfl,rfl⟩
theorem o174:FOk Tryz.prog 174 i174:=⟨Tryz.call174,Tryz.f174,Tryz.func174,rfl,rfl,rfl⟩
theorem o175:FOk Tryz.prog 175 i175:=⟨Tryz.call175,Tryz.f175,Tryz.func175,rfl,rfl,rfl⟩
theorem o176:FOk Tryz.prog 176 i176:=⟨Tryz.call176,Tryz.f176,Tryz.func176,rfl,rfl,rfl⟩
theorem o177:FOk Tryz.prog 177 i177:=⟨Tryz.call177,Tryz.f177,Tryz.func177,rfl,rfl,rfl⟩
theorem o178:FOk Tryz.prog 178 i178:=⟨Tryz.call178,Tryz.f178,Tryz.func178,rfl,rfl,rfl⟩
theorem o179:FOk Tryz.prog 179 i179:=⟨Tryz.call179,Tryz.f179,Tryz.func179,rfl,rfl,rfl⟩
theorem o180:FOk Tryz.prog 180 i180:=⟨Tryz.call180,Tryz.f180,Tryz.func180,rfl,rfl,rfl⟩
theorem o181:FOk Tryz.prog 181 i181:=⟨Tryz.call181,Tryz.f181,Tryz.func181,rfl,rfl,rfl⟩
theorem o182:FOk Tryz.prog 182 i182:=⟨Tryz.call182,Tryz.f182,Tryz.func182,rfl,rfl,rfl⟩
theorem o183:FOk Tryz.prog 183 i183:=⟨Tryz.call183,Tryz.f183,Tryz.func183,rfl,rfl,rfl⟩
theorem o184:FOk Tryz.prog 184 i184:=⟨Tryz.call184,Tryz.f184,Tryz.func184,rfl,rfl,rfl⟩
theorem o185:FOk Tryz.prog 185 i185:=⟨Tryz.call185,Tryz.f185,Tryz.func185,rfl,rfl,rfl⟩
theorem o186:FOk Tryz.prog 186 i186:=⟨Tryz.call186,Tryz.f186,Tryz.func186,rfl,rfl,rfl⟩
theorem o187:FOk Tryz.prog 187 i187:=⟨Tryz.call187,Tryz.f187,Tryz.func187,rfl,rfl,rfl⟩
theorem o188:FOk Tryz.prog 188 i188:=⟨Tryz.call188,Tryz.f188,Tryz.func188,rfl,rfl,rfl⟩
theorem o200:FOk Tryz.prog 200 i200:=⟨Tryz.call200,Tryz.f200,Tryz.func200,rfl,rfl,rfl⟩
theorem o201:FOk Tryz.prog 201 i201:=⟨Tryz.call201,Tryz.f201,Tryz.func201,rfl,rfl,rfl⟩
theorem o202:FOk Tryz.prog 202 i202:=⟨Tryz.call202,Tryz.f202,Tryz.func202,rfl,rfl,rfl⟩
theorem o203:FOk Tryz.prog 203 i203:=⟨Tryz.call203,Tryz.f203,Tryz.func203,rfl,rfl,rfl⟩
theorem o204:FOk Tryz.prog 204 i204:=⟨Tryz.call204,Tryz.f204,Tryz.func204,rfl,rfl,rfl⟩
theorem o205:FOk Tryz.prog 205 i205:=⟨Tryz.call205,Tryz.f205,Tryz.func205,rfl,rfl,rfl⟩
theorem o206:FOk Tryz.prog 206 i206:=⟨Tryz.call206,Tryz.f206,Tryz.func206,rfl,rfl,rfl⟩
theorem o207:FOk Tryz.prog 207 i207:=⟨Tryz.call207,Tryz.f207,Tryz.func207,rfl,rfl,rfl⟩
theorem o208:FOk Tryz.prog 208 i208:=⟨Tryz.call208,Tryz.f208,Tryz.func208,rfl,rfl,rfl⟩
theorem o222:FOk Tryz.prog 222 i222:=⟨Tryz.call222,Tryz.f222,Tryz.func222,rfl,rfl,rfl⟩
theorem o238:FOk Tryz.prog 238 i238:=⟨Tryz.call238,Tryz.f238,Tryz.func238,rfl,rfl,rfl⟩
theorem o239:FOk Tryz.prog 239 i239:=⟨Tryz.call239,Tryz.f239,Tryz.func239,rfl,rfl,rfl⟩
theorem o240:FOk Tryz.prog 240 i240:=⟨Tryz.call240,Tryz.f240,Tryz.func240,rfl,rfl,rfl⟩
theorem o241:FOk Tryz.prog 241 i241:=⟨Tryz.call241,Tryz.f241,Tryz.func241,rfl,rfl,rfl⟩
theorem o242:FOk Tryz.prog 242 i242:=⟨Tryz.call242,Tryz.f242,Tryz.func242,rfl,rfl,rfl⟩
theorem o243:FOk Tryz.prog 243 i243:=⟨Tryz.call243,Tryz.f243,Tryz.func243,rfl,rfl,rfl⟩
theorem o244:FOk Tryz.prog 244 i244:=⟨Tryz.call244,Tryz.f244,Tryz.func244,rfl,rfl,rfl⟩
theorem o245:FOk Tryz.prog 245 i245:=⟨Tryz.call245,Tryz.f245,Tryz.func245,rfl,rfl,rfl⟩
theorem o246:FOk Tryz.prog 246 i246:=⟨Tryz.call246,Tryz.f246,Tryz.func246,rfl,rfl,rfl⟩
theorem o247:FOk Tryz.prog 247 i247:=⟨Tryz.call247,Tryz.f247,Tryz.func247,rfl,rfl,rfl⟩
theorem o248:FOk Tryz.prog 248 i248:=⟨Tryz.call248,Tryz.f248,Tryz.func248,rfl,rfl,rfl⟩
theorem o249:FOk Tryz.prog 249 i249:=⟨Tryz.call249,Tryz.f249,Tryz.func249,rfl,rfl,rfl⟩
theorem o250:FOk Tryz.prog 250 i250:=⟨Tryz.call250,Tryz.f250,Tryz.func250,rfl,rfl,rfl⟩
theorem o251:FOk Tryz.prog 251 i251:=⟨Tryz.call251,Tryz.f251,Tryz.func251,rfl,rfl,rfl⟩
theorem o252:FOk Tryz.prog 252 i252:=⟨Tryz.call252,Tryz.f252,Tryz.func252,rfl,rfl,rfl⟩
theorem o253:FOk Tryz.prog 253 i253:=⟨Tryz.call253,Tryz.f253,Tryz.func253,rfl,rfl,rfl⟩
theorem o254:FOk Tryz.prog 254 i254:=⟨Tryz.call254,Tryz.f254,Tryz.func254,rfl,rfl,rfl⟩
theorem o255:FOk Tryz.prog 255 i255:=⟨Tryz.call255,Tryz.f255,Tryz.func255,rfl,rfl,rfl⟩
theorem o256:FOk Tryz.prog 256 i256:=⟨Tryz.call256,Tryz.f256,Tryz.func256,rfl,rfl,rfl⟩
theorem o257:FOk Tryz.prog 257 i257:=⟨Tryz.call257,Tryz.f257,Tryz.func257,rfl,rfl,rfl⟩
theorem o258:FOk Tryz.prog 258 i258:=⟨Tryz.call258,Tryz.f258,Tryz.func258,rfl,rfl,rfl⟩
theorem o259:FOk Tryz.prog 259 i259:=⟨Tryz.call259,Tryz.f259,Tryz.func259,rfl,rfl,rfl⟩
theorem o260:FOk Tryz.prog 260 i260:=⟨Tryz.call260,Tryz.f260,Tryz.func260,rfl,rfl,rfl⟩
theorem o261:FOk Tryz.prog 261 i261:=⟨Tryz.call261,Tryz.f261,Tryz.func261,rfl,rfl,rfl⟩
theorem o262:FOk Tryz.prog 262 i262:=⟨Tryz.call262,Tryz.f262,Tryz.func262,rfl,rfl,rfl⟩
theorem o263:FOk Tryz.prog 263 i263:=⟨Tryz.call263,Tryz.f263,Tryz.func263,rfl,rfl,rfl⟩
theorem o264:FOk Tryz.prog 264 i264:=⟨Tryz.call264,Tryz.f264,Tryz.func264,rfl,rfl,rfl⟩
theorem o265:FOk Tryz.prog 265 i265:=⟨Tryz.call265,Tryz.f265,Tryz.func265,rfl,rfl,rfl⟩
theorem o266:FOk Tryz.prog 266 i266:=⟨Tryz.call266,Tryz.f266,Tryz.func266,rfl,rfl,rfl⟩
theorem o267:FOk Tryz.prog 267 i267:=⟨Tryz.call267,Tryz.f267,Tryz.func267,rfl,rfl,rfl⟩
theorem o268:FOk Tryz.prog 268 i268:=⟨Tryz.call268,Tryz.f268,Tryz.func268,rfl,rfl,rfl⟩
theorem o269:FOk Tryz.prog 269 i269:=⟨Tryz.call269,Tryz.f269,Tryz.func269,rfl,rfl,rfl⟩
theorem o270:FOk Tryz.prog 270 i270:=⟨Tryz.call270,Tryz.f270,Tryz.func270,rfl,rfl,rfl⟩
theorem o271:FOk Tryz.prog 271 i271:=⟨Tryz.call271,Tryz.f271,Tryz.func271,rfl,rfl,rfl⟩
theorem o272:FOk Tryz.prog 272 i272:=⟨Tryz.call272,Tryz.f272,Tryz.func272,rfl,rfl,rfl⟩
theorem o273:FOk Tryz.prog 273 i273:=⟨Tryz.call273,Tryz.f273,Tryz.func273,rfl,rfl,rfl⟩
theorem o274:FOk Tryz.prog 274 i274:=⟨Tryz.call274,Tryz.f274,Tryz.func274,rfl,rfl,rfl⟩
theorem o275:FOk Tryz.prog 275 i275:=⟨Tryz.call275,Tryz.f275,Tryz.func275,rfl,rfl,rfl⟩
theorem o276:FOk Tryz.prog 276 i276:=⟨Tryz.call276,Tryz.f276,Tryz.func276,rfl,rfl,rfl⟩
theorem o277:FOk Tryz.prog 277 i277:=⟨Tryz.call277,Tryz.f277,Tryz.func277,rfl,rfl,rfl⟩
theorem o278:FOk Tryz.prog 278 i278:=⟨Tryz.call278,Tryz.f278,Tryz.func278,rfl,rfl,rfl⟩
theorem o279:FOk Tryz.prog 279 i279:=⟨Tryz.call279,Tryz.f279,Tryz.func279,rfl,rfl,rfl⟩
theorem o280:FOk Tryz.prog 280 i280:=⟨Tryz.call280,Tryz.f280,Tryz.func280,rfl,rfl,rfl⟩
theorem o281:FOk Tryz.prog 281 i281:=⟨Tryz.call281,Tryz.f281,Tryz.func281,rfl,rfl,rfl⟩
theorem o282:FOk Tryz.prog 282 i282:=⟨Tryz.call282,Tryz.f282,Tryz.func282,rfl,rfl,rfl⟩
theorem o283:FOk Tryz.prog 283 i283:=⟨Tryz.call283,Tryz.f283,Tryz.func283,rfl,rfl,rfl⟩
theorem o284:FOk Tryz.prog 284 i284:=⟨Tryz.call284,Tryz.f284,Tryz.func284,rfl,rfl,rfl⟩
theorem o285:FOk Tryz.prog 285 i285:=⟨Tryz.call285,Tryz.f285,Tryz.func285,rfl,rfl,rfl⟩
theorem o286:FOk Tryz.prog 286 i286:=⟨Tryz.call286,Tryz.f286,Tryz.func286,rfl,rfl,rfl⟩
theorem o287:FOk Tryz.prog 287 i287:=⟨Tryz.call287,Tryz.f287,Tryz.func287,rfl,rfl,rfl⟩
theorem o288:FOk Tryz.prog 288 i288:=⟨Tryz.call288,Tryz.f288,Tryz.func288,rfl,rfl,rfl⟩
theorem o289:FOk Tryz.prog 289 i289:=⟨Tryz.call289,Tryz.f289,Tryz.func289,rfl,rfl,rfl⟩
theorem o290:FOk Tryz.prog 290 i290:=⟨Tryz.call290,Tryz.f290,Tryz.func290,rfl,rfl,rfl⟩
theorem o291:FOk Tryz.prog 291 i291:=⟨Tryz.call291,Tryz.f291,Tryz.func291,rfl,rfl,rfl⟩
theorem o292:FOk Tryz.prog 292 i292:=⟨Tryz.call292,Tryz.f292,Tryz.func292,rfl,rfl,rfl⟩
theorem o293:FOk Tryz.prog 293 i293:=⟨Tryz.call293,Tryz.f293,Tryz.func293,rfl,rfl,rfl⟩
theorem o294:FOk Tryz.prog 294 i294:=⟨Tryz.call294,Tryz.f294,Tryz.func294,rfl,rfl,rfl⟩
theorem o295:FOk Tryz.prog 295 i295:=⟨Tryz.call295,Tryz.f295,Tryz.func295,rfl,rfl,rfl⟩
theorem o296:FOk Tryz.prog 296 i296:=⟨Tryz.call296,Tryz.f296,Tryz.func296,rfl,rfl,rfl⟩
theorem o297:FOk Tryz.prog 297 i297:=⟨Tryz.call297,Tryz.f297,Tryz.func297,rfl,rfl,rfl⟩
theorem o298:FOk Tryz.prog 298 i298:=⟨Tryz.call298,Tryz.f298,Tryz.func298,rfl,rfl,rfl⟩
theorem o302:FOk Tryz.prog 302 i302:=⟨Tryz.call302,Tryz.f302,Tryz.func302,rfl,rfl,rfl⟩
theorem o303:FOk Tryz.prog 303 i303:=⟨Tryz.call303,Tryz.f303,Tryz.func303,rfl,rfl,rfl⟩
theorem o304:FOk Tryz.prog 304 i304:=⟨Tryz.call304,Tryz.f304,Tryz.func304,rfl,rfl,rfl⟩
theorem o305:FOk Tryz.prog 305 i305:=⟨Tryz.call305,Tryz.f305,Tryz.func305,rfl,rfl,rfl⟩
theorem o306:FOk Tryz.prog 306 i306:=⟨Tryz.call306,Tryz.f306,Tryz.func306,rfl,rfl,rfl⟩
theorem o307:FOk Tryz.prog 307 i307:=⟨Tryz.call307,Tryz.f307,Tryz.func307,rfl,rfl,rfl⟩
theorem o308:FOk Tryz.prog 308 i308:=⟨Tryz.call308,Tryz.f308,Tryz.func308,rfl,rfl,rfl⟩
theorem o309:FOk Tryz.prog 309 i309:=⟨Tryz.call309,Tryz.f309,Tryz.func309,rfl,rfl,rfl⟩
theorem o310:FOk Tryz.prog 310 i310:=⟨Tryz.call310,Tryz.f310,Tryz.func310,rfl,rfl,rfl⟩
theorem o311:FOk Tryz.prog 311 i311:=⟨Tryz.call311,Tryz.f311,Tryz.func311,rfl,rfl,rfl⟩
theorem o312:FOk Tryz.prog 312 i312:=⟨Tryz.call312,Tryz.f312,Tryz.func312,rfl,rfl,rfl⟩
theorem o313:FOk Tryz.prog 313 i313:=⟨Tryz.call313,Tryz.f313,Tryz.func313,rfl,rfl,rfl⟩
theorem o314:FOk Tryz.prog 314 i314:=⟨Tryz.call314,Tryz.f314,Tryz.func314,rfl,rfl,rfl⟩
theorem o325:FOk Tryz.prog 325 i325:=⟨Tryz.call325,Tryz.f325,Tryz.func325,rfl,rfl,rfl⟩
theorem o326:FOk Tryz.prog 326 i326:=⟨Tryz.call326,Tryz.f326,Tryz.func326,rfl,rfl,rfl⟩
theorem o327:FOk Tryz.prog 327 i327:=⟨Tryz.call327,Tryz.f327,Tryz.func327,rfl,rfl,rfl⟩
theorem o328:FOk Tryz.prog 328 i328:=⟨Tryz.call328,Tryz.f328,Tryz.func328,rfl,rfl,rfl⟩
theorem o329:FOk Tryz.prog 329 i329:=⟨Tryz.call329,Tryz.f329,Tryz.func329,rfl,rfl,rfl⟩
theorem o330:FOk Tryz.prog 330 i330:=⟨Tryz.call330,Tryz.f330,Tryz.func330,rfl,rfl,rfl⟩
theorem o331:FOk Tryz.prog 331 i331:=⟨Tryz.call331,Tryz.f331,Tryz.func331,rfl,rfl,rfl⟩
theorem o332:FOk Tryz.prog 332 i332:=⟨Tryz.call332,Tryz.f332,Tryz.func332,rfl,rfl,rfl⟩
theorem o334:FOk Tryz.prog 334 i334:=⟨Tryz.call334,Tryz.f334,Tryz.func334,rfl,rfl,rfl⟩
theorem o335:FOk Tryz.prog 335 i335:=⟨Tryz.call335,Tryz.f335,Tryz.func335,rfl,rfl,rfl⟩
theorem o336:FOk Tryz.prog 336 i336:=⟨Tryz.call336,Tryz.f336,Tryz.func336,rfl,rfl,rfl⟩
theorem o337:FOk Tryz.prog 337 i337:=⟨Tryz.call337,Tryz.f337,Tryz.func337,rfl,rfl,rfl⟩
theorem o338:FOk Tryz.prog 338 i338:=⟨Tryz.call338,Tryz.f338,Tryz.func338,rfl,rfl,rfl⟩
theorem o339:FOk Tryz.prog 339 i339:=⟨Tryz.call339,Tryz.f339,Tryz.func339,rfl,rfl,rfl⟩
theorem o340:FOk Tryz.prog 340 i340:=⟨Tryz.call340,Tryz.f340,Tryz.func340,rfl,rfl,rfl⟩
theorem o341:FOk Tryz.prog 341 i341:=⟨Tryz.call341,Tryz.f341,Tryz.func341,rfl,rfl,rfl⟩
theorem o342:FOk Tryz.prog 342 i342:=⟨Tryz.call342,Tryz.f342,Tryz.func342,rfl,rfl,rfl⟩
theorem o343:FOk Tryz.prog 343 i343:=⟨Tryz.call343,Tryz.f343,Tryz.func343,rfl,rfl,rfl⟩
theorem o344:FOk Tryz.prog 344 i344:=⟨Tryz.call344,Tryz.f344,Tryz.func344,rfl,rfl,rfl⟩
theorem o345:FOk Tryz.prog 345 i345:=⟨Tryz.call345,Tryz.f345,Tryz.func345,rfl,rfl,rfl⟩
theorem o346:FOk Tryz.prog 346 i346:=⟨Tryz.call346,Tryz.f346,Tryz.func346,rfl,rfl,rfl⟩
theorem o347:FOk Tryz.prog 347 i347:=⟨Tryz.call347,Tryz.f347,Tryz.func347,rfl,rfl,rfl⟩
theorem o348:FOk Tryz.prog 348 i348:=⟨Tryz.call348,Tryz.f348,Tryz.func348,rfl,rfl,rfl⟩
theorem o349:FOk Tryz.prog 349 i349:=⟨Tryz.call349,Tryz.f349,Tryz.func349,rfl,rfl,rfl⟩
theorem o350:FOk Tryz.prog 350 i350:=⟨Tryz.call350,Tryz.f350,Tryz.func350,rfl,rfl,rfl⟩
theorem o351:FOk Tryz.prog 351 i351:=⟨Tryz.call351,Tryz.f351,Tryz.func351,rfl,rfl,rfl⟩
theorem o354:FOk Tryz.prog 354 i354:=⟨Tryz.call354,Tryz.f354,Tryz.func354,rfl,rfl,rfl⟩
theorem o355:FOk Tryz.prog 355 i355:=⟨Tryz.call355,Tryz.f355,Tryz.func355,rfl,rfl,rfl⟩
theorem o356:FOk Tryz.prog 356 i356:=⟨Tryz.call356,Tryz.f356,Tryz.func356,rfl,rfl,rfl⟩
theorem o358:FOk Tryz.prog 358 i358:=⟨Tryz.call358,Tryz.f358,Tryz.func358,rfl,rfl,rfl⟩
theorem o359:FOk Tryz.prog 359 i359:=⟨Tryz.call359,Tryz.f359,Tryz.func359,rfl,rfl,rfl⟩
theorem o362:FOk Tryz.prog 362 i362:=⟨Tryz.call362,Tryz.f362,Tryz.func362,rfl,rfl,rfl⟩
theorem o365:FOk Tryz.prog 365 i365:=⟨Tryz.call365,Tryz.f365,Tryz.func365,rfl,rfl,rfl⟩
theorem o366:FOk Tryz.prog 366 i366:=⟨Tryz.call366,Tryz.f366,Tryz.func366,rfl,rfl,rfl⟩
theorem o382:FOk Tryz.prog 382 i382:=⟨Tryz.call382,Tryz.f382,Tryz.func382,rfl,rfl,rfl⟩
theorem o383:FOk Tryz.prog 383 i383:=⟨Tryz.call383,Tryz.f383,Tryz.func383,rfl,rfl,rfl⟩
theorem o385:FOk Tryz.prog 385 i385:=⟨Tryz.call385,Tryz.f385,Tryz.func385,rfl,rfl,rfl⟩
theorem o386:FOk Tryz.prog 386 i386:=⟨Tryz.call386,Tryz.f386,Tryz.func386,rfl,rfl,rfl⟩
theorem o387:FOk Tryz.prog 387 i387:=⟨Tryz.call387,Tryz.f387,Tryz.func387,rfl,rfl,rfl⟩
theorem o388:FOk Tryz.prog 388 i388:=⟨Tryz.call388,Tryz.f388,Tryz.func388,rfl,rfl,rfl⟩
theorem o389:FOk Tryz.prog 389 i389:=⟨Tryz.call389,Tryz.f389,Tryz.func389,rfl,rfl,rfl⟩
theorem o390:FOk Tryz.prog 390 i390:=⟨Tryz.call390,Tryz.f390,Tryz.func390,rfl,rfl,rfl⟩
theorem o391:FOk Tryz.prog 391 i391:=⟨Tryz.call391,Tryz.f391,Tryz.func391,rfl,rfl,rfl⟩
theorem o392:FOk Tryz.prog 392 i392:=⟨Tryz.call392,Tryz.f392,Tryz.func392,rfl,rfl,rfl⟩
theorem o393:FOk Tryz.prog 393 i393:=⟨Tryz.call393,Tryz.f393,Tryz.func393,rfl,rfl,rfl⟩
theorem o395:FOk Tryz.prog 395 i395:=⟨Tryz.call395,Tryz.f395,Tryz.func395,rfl,rfl,rfl⟩
theorem o396:FOk Tryz.prog 396 i396:=⟨Tryz.call396,Tryz.f396,Tryz.func396,rfl,rfl,rfl⟩
theorem o397:FOk Tryz.prog 397 i397:=⟨Tryz.call397,Tryz.f397,Tryz.func397,rfl,rfl,rfl⟩
theorem o398:FOk Tryz.prog 398 i398:=⟨Tryz.call398,Tryz.f398,Tryz.func398,rfl,rfl,rfl⟩
theorem o399:FOk Tryz.prog 399 i399:=⟨Tryz.call399,Tryz.f399,Tryz.func399,rfl,rfl,rfl⟩
theorem o400:FOk Tryz.prog 400 i400:=⟨Tryz.call400,Tryz.f400,Tryz.func400,rfl,rfl,rfl⟩
theorem o401:FOk Tryz.prog 401 i401:=⟨Tryz.call401,Tryz.f401,Tryz.func401,rfl,rfl,rfl⟩
theorem o402:FOk Tryz.prog 402 i402:=⟨Tryz.call402,Tryz.f402,Tryz.func402,rfl,rfl,rfl⟩
theorem o403:FOk Tryz.prog 403 i403:=⟨Tryz.call403,Tryz.f403,Tryz.func403,rfl,rfl,rfl⟩
theorem o404:FOk Tryz.prog 404 i404:=⟨Tryz.call404,Tryz.f404,Tryz.func404,rfl,rfl,rfl⟩
theorem o405:FOk Tryz.prog 405 i405:=⟨Tryz.call405,Tryz.f405,Tryz.func405,rfl,rfl,rfl⟩
theorem o407:FOk Tryz.prog 407 i407:=⟨Tryz.call407,Tryz.f407,Tryz.func407,rfl,rfl,rfl⟩
theorem o408:FOk Tryz.prog 408 i408:=⟨Tryz.call408,Tryz.f408,Tryz.func408,rfl,rfl,rfl⟩
theorem o409:FOk Tryz.prog 409 i409:=⟨Tryz.call409,Tryz.f409,Tryz.func409,rfl,rfl,rfl⟩
theorem o410:FOk Tryz.prog 410 i410:=⟨Tryz.call410,Tryz.f410,Tryz.func410,rfl,rfl,rfl⟩
theorem o412:FOk Tryz.prog 412 i412:=⟨Tryz.call412,Tryz.f412,Tryz.func412,rfl,rfl,rfl⟩
theorem o413:FOk Tryz.prog 413 i413:=⟨Tryz.call413,Tryz.f413,Tryz.func413,rfl,rfl,rfl⟩
theorem fall:TrAll (FOk Tryz.prog) (fun m=>m) FNt:=⟨⟨⟨⟨⟨⟨⟨⟨⟨trivial,o255,trivial⟩,o127,⟨trivial,o383,trivial⟩⟩,o63,trivial⟩,trivial,⟨⟨⟨trivial,o287,trivial⟩,trivial,trivial⟩,trivial,⟨⟨trivial,o351,trivial⟩,trivial,trivial⟩⟩⟩,trivial,⟨⟨⟨⟨trivial,o271,trivial⟩,o143,⟨trivial,o399,trivial⟩⟩,trivial,⟨⟨trivial,o335,trivial⟩,o207,trivial⟩⟩,trivial,⟨⟨⟨trivial,o303,trivial⟩,o175,trivial⟩,o111,⟨trivial,o239,trivial⟩⟩⟩⟩,trivial,⟨⟨⟨⟨⟨trivial,o263,trivial⟩,o135,⟨trivial,o391,trivial⟩⟩,o71,⟨⟨trivial,o327,trivial⟩,trivial,trivial⟩⟩,o39,⟨⟨⟨trivial,o295,trivial⟩,o167,trivial⟩,trivial,⟨⟨trivial,o359,trivial⟩,trivial,trivial⟩⟩⟩,trivial,⟨⟨⟨⟨trivial,o279,trivial⟩,trivial,⟨trivial,o407,trivial⟩⟩,trivial,⟨⟨trivial,o343,trivial⟩,trivial,trivial⟩⟩,trivial,⟨⟨⟨trivial,o311,trivial⟩,o183,trivial⟩,trivial,⟨trivial,o247,trivial⟩⟩⟩⟩⟩,trivial,⟨⟨⟨⟨⟨⟨trivial,o259,trivial⟩,trivial,⟨trivial,o387,trivial⟩⟩,o67,trivial⟩,trivial,⟨⟨⟨trivial,o291,trivial⟩,o163,trivial⟩,trivial,⟨⟨trivial,o355,trivial⟩,trivial,trivial⟩⟩⟩,trivial,⟨⟨⟨⟨trivial,o275,trivial⟩,trivial,⟨trivial,o403,trivial⟩⟩,trivial,⟨⟨trivial,o339,trivial⟩,trivial,trivial⟩⟩,o51,⟨⟨⟨trivial,o307,trivial⟩,o179,trivial⟩,trivial,⟨trivial,o243,trivial⟩⟩⟩⟩,trivial,⟨⟨⟨⟨⟨trivial,o267,trivial⟩,o139,⟨trivial,o395,trivial⟩⟩,o75,⟨⟨trivial,o331,trivial⟩,o203,trivial⟩⟩,trivial,⟨⟨trivial,o171,trivial⟩,trivial,trivial⟩⟩,trivial,⟨⟨⟨⟨trivial,o283,trivial⟩,trivial,trivial⟩,trivial,⟨⟨trivial,o347,trivial⟩,trivial,trivial⟩⟩,o59,⟨⟨trivial,o187,trivial⟩,o123,⟨trivial,o251,trivial⟩⟩⟩⟩⟩⟩,trivial,⟨⟨⟨⟨⟨⟨⟨trivial,o257,trivial⟩,trivial,⟨trivial,o385,trivial⟩⟩,trivial,trivial⟩,trivial,⟨⟨⟨trivial,o289,trivial⟩,o161,trivial⟩,trivial,trivial⟩⟩,trivial,⟨⟨⟨⟨trivial,o273,trivial⟩,trivial,⟨trivial,o401,trivial⟩⟩,trivial,⟨⟨trivial,o337,trivial⟩,trivial,trivial⟩⟩,o49,⟨⟨⟨trivial,o305,trivial⟩,o177,trivial⟩,o113,⟨trivial,o241,trivial⟩⟩⟩⟩,trivial,⟨⟨⟨⟨⟨trivial,o265,trivial⟩,o137,⟨trivial,o393,trivial⟩⟩,o73,⟨⟨trivial,o329,trivial⟩,o201,trivial⟩⟩,trivial,⟨⟨⟨trivial,o297,trivial⟩,o169,trivial⟩,trivial,trivial⟩⟩,trivial,⟨⟨⟨⟨trivial,o281,trivial⟩,trivial,⟨trivial,o409,trivial⟩⟩,trivial,⟨⟨trivial,o345,trivial⟩,trivial,trivial⟩⟩,o57,⟨⟨⟨trivial,o313,trivial⟩,o185,trivial⟩,trivial,⟨trivial,o249,trivial⟩⟩⟩⟩⟩,trivial,⟨⟨⟨⟨⟨⟨trivial,o261,trivial⟩,o133,⟨trivial,o389,trivial⟩⟩,trivial,⟨⟨trivial,o325,trivial⟩,trivial,trivial⟩⟩,trivial,⟨⟨⟨trivial,o293,trivial⟩,o165,trivial⟩,trivial,trivial⟩⟩,o21,⟨⟨⟨⟨trivial,o277,trivial⟩,trivial,⟨trivial,o405,trivial⟩⟩,o85,⟨⟨trivial,o341,trivial⟩,trivial,trivial⟩⟩,trivial,⟨⟨⟨trivial,o309,trivial⟩,o181,trivial⟩,o117,⟨trivial,o245,trivial⟩⟩⟩⟩,o13,⟨⟨⟨⟨⟨trivial,o269,trivial⟩,trivial,⟨trivial,o397,trivial⟩⟩,o77,⟨trivial,o205,trivial⟩⟩,trivial,⟨⟨trivial,o173,trivial⟩,o109,⟨⟨trivial,o365,trivial⟩,trivial,trivial⟩⟩⟩,o29,⟨⟨⟨⟨trivial,o285,trivial⟩,o157,⟨trivial,o413,trivial⟩⟩,o93,⟨⟨trivial,o349,trivial⟩,trivial,trivial⟩⟩,o61,⟨trivial,o125,⟨trivial,o253,trivial⟩⟩⟩⟩⟩⟩⟩,trivial,⟨⟨⟨⟨⟨⟨⟨⟨trivial,o256,trivial⟩,o128,trivial⟩,trivial,trivial⟩,trivial,⟨⟨⟨trivial,o288,trivial⟩,o160,trivial⟩,trivial,trivial⟩⟩,trivial,⟨⟨⟨⟨trivial,o272,trivial⟩,o144,⟨trivial,o400,trivial⟩⟩,trivial,⟨⟨trivial,o336,trivial⟩,o208,trivial⟩⟩,trivial,⟨⟨⟨trivial,o304,trivial⟩,o176,trivial⟩,o112,⟨trivial,o240,trivial⟩⟩⟩⟩,trivial,⟨⟨⟨⟨⟨trivial,o264,trivial⟩,trivial,⟨trivial,o392,trivial⟩⟩,o72,⟨⟨trivial,o328,trivial⟩,o200,trivial⟩⟩,trivial,⟨⟨⟨trivial,o296,trivial⟩,o168,trivial⟩,trivial,trivial⟩⟩,trivial,⟨⟨⟨⟨trivial,o280,trivial⟩,trivial,⟨trivial,o408,trivial⟩⟩,trivial,⟨⟨trivial,o344,trivial⟩,trivial,trivial⟩⟩,o56,⟨⟨⟨trivial,o312,trivial⟩,o184,trivial⟩,trivial,⟨trivial,o248,trivial⟩⟩⟩⟩⟩,trivial,⟨⟨⟨⟨⟨⟨trivial,o260,trivial⟩,trivial,⟨trivial,o388,trivial⟩⟩,o68,trivial⟩,trivial,⟨⟨⟨trivial,o292,trivial⟩,o164,trivial⟩,o100,⟨⟨trivial,o356,trivial⟩,trivial,trivial⟩⟩⟩,trivial,⟨⟨⟨⟨trivial,o276,trivial⟩,trivial,⟨trivial,o404,trivial⟩⟩,trivial,⟨⟨trivial,o340,trivial⟩,trivial,trivial⟩⟩,trivial,⟨⟨⟨trivial,o308,trivial⟩,o180,trivial⟩,o116,⟨trivial,o244,trivial⟩⟩⟩⟩,trivial,⟨⟨⟨⟨⟨trivial,o268,trivial⟩,trivial,⟨trivial,o396,trivial⟩⟩,o76,⟨⟨trivial,o332,trivial⟩,o204,trivial⟩⟩,o44,⟨⟨trivial,o172,trivial⟩,trivial,trivial⟩⟩,trivial,⟨⟨⟨⟨trivial,o284,trivial⟩,trivial,⟨trivial,o412,trivial⟩⟩,trivial,⟨⟨trivial,o348,trivial⟩,trivial,trivial⟩⟩,o60,⟨⟨trivial,o188,trivial⟩,o124,⟨trivial,o252,trivial⟩⟩⟩⟩⟩⟩,trivial,⟨⟨⟨⟨⟨⟨⟨trivial,o258,trivial⟩,trivial,⟨trivial,o386,trivial⟩⟩,trivial,trivial⟩,trivial,⟨⟨⟨trivial,o290,trivial⟩,o162,trivial⟩,trivial,⟨⟨trivial,o354,trivial⟩,trivial,trivial⟩⟩⟩,o18,⟨⟨⟨⟨trivial,o274,trivial⟩,trivial,⟨trivial,o402,trivial⟩⟩,trivial,⟨⟨trivial,o338,trivial⟩,trivial,trivial⟩⟩,o50,⟨⟨⟨trivial,o306,trivial⟩,o178,trivial⟩,o114,⟨trivial,o242,trivial⟩⟩⟩⟩,trivial,⟨⟨⟨⟨⟨trivial,o266,trivial⟩,o138,trivial⟩,o74,⟨⟨trivial,o330,trivial⟩,o202,trivial⟩⟩,trivial,⟨⟨⟨trivial,o298,trivial⟩,o170,trivial⟩,trivial,⟨⟨trivial,o362,trivial⟩,trivial,trivial⟩⟩⟩,trivial,⟨⟨⟨⟨trivial,o282,trivial⟩,trivial,⟨trivial,o410,trivial⟩⟩,trivial,⟨⟨trivial,o346,trivial⟩,trivial,trivial⟩⟩,o58,⟨⟨⟨trivial,o314,trivial⟩,o186,trivial⟩,o122,⟨trivial,o250,trivial⟩⟩⟩⟩⟩,trivial,⟨⟨⟨⟨⟨⟨trivial,o262,trivial⟩,o134,⟨trivial,o390,trivial⟩⟩,trivial,⟨⟨trivial,o326,trivial⟩,trivial,trivial⟩⟩,trivial,⟨⟨⟨trivial,o294,trivial⟩,o166,trivial⟩,trivial,⟨⟨trivial,o358,trivial⟩,trivial,trivial⟩⟩⟩,o22,⟨⟨⟨⟨trivial,o278,trivial⟩,trivial,trivial⟩,trivial,⟨⟨trivial,o342,trivial⟩,trivial,trivial⟩⟩,trivial,⟨⟨⟨trivial,o310,trivial⟩,o182,trivial⟩,trivial,⟨trivial,o246,trivial⟩⟩⟩⟩,o14,⟨⟨⟨⟨⟨trivial,o270,trivial⟩,trivial,⟨trivial,o398,trivial⟩⟩,o78,⟨⟨trivial,o334,trivial⟩,o206,trivial⟩⟩,o46,⟨⟨⟨trivial,o302,trivial⟩,o174,trivial⟩,o110,⟨⟨trivial,o366,trivial⟩,o238,trivial⟩⟩⟩,trivial,⟨⟨⟨⟨trivial,o286,trivial⟩,o158,trivial⟩,o94,⟨⟨trivial,o350,trivial⟩,o222,trivial⟩⟩,trivial,⟨trivial,o126,⟨⟨trivial,o382,trivial⟩,o254,trivial⟩⟩⟩⟩⟩⟩⟩⟩
theorem fok:FnOk Tryz.prog FNt:=fok_of fall
end Go.Af.Tryz.W
namespace Go.Af.Tryz.W
open Go Go.Proofs
set_option maxRecDepth 100000
theorem works_run:(evN FNt EE 100).call 0 13 [] .e 0 (fun v _ _=>match v with | .bool b=>b | _=>false)=true:=by kernel_rfl
end Go.Af.Tryz.W
namespace Go.Af.Tryz.W
open Go Go.Proofs
theorem works:qo Tryz.prog 13 [] [] (fun v H=>v = .bool true/\H = []) :=
 qQ ((run_ok fok eok mx works_run).mono fun v H h=>by
  split at h
  ·rename_i b;subst h
   exact⟨[], .bool true,[],by simp,qm rfl,trivial,rfl,VRen.plain rfl,rfl,rfl⟩
  ·cases h)
theorem worksX (H:List Blk) {R:Value->List Blk->Prop} (h:R (.bool true) H):qA Tryz.prog 13 [] H R :=
 vS works [] rfl .nil trivial rfl h
end Go.Af.Tryz.W
