/-
  Calls that are computed once and for all: distances on the ring of the examples.
  Calls that are computed once and for all: what processes hold in the end, in the tasks of the examples.
  Calls that are computed once and for all: what the tasks of the examples ask for.
-/
import Derived.Test.YtgdbclgcbbbenaaGreatMPC
import Derived.Test.YtgdbclgcbbbenaaGreatMF
import Derived.Test.YtgdbclgcbbbenaaGreatMB
import Derived.Test.YtgdbclgcbbbenaaGreatProg
import Derived.KernelRfl
set_option linter.all false
noncomputable section
namespace Go.Af.Tryz.W
open Go Go.Proofs
set_option maxRecDepth 100000
abbrev T:TT:=Go.Af.Tryz.T
theorem tok:TOk Tryz.prog T:=Go.Af.Tryz.tok
theorem mx:Tryz.prog.follows .mixedOrders=true:=by kernel_rfl
def Ms : List (String × List (Nat × Nat)) := [("armada/net.homes", [(252, 382), (271, 391), (273, 403)]), ("armada/net.near", [(252, 383), (271, 392), (273, 404)]), ("armada/net.sides", [(252, 385), (271, 395), (273, 407)]), ("armada/net.switches", [(252, 386), (271, 396), (273, 408)])]
theorem em0 (v : Value) (w : World) : (method (Tryz.prog.types.size + Made.depth) 252 v "armada/net.homes").run Tryz.prog w = .ok (382, v) w := by kernel_rfl
theorem em1 (v : Value) (w : World) : (method (Tryz.prog.types.size + Made.depth) 271 v "armada/net.homes").run Tryz.prog w = .ok (391, v) w := by kernel_rfl
theorem em2 (v : Value) (w : World) : (method (Tryz.prog.types.size + Made.depth) 273 v "armada/net.homes").run Tryz.prog w = .ok (403, v) w := by kernel_rfl
theorem em3 (v : Value) (w : World) : (method (Tryz.prog.types.size + Made.depth) 252 v "armada/net.near").run Tryz.prog w = .ok (383, v) w := by kernel_rfl
theorem em4 (v : Value) (w : World) : (method (Tryz.prog.types.size + Made.depth) 271 v "armada/net.near").run Tryz.prog w = .ok (392, v) w := by kernel_rfl
theorem em5 (v : Value) (w : World) : (method (Tryz.prog.types.size + Made.depth) 273 v "armada/net.near").run Tryz.prog w = .ok (404, v) w := by kernel_rfl
theorem em6 (v : Value) (w : World) : (method (Tryz.prog.types.size + Made.depth) 252 v "armada/net.sides").run Tryz.prog w = .ok (385, v) w := by kernel_rfl
theorem em7 (v : Value) (w : World) : (method (Tryz.prog.types.size + Made.depth) 271 v "armada/net.sides").run Tryz.prog w = .ok (395, v) w := by kernel_rfl
theorem em8 (v : Value) (w : World) : (method (Tryz.prog.types.size + Made.depth) 273 v "armada/net.sides").run Tryz.prog w = .ok (407, v) w := by kernel_rfl
theorem em9 (v : Value) (w : World) : (method (Tryz.prog.types.size + Made.depth) 252 v "armada/net.switches").run Tryz.prog w = .ok (386, v) w := by kernel_rfl
theorem em10 (v : Value) (w : World) : (method (Tryz.prog.types.size + Made.depth) 271 v "armada/net.switches").run Tryz.prog w = .ok (396, v) w := by kernel_rfl
theorem em11 (v : Value) (w : World) : (method (Tryz.prog.types.size + Made.depth) 273 v "armada/net.switches").run Tryz.prog w = .ok (408, v) w := by kernel_rfl
theorem aggEq38:AggEq Tryz.prog 38 [.i64, .i64, .i64, .i64, .i64]:=aggEq_struct (by kernel_rfl) (by kernel_rfl) (by kernel_rfl) (xB (by kernel_rfl))
theorem aggEq77:AggEq Tryz.prog 77 [.i64, .i64]:=aggEq_arr (n:=2) (e:=3) (k := .i64) (by kernel_rfl) (i:=(Tryz.prog.info? 3).getD default) (by kernel_rfl) (by kernel_rfl) (by kernel_rfl) (PK.of_ofB (by kernel_rfl))
theorem mkey77:MKey Tryz.prog 77 [.i64, .i64]:=mkey_arr (n:=2) (e:=3) (k := .i64) (by kernel_rfl) (i:=(Tryz.prog.info? 3).getD default) (by kernel_rfl) (by kernel_rfl) (by kernel_rfl) (PK.of_ofB (by kernel_rfl))
theorem aggEq120:AggEq Tryz.prog 120 [.i64, .i64, .i64, .i64]:=aggEq_arr (n:=4) (e:=3) (k := .i64) (by kernel_rfl) (i:=(Tryz.prog.info? 3).getD default) (by kernel_rfl) (by kernel_rfl) (by kernel_rfl) (PK.of_ofB (by kernel_rfl))
theorem mkey140:MKey Tryz.prog 140 [.i64, .i64]:=xu (by kernel_rfl) (by kernel_rfl) (by kernel_rfl) (xB (by kernel_rfl))
theorem mkey145:MKey Tryz.prog 145 [.i64, .i64]:=xu (by kernel_rfl) (by kernel_rfl) (by kernel_rfl) (xB (by kernel_rfl))
def EE:Env := { T:=T,eqs := [(38,[.i64, .i64, .i64, .i64, .i64]),(77,[.i64, .i64]),(120,[.i64, .i64, .i64, .i64])],mks := [(77,[.i64, .i64]),(140,[.i64, .i64]),(145,[.i64, .i64])],ms:=Ms,ors := [(53,orc53)] }
theorem eok:EOk Tryz.prog EE:=by
 refine⟨tok,fun t ks h=>(by
  simp only[EE,List.mem_cons,List.not_mem_nil,or_false,Prod.mk.injEq] at h
  rcases h with ⟨rfl,rfl⟩ | ⟨rfl,rfl⟩ | ⟨rfl,rfl⟩
  ·exact aggEq38
  ·exact aggEq77
  ·exact aggEq120),fun t ks h=>(by
  simp only[EE,List.mem_cons,List.not_mem_nil,or_false,Prod.mk.injEq] at h
  rcases h with ⟨rfl,rfl⟩ | ⟨rfl,rfl⟩ | ⟨rfl,rfl⟩
  ·exact mkey77
  ·exact mkey140
  ·exact mkey145),fun name m h t f hm v w=>?_,fun f v h=>(by
  simp only[EE,List.mem_cons,List.not_mem_nil,or_false,Prod.mk.injEq] at h
  rcases h with ⟨rfl,rfl⟩
  ·exact orc53_ok)⟩
 simp only[EE,Ms,List.mem_cons,List.not_mem_nil,or_false] at h
 rcases h with h | h | h | h
 ·cases h
  simp only[List.mem_cons,List.not_mem_nil,or_false] at hm
  rcases hm with hm | hm | hm
  ·cases hm;exact em0 v w
  ·cases hm;exact em1 v w
  ·cases hm;exact em2 v w
 ·cases h
  simp only[List.mem_cons,List.not_mem_nil,or_false] at hm
  rcases hm with hm | hm | hm
  ·cases hm;exact em3 v w
  ·cases hm;exact em4 v w
  ·cases hm;exact em5 v w
 ·cases h
  simp only[List.mem_cons,List.not_mem_nil,or_false] at hm
  rcases hm with hm | hm | hm
  ·cases hm;exact em6 v w
  ·cases hm;exact em7 v w
  ·cases hm;exact em8 v w
 ·cases h
  simp only[List.mem_cons,List.not_mem_nil,or_false] at hm
  rcases hm with hm | hm | hm
  ·cases hm;exact em9 v w
  ·cases hm;exact em10 v w
  ·cases hm;exact em11 v w
def i11:FI:=fiOf Tryz.f11 [(29, .ord [0,0,3,7,15,31,31,127,255,511,1023,2047,2047,8191,16383,32767,65535,131071,262143,524287,1048575,2097151,4194303,8388607,16777215,33554431,67108863,134217727,268435455,536870911,1073741823,2147483647,4294967295,8589934591,17179869183,34359738367,68719476735,137438953471,274877906943,549755813887,1099511627775,2199023255551,4398046511103,8796093022207,17592186044415] [true,false,false,false,false,true,false,false,false,false,false,true,false,false,false,false,false,false,false,false,false,false,false,false,false,false,false,false,false,false,false,false,false,false,false,false,false,false,false,false,false,false,false,false,false] [1,0,2,3,4,6,5,7,8,9,10,12,11,13,14,15,16,17,18,19,20,21,22,23,24,25,26,27,28,29,30,31,32,33,34,35,36,37,38,39,40,41,42,43,44])]
def i13:FI:=fiOf Tryz.f13 [(2, .tree [0,0,3,7,15,15,0,95,255] [true,false,false,false,false,false,true,false,false] (.first 1 (.alt 0 (.alt 2 (.first 3 (.first 4 (.first 5 (.first 6 (.first 7 (.first 8 .done)))))) (.alt 6 (.first 2 (.first 3 (.first 4 (.first 5 (.first 7 (.first 8 .done)))))) .no)) (.alt 6 (.first 0 (.first 2 (.first 3 (.first 4 (.first 5 (.first 7 (.first 8 .done))))))) .no))))]
def i14:FI:=fiOf Tryz.f14 []
def i18:FI:=fiOf Tryz.f18 [(11, .ord [0,0,2,6,15,31,63,127,63,511,1023,2047,63,4159,63,28735,61503,127039,262143,524287] [false,false,false,false,false,false,false,false,true,false,false,false,true,true,true,true,true,true,false,false] [0,1,2,3,4,5,6,7,8,9,10,11,12,13,14,15,16,17,18,19]),(13, .ord [0,0,2,0,14,30,62,0,0,0,512,0,0,7680,16128,32640,65535,131071] [false,false,false,true,false,false,false,true,true,true,true,true,true,true,true,true,false,false] [0,1,2,3,4,5,6,7,8,9,10,11,12,13,14,15,16,17])]
def i21:FI:=fiOf Tryz.f21 [(14, .ord [0,1,3,7,15,31,63,127,255,511,1023,2047,4095,8191,4095,20479,65535,131071,4095,524287,1048575,2097151,4194303,8388607] [false,false,false,false,false,false,false,false,false,false,false,false,false,false,true,true,false,false,true,false,false,false,false,false] [0,1,2,3,4,5,6,7,8,9,10,11,12,13,14,15,16,17,18,19,20,21,22,23]),(16, .ord [0,1,3,7,15,7,39,127,255,511,7,1031,4095,8191] [false,false,false,false,false,true,true,false,false,false,true,true,false,false] [0,1,2,3,4,5,6,7,8,9,10,11,12,13]),(24, .tree [0,1,0,4,0,16,0,64,0,256,0,1024,783,8191] [false,false,true,true,true,true,true,true,true,true,true,true,false,false] (.first 0 (.first 1 (.first 2 (.first 3 (.first 4 (.first 6 (.first 8 (.first 9 (.first 10 (.alt 5 (.alt 7 (.alt 11 (.first 12 (.first 13 .done)) (.alt 12 (.first 11 (.first 13 .done)) .no)) (.alt 11 (.alt 7 (.first 12 (.first 13 .done)) (.alt 12 (.first 7 (.first 13 .done)) .no)) (.alt 12 (.first 7 (.first 11 (.first 13 .done))) .no))) (.alt 7 (.alt 5 (.alt 11 (.first 12 (.first 13 .done)) (.alt 12 (.first 11 (.first 13 .done)) .no)) (.alt 11 (.alt 5 (.first 12 (.first 13 .done)) (.alt 12 (.first 5 (.first 13 .done)) .no)) (.alt 12 (.first 5 (.first 11 (.first 13 .done))) .no))) (.alt 11 (.alt 5 (.alt 7 (.first 12 (.first 13 .done)) (.alt 12 (.first 7 (.first 13 .done)) .no)) (.alt 7 (.alt 5 (.first 12 (.first 13 .done)) (.alt 12 (.first 5 (.first 13 .done)) .no)) (.alt 12 (.first 5 (.first 7 (.first 13 .done))) .no))) (.alt 12 (.first 5 (.first 7 (.first 11 (.first 13 .done)))) .no))))))))))))))]
def i22:FI:=fiOf Tryz.f22 []
def i24:FI:=fiOf Tryz.f24 []
def i27:FI:=fiOf Tryz.f27 [(4, .ord [0,0,0,4,0,31,63,127,127,255,1023] [false,true,true,true,true,false,false,false,false,false,false] [0,1,2,4,3,5,6,7,8,9,10])]
def i29:FI:=fiOf Tryz.f29 [(5, .tree [0,0,3,0,15,31,0,127] [false,true,true,true,false,false,true,false] (.first 0 (.first 1 (.first 3 (.alt 2 (.alt 4 (.first 5 (.first 6 (.first 7 .done))) (.alt 6 (.first 4 (.first 5 (.first 7 .done))) .no)) (.alt 6 (.first 2 (.first 4 (.first 5 (.first 7 .done)))) .no)))))),(28, .tree [0,0,1,7,15] [false,false,false,false,false] (.first 0 (.alt 1 (.first 2 (.first 3 (.first 4 .done))) (.alt 2 (.first 1 (.first 3 (.first 4 .done))) .no)))),(29, .tree [0,0,2,0,8,30,63,0,0,256,896,895,2943,8191,16383] [false,false,false,true,true,true,true,true,true,true,true,false,false,false,false] (.first 0 (.first 1 (.first 2 (.first 3 (.first 8 (.first 9 (.alt 4 (.first 5 (.first 6 (.first 11 (.alt 7 (.first 10 (.first 12 (.first 13 (.first 14 .done)))) (.alt 12 (.first 7 (.first 10 (.first 13 (.first 14 .done)))) .no))))) (.alt 7 (.first 10 (.first 4 (.first 5 (.first 6 (.first 11 (.first 12 (.first 13 (.first 14 .done)))))))) .no))))))))),(30, .ord [0,1,0,7,15,31,63] [false,true,true,false,false,false,false] [0,2,1,3,4,5,6])]
def i31:FI:=fiOf Tryz.f31 []
def i33:FI:=fiOf Tryz.f33 [(8, .ord [0,1,0,0,12,28,60,127] [false,false,true,true,true,true,true,false] [0,1,2,3,4,5,6,7]),(12, .tree [0,0,0,6,14,31,63,127,127,0,767,2047] [false,true,true,true,true,false,false,false,false,true,false,false] (.first 0 (.first 1 (.first 2 (.first 3 (.first 4 (.alt 5 (.first 6 (.first 7 (.first 8 (.first 9 (.first 10 (.first 11 .done)))))) (.alt 9 (.first 5 (.first 6 (.first 7 (.first 8 (.first 10 (.first 11 .done)))))) .no)))))))),(16, .ord [0,1,0,4,0,0,48,112,0,511,0,1023,4095] [false,false,true,true,true,true,true,true,true,false,true,false,false] [0,1,2,3,4,5,6,7,8,9,10,11,12])]
def i36:FI:=fiOf Tryz.f36 [(6, .ord [0,0,3,7,0,0,48,112,255] [false,false,false,false,true,true,true,true,false] [0,1,2,3,4,5,6,7,8])]
def i37:FI:=fiOf Tryz.f37 [(11, .ord [0,0,0,0,8,28,62,126,0,256,1022,0,0,4096,14336,32766,65534,131071,262143] [false,false,false,false,false,false,false,false,true,true,false,true,true,true,true,false,false,false,false] [0,1,2,3,4,5,6,7,8,9,10,11,12,13,14,15,16,17,18])]
def i39:FI:=fiOf Tryz.f39 []
def i41:FI:=fiOf Tryz.f41 [(10, .tree [0,1,3,7,0,16,48,112,0,0,783,2047] [false,false,false,false,true,true,true,true,true,true,false,false] (.first 0 (.first 1 (.first 2 (.first 3 (.first 4 (.first 5 (.first 6 (.alt 7 (.alt 8 (.first 9 (.first 10 (.first 11 .done))) (.alt 9 (.first 8 (.first 10 (.first 11 .done))) .no)) (.alt 8 (.alt 7 (.first 9 (.first 10 (.first 11 .done))) (.alt 9 (.alt 7 (.first 10 (.first 11 .done)) (.alt 10 (.first 7 (.first 11 .done)) .no)) .no)) (.alt 9 (.alt 7 (.first 8 (.first 10 (.first 11 .done))) (.alt 8 (.alt 7 (.first 10 (.first 11 .done)) (.alt 10 (.first 7 (.first 11 .done)) .no)) .no)) .no))))))))))),(17, .ord [0,1,0,4,15,31,63,127,255,127,639,1663,4095,8191,16383,32767,65535,131071,32767,524287,1048575] [false,true,true,true,false,false,false,false,false,true,true,true,false,false,false,false,false,false,true,false,false] [0,2,3,1,4,5,6,7,8,9,10,11,12,13,14,15,16,17,18,19,20]),(19, .tree [0,0,0,4,12,0,32,124,254,0,0,1024,3072,7680,0,16384,49248,131071,0,524287] [false,false,false,false,false,true,true,true,true,true,true,true,true,true,true,true,true,false,true,false] (.first 0 (.first 1 (.first 2 (.first 3 (.first 4 (.first 5 (.first 9 (.first 10 (.first 11 (.first 12 (.first 13 (.first 14 (.first 15 (.alt 6 (.first 7 (.first 8 (.alt 16 (.first 17 (.first 18 (.first 19 .done))) (.alt 18 (.first 16 (.first 17 (.first 19 .done))) .no)))) (.alt 18 (.first 6 (.first 7 (.first 8 (.first 16 (.first 17 (.first 19 .done)))))) .no)))))))))))))))),(26, .ord [0,1,3,0,8,24,0,120,248,511] [false,false,false,true,true,true,true,true,true,false] [0,1,2,3,4,6,5,7,8,9])]
def i44:FI:=fiOf Tryz.f44 [(6, .ord [0,0,2,7,15] [true,false,false,false,false] [1,2,0,3,4])] 2
def i46:FI:=fiOf Tryz.f46 []
def i49:FI:=fiOf Tryz.f49 [(2, .tree [0,0,3,7,15,15,0,95,255] [true,false,false,false,false,false,true,false,false] (.first 1 (.alt 0 (.alt 2 (.first 3 (.first 4 (.first 5 (.first 6 (.first 7 (.first 8 .done)))))) (.alt 6 (.first 2 (.first 3 (.first 4 (.first 5 (.first 7 (.first 8 .done)))))) .no)) (.alt 6 (.first 0 (.first 2 (.first 3 (.first 4 (.first 5 (.first 7 (.first 8 .done))))))) .no))))]
def i50:FI:=fiOf Tryz.f50 []
def i51:FI:=fiOf Tryz.f51 [(1, .ord [0,1,0,4,0,16,0,64,0,0,512,1792,4095,8191] [false,false,true,true,true,true,true,true,true,true,true,true,false,false] [0,1,2,3,4,5,6,7,8,9,10,11,12,13])]
def i56:FI:=fiOf Tryz.f56 [(4, .ord [0,1,0,7,0,16,63,15,255,511] [false,true,false,true,false,false,false,true,false,false] [0,2,4,5,1,3,6,7,8,9])]
def i57:FI:=fiOf Tryz.f57 []
def i58:FI:=fiOf Tryz.f58 [(4, .ord [0,1,0,4,15,31,63] [false,true,true,true,false,false,false] [0,2,3,1,4,5,6])]
def i59:FI:=fiOf Tryz.f59 []
def i60:FI:=fiOf Tryz.f60 [(1, .ord [0,1,0,4,15,0,32,0,128,480,0,1024,0,4096,15360,0,32768,0,131072,491520,0,1048576,0,4194304,16744448,33554431,67108863,134217727] [false,false,true,true,false,true,true,true,true,true,true,true,true,true,true,true,true,true,true,true,true,true,true,true,true,false,false,false] [0,1,2,3,4,5,6,7,8,9,10,11,12,13,14,15,16,17,18,20,21,22,23,19,24,25,26,27])]
def i61:FI:=fiOf Tryz.f61 []
def i62:FI:=fiOf Tryz.f62 []
def i63:FI:=fiOf Tryz.f63 [(2, .tree [0,0,2,6,15,31,63,63,0,383,1023] [false,true,true,true,false,false,false,false,true,false,false] (.first 0 (.first 1 (.first 2 (.first 3 (.alt 4 (.first 5 (.first 6 (.first 7 (.first 8 (.first 9 (.first 10 .done)))))) (.alt 8 (.first 4 (.first 5 (.first 6 (.first 7 (.first 9 (.first 10 .done)))))) .no)))))))]
def i64:FI:=fiOf Tryz.f64 []
def i67:FI:=fiOf Tryz.f67 []
def i68:FI:=fiOf Tryz.f68 [(4, .ord [0,0,2,6,14,30,62,30,158,510,1022,31,4095] [false,false,false,false,false,false,false,true,true,false,false,true,false] [0,1,2,3,4,5,6,7,8,9,10,11,12]),(6, .ord [0,0,3,0,8,24,63,127,255,127,639,2047,4095,127,16383] [false,false,true,false,false,false,false,false,false,true,true,false,false,true,false] [0,1,3,4,5,2,6,7,8,9,10,11,12,13,14])]
def i71:FI:=fiOf Tryz.f71 []
def i72:FI:=fiOf Tryz.f72 [(6, .ord [0,1,3,0,0,16,56,120,0,256,1016,2047,4095] [false,false,true,true,true,true,true,true,true,true,true,false,false] [0,1,3,4,5,6,7,8,9,10,2,11,12])]
def i73:FI:=fiOf Tryz.f73 [(1, .ord [0,1,0,0,12,0,0,124,255,511,1023,1023,2047,8191] [false,false,true,true,true,true,true,true,false,false,false,false,false,false] [0,1,2,3,5,6,4,7,8,9,10,11,12,13])]
def i74:FI:=fiOf Tryz.f74 []
def i75:FI:=fiOf Tryz.f75 []
def i76:FI:=fiOf Tryz.f76 []
def i77:FI:=fiOf Tryz.f77 []
def i78:FI:=fiOf Tryz.f78 []
def i85:FI:=fiOf Tryz.f85 [(6, .ord [0,1,3,7,0,16,48,127,127,383,1023,2047,4095,8191] [false,false,false,true,true,true,true,false,false,false,false,false,false,false] [0,1,2,4,5,6,3,8,9,7,10,11,12,13]),(9, .ord [0,0,2,7,0,31,0,127] [true,false,false,true,true,true,true,false] [1,2,4,6,0,3,5,7]),(17, .ord [0,1,0,0,8,0,32,0,0,256,0,1792,3840,0,8192,32764,65532,131071,262143,524287] [false,false,true,true,true,true,true,true,true,true,true,true,true,true,true,true,true,false,false,false] [0,1,2,3,4,5,6,7,8,9,10,11,12,13,14,15,16,17,18,19])]
def i88:FI:=fiOf Tryz.f88 []
def i91:FI:=fiOf Tryz.f91 []
def i93:FI:=fiOf Tryz.f93 []
def i94:FI:=fiOf Tryz.f94 []
def i100:FI:=fiOf Tryz.f100 [(1, .ord [0,1,0,7,15,0,32,96,255,511] [false,false,true,false,false,true,true,true,false,false] [0,1,2,3,4,5,6,7,8,9])]
def i109:FI:=fiOf Tryz.f109 [(15, .ord [0,1,3,7,15,31,63,127,255,511,1023,2047,4095,8191,16383,32767,65535,131071,262143,524287,1048575,2097151,4194303,524287,8912895,25690111,59244543,134217727,268435455,536870911,1073741823,2147483647,4294967295,2147483647,10737418239,27917287423,62277025791,137438953471,274877906943] [false,false,false,false,false,false,false,false,false,false,false,false,false,false,false,false,false,false,false,false,false,false,false,true,true,true,true,false,false,false,false,false,false,true,true,true,true,false,false] [0,1,2,3,4,5,6,7,8,9,10,11,12,13,14,15,16,17,18,19,20,21,22,23,24,25,26,27,28,29,30,31,32,33,34,35,36,37,38]),(16, .ord [0,1,3,7,0,16,48,112,255,511,1023,2047] [false,false,false,false,true,true,true,true,false,false,false,false] [0,1,2,3,4,5,6,7,8,9,10,11]),(18, .ord [0,1,3,7,15,31,63,127,255,511,1023,2047,4095,8191,16383,32767,65535,131071,262143,524287,1048575,2097151,4194303,8388607,16777215,33554431,4194303,71303167,205520895,473956351,4194303,1077936127,3225419775,7520387071,17116954623,34296823807,68719476735,137438953471,274877906943] [false,false,false,false,false,false,false,false,false,false,false,false,false,false,false,false,false,false,false,false,false,false,false,false,false,false,true,true,true,true,true,true,true,true,true,true,false,false,false] [0,1,2,3,4,5,6,7,8,9,10,11,12,13,14,15,16,17,18,19,20,21,22,23,24,25,26,27,28,29,30,31,32,33,34,35,36,37,38]),(19, .ord [0,1,3,7,0,16,48,112,255,511,1023,2047] [false,false,false,false,true,true,true,true,false,false,false,false] [0,1,2,3,4,5,6,7,8,9,10,11])]
def i110:FI:=fiOf Tryz.f110 []
def i112:FI:=fiOf Tryz.f112 []
def i113:FI:=fiOf Tryz.f113 []
def i114:FI:=fiOf Tryz.f114 []
def i115:FI:=fiOf Tryz.f115 []
def i116:FI:=fiOf Tryz.f116 []
def i117:FI:=fiOf Tryz.f117 []
def i122:FI:=fiOf Tryz.f122 []
def i123:FI:=fiOf Tryz.f123 [(2, .tree [0,1,3,0,8,0,32,120,7,511] [false,false,false,true,true,true,true,true,false,false] (.first 0 (.first 1 (.first 2 (.first 3 (.first 5 (.alt 4 (.alt 6 (.first 7 (.first 8 (.first 9 .done))) (.alt 8 (.first 6 (.first 7 (.first 9 .done))) .no)) (.alt 6 (.alt 4 (.first 7 (.first 8 (.first 9 .done))) (.alt 8 (.first 4 (.first 7 (.first 9 .done))) .no)) (.alt 8 (.first 4 (.first 6 (.first 7 (.first 9 .done)))) .no))))))))),(3, .tree [0,1,0,4,0,16,60,3,255] [false,false,true,true,true,true,true,false,false] (.first 0 (.first 1 (.first 2 (.first 4 (.alt 3 (.alt 5 (.first 6 (.first 7 (.first 8 .done))) (.alt 7 (.first 5 (.first 6 (.first 8 .done))) .no)) (.alt 5 (.alt 3 (.first 6 (.first 7 (.first 8 .done))) (.alt 7 (.first 3 (.first 6 (.first 8 .done))) .no)) (.alt 7 (.first 3 (.first 5 (.first 6 (.first 8 .done)))) .no))))))))]
def i124:FI:=fiOf Tryz.f124 []
def i125:FI:=fiOf Tryz.f125 []
def i126:FI:=fiOf Tryz.f126 [(1, .ord [0,1,3,0,8,24,0,64,248,7,1023] [false,false,false,true,true,true,true,true,true,true,false] [0,1,2,3,4,5,6,7,8,9,10])]
def i127:FI:=fiOf Tryz.f127 [(4, .ord [0,1,0,4,15,31] [false,false,true,true,false,false] [0,1,2,3,4,5])]
def i128:FI:=fiOf Tryz.f128 [(1, .ord [0,1,0,0,8,28,63,127,255,511,1023,511,511,4607,12799,31231,65535,131071,262143,524287,1048575] [false,false,true,true,true,true,false,false,false,false,false,true,true,true,true,true,false,false,false,false,false] [0,1,2,3,4,5,6,7,8,9,10,11,12,13,14,15,16,17,18,19,20])]
def i133:FI:=fiOf Tryz.f133 [(1, .ord [0,1,0,4,12,0,60,3,255] [false,false,true,true,true,true,true,true,false] [0,1,2,3,4,5,6,7,8])]
def i134:FI:=fiOf Tryz.f134 [(1, .ord [0,1,3,0,8,0,56,7,255] [false,false,false,true,true,true,true,true,false] [0,1,2,3,4,5,6,7,8])]
def i135:FI:=fiOf Tryz.f135 []
def i136:FI:=fiOf Tryz.f136 []
def i137:FI:=fiOf Tryz.f137 []
def i138:FI:=fiOf Tryz.f138 []
def i139:FI:=fiOf Tryz.f139 []
def i143:FI:=fiOf Tryz.f143 []
def i144:FI:=fiOf Tryz.f144 []
def i157:FI:=fiOf Tryz.f157 [(5, .ord [0,0,0,0,12,31,63] [false,true,true,true,true,false,false] [0,1,2,3,4,5,6])]
def i158:FI:=fiOf Tryz.f158 []
def i160:FI:=fiOf Tryz.f160 []
def i161:FI:=fiOf Tryz.f161 [(1, .ord [0,1,0,0,8,31,0,127,255,511,1023] [false,true,true,true,true,true,true,false,false,false,false] [0,2,3,4,6,1,5,7,8,9,10])]
def i162:FI:=fiOf Tryz.f162 [(1, .ord [0,0,3,7] [true,false,false,false] [1,0,2,3])]
def i163:FI:=fiOf Tryz.f163 []
def i166:FI:=fiOf Tryz.f166 [(1, .ord [0,0,3,7] [true,false,false,false] [1,0,2,3])]
def i167:FI:=fiOf Tryz.f167 [(1, .ord [0,1,0,7,15,31,63] [false,true,true,false,false,false,false] [0,2,1,3,4,5,6])]
def i168:FI:=fiOf Tryz.f168 [(23, .ord [0,0,0,6,0,0,0,96,254,0,1022,0,0,0,12288,32766,65534,131070,262143,524287] [false,false,false,true,false,false,false,false,true,false,false,true,true,true,true,false,false,false,false,false] [0,1,2,4,5,6,7,9,11,12,13,14,3,8,10,15,16,17,18,19])]
def i169:FI:=fiOf Tryz.f169 [(3, .ord [0,0,3,0,0,31,63,127,255] [false,false,true,true,true,false,false,false,false] [0,1,3,4,2,5,6,7,8])]
def i170:FI:=fiOf Tryz.f170 []
def i181:FI:=fiOf Tryz.f181 [(4, .ord [0,0,3,0,0,31,0,0,255,511,1023,2047] [false,false,true,false,false,false,true,true,false,false,false,false] [0,1,3,4,6,7,2,5,8,9,10,11])]
def i187:FI:=fiOf Tryz.f187 [(17, .ord [0,1,3,7,7,23,63,127,7,7,775,1799,4095,8191,16383] [false,false,false,false,false,false,false,false,true,true,true,true,false,false,false] [0,1,2,3,4,5,6,7,8,9,10,11,12,13,14])]
def i188:FI:=fiOf Tryz.f188 []
def i200:FI:=fiOf Tryz.f200 []
def i201:FI:=fiOf Tryz.f201 []
def i202:FI:=fiOf Tryz.f202 []
def i205:FI:=fiOf Tryz.f205 []
def i206:FI:=fiOf Tryz.f206 [(5, .ord [0,0,0,4,12,0,32,96,252,508,1023,2047] [false,true,true,true,true,true,true,true,true,true,false,false] [0,1,2,3,5,6,7,4,8,9,10,11]),(16, .ord [0,0,2,6,15,31,63,127,63,511,1023,2047,63,4159,63,28735,61503,127039,262143,524287] [false,false,false,false,false,false,false,false,true,false,false,false,true,true,true,true,true,true,false,false] [0,1,2,3,4,5,6,7,8,9,10,11,12,13,14,15,16,17,18,19]),(19, .ord [0,0,2,7,15,0,32,127,255,0,0,1024,3584,7680,0,16384,65024,130560,511,524287] [false,true,true,false,false,true,true,false,false,true,true,true,true,true,true,true,true,true,true,false] [0,1,2,3,4,5,6,7,8,9,10,11,12,13,14,15,16,17,18,19]),(33, .ord [0,0,2,7,15,0,32,0,255,511] [false,true,true,false,false,true,true,true,false,false] [0,1,2,3,4,5,6,7,8,9])]
def i207:FI:=fiOf Tryz.f207 []
def i208:FI:=fiOf Tryz.f208 [(4, .tree [0,0,2,7,0,0,0,64,255,0,1023,2047] [false,true,true,true,true,true,true,true,false,true,false,false] (.first 0 (.first 1 (.first 4 (.first 5 (.first 6 (.first 7 (.alt 2 (.alt 3 (.alt 8 (.first 9 (.first 10 (.first 11 .done))) (.alt 9 (.first 8 (.first 10 (.first 11 .done))) .no)) (.alt 9 (.first 3 (.first 8 (.first 10 (.first 11 .done)))) .no)) (.alt 9 (.first 2 (.first 3 (.first 8 (.first 10 (.first 11 .done))))) .no)))))))))]
def i215:FI:=fiOf Tryz.f215 []
def i216:FI:=fiOf Tryz.f216 [(11, .ord [0,0,0,0,12,28,60,127,255] [false,true,true,true,true,true,true,false,false] [0,1,2,3,4,5,6,7,8])]
def i217:FI:=fiOf Tryz.f217 []
def i222:FI:=fiOf Tryz.f222 [(17, .ord [0,1,3,7,7,7,39,119,247,7,7,1543,3591,8191,16383,32767,65535] [false,false,false,false,false,false,false,false,false,true,true,true,true,false,false,false,false] [0,1,2,3,4,5,6,7,8,9,10,11,12,13,14,15,16])]
def i238:FI:=fiOf Tryz.f238 []
def i239:FI:=fiOf Tryz.f239 []
def i240:FI:=fiOf Tryz.f240 []
def i241:FI:=fiOf Tryz.f241 []
def i242:FI:=fiOf Tryz.f242 []
def i243:FI:=fiOf Tryz.f243 []
def i244:FI:=fiOf Tryz.f244 []
def i245:FI:=fiOf Tryz.f245 [(5, .ord [0,0,0,6,0,0,0,96,254,0,1022,2046,4094,8191,16383] [false,false,true,true,true,true,true,true,true,true,false,false,false,false,false] [0,1,2,4,5,6,7,9,3,8,10,11,12,13,14])]
def i246:FI:=fiOf Tryz.f246 [(0, .ord [0,1,0,4,3,31] [false,false,true,true,true,false] [0,1,2,3,4,5]),(9, .tree [0,0,3,0,0,24,0,0,128,504,1016,0,4095,8191] [false,false,false,false,true,true,true,true,true,false,false,true,false,false] (.first 0 (.first 1 (.first 2 (.first 3 (.first 4 (.first 6 (.first 7 (.first 8 (.alt 5 (.alt 9 (.alt 10 (.first 11 (.first 12 (.first 13 .done))) (.alt 11 (.first 10 (.first 12 (.first 13 .done))) .no)) (.alt 11 (.first 9 (.first 10 (.first 12 (.first 13 .done)))) .no)) (.alt 11 (.first 5 (.first 9 (.first 10 (.first 12 (.first 13 .done))))) .no))))))))))),(11, .ord [0,0,2,0,14,31,0,0,128,448,0,0,4032,8128,16383,32767] [false,false,false,false,false,false,false,true,true,true,true,true,false,false,false,false] [0,1,2,3,4,5,6,7,8,10,11,9,12,13,14,15])]
def i248:FI:=fiOf Tryz.f248 []
def i250:FI:=fiOf Tryz.f250 []
def i251:FI:=fiOf Tryz.f251 [(1, .ord [0,0,2,7,0,16,63,0,128,511,1023] [false,false,false,false,true,true,false,true,true,false,false] [0,1,2,3,4,5,6,7,8,9,10])]
def i252:FI:=fiOf Tryz.f252 []
def i254:FI:=fiOf Tryz.f254 [(5, .ord [0,0,0,6,0,0,0,96,254,0,1022,2046,4094,8191,16383] [false,false,true,true,true,true,true,true,true,true,false,false,false,false,false] [0,1,2,4,5,6,7,9,3,8,10,11,12,13,14])]
def i255:FI:=fiOf Tryz.f255 []
def i256:FI:=fiOf Tryz.f256 []
def i257:FI:=fiOf Tryz.f257 []
def i258:FI:=fiOf Tryz.f258 []
def i259:FI:=fiOf Tryz.f259 [(1, .ord [0,0,0,4,14,0,0,0,0,384,990,2046,4095,8191] [false,false,true,true,true,true,true,true,true,true,true,false,false,false] [0,1,2,3,5,6,7,8,9,4,10,11,12,13])]
def i260:FI:=fiOf Tryz.f260 []
def i261:FI:=fiOf Tryz.f261 [(1, .ord [0,0,0,4,14,0,0,0,128,0,896,2014,4094,8191,16383] [false,false,true,true,true,true,true,true,true,true,true,true,false,false,false] [0,1,2,3,5,6,7,8,9,10,4,11,12,13,14])]
def i263:FI:=fiOf Tryz.f263 [(1, .ord [0,0,0,0,0,16,60,0,0,0,512,2044,0,8191,16383] [false,false,false,true,true,true,true,true,true,true,true,false,true,false,false] [0,1,2,3,4,5,7,8,9,10,12,6,11,13,14])]
def i266:FI:=fiOf Tryz.f266 []
def i275:FI:=fiOf Tryz.f275 [(8, .ord [0,0,0,0,0,0,0,112,0,0,768,2046,4094,8191,16383] [false,false,true,true,true,true,true,true,true,true,true,false,false,false,false] [0,1,2,3,4,5,6,8,9,10,7,11,12,13,14])]
def i276:FI:=fiOf Tryz.f276 []
def i277:FI:=fiOf Tryz.f277 []
def i278:FI:=fiOf Tryz.f278 []
def i279:FI:=fiOf Tryz.f279 [(1, .ord [0,0,0,0,12,30,63,127] [false,true,true,true,true,true,false,false] [0,1,2,3,4,5,6,7])]
def i288:FI:=fiOf Tryz.f288 [(4, .ord [0,0,3,7,15,15,63,127,15,15,527,1807,3855,8191,16383] [false,false,false,false,false,false,false,false,true,true,true,true,true,false,false] [0,1,2,3,4,5,6,7,8,9,10,11,12,13,14]),(6, .ord [0,0,0,0,8,0,0,64,224,480,0,0,3072,7168,16355,32739,65535,131071] [false,false,false,false,false,false,false,false,false,false,true,true,true,true,false,false,false,false] [0,1,2,3,4,5,6,7,8,9,10,11,12,13,14,15,16,17])]
def i294:FI:=fiOf Tryz.f294 []
def i297:FI:=fiOf Tryz.f297 []
def i298:FI:=fiOf Tryz.f298 []
def i304:FI:=fiOf Tryz.f304 [(13, .ord [0,0,2,7,15] [false,true,true,false,false] [0,1,2,3,4])]
def i305:FI:=fiOf Tryz.f305 []
def i306:FI:=fiOf Tryz.f306 []
def i307:FI:=fiOf Tryz.f307 []
def i308:FI:=fiOf Tryz.f308 [(3, .ord [0,0,0,0,12,30,62,127,255] [false,true,true,true,true,true,true,false,false] [0,1,2,3,4,5,6,7,8])]
def i309:FI:=fiOf Tryz.f309 []
def i310:FI:=fiOf Tryz.f310 []
def i311:FI:=fiOf Tryz.f311 [(1, .ord [0,1,0,0,12,28,63,127] [false,false,true,true,true,true,false,false] [0,1,2,3,4,5,6,7])]
def i312:FI:=fiOf Tryz.f312 []
def i313:FI:=fiOf Tryz.f313 [(1, .ord [0,0,2,7,0,0,0,64,224,496,1008,2047,4095] [false,false,false,false,true,true,true,true,true,true,true,false,false] [0,1,2,3,4,5,6,7,8,9,10,11,12])]
def i314:FI:=fiOf Tryz.f314 []
def i321:FI:=fiOf Tryz.f321 [(9, .ord [0,0,0,6,0,0,48,126,255,511] [false,false,false,false,false,false,false,false,false,false] [0,1,2,3,4,5,6,7,8,9])]
def i322:FI:=fiOf Tryz.f322 []
def i323:FI:=fiOf Tryz.f323 [(1, .ord [0,1,3,7,0,16,48,112,240,511] [false,false,false,false,true,true,true,true,true,false] [0,1,2,3,4,5,6,7,8,9]),(4, .ord [0,1,3,7,0,16,48,112,240,511,1023,2047,4095] [false,false,false,false,true,true,true,true,true,false,false,false,false] [0,1,2,3,4,5,6,7,8,9,10,11,12])]
def i325:FI:=fiOf Tryz.f325 [(4, .ord [0,0,3,7,15,15,15,111,239,15,15,1039,3599,7695,16383,32767,65535] [false,false,false,false,false,false,false,false,false,true,true,true,true,true,false,false,false] [0,1,2,3,4,5,6,7,8,9,10,11,12,13,14,15,16]),(6, .ord [0,0,0,0,8,0,0,64,224,480,0,0,3072,7168,16355,32739,65535,131071] [false,false,false,false,false,false,false,false,false,false,true,true,true,true,false,false,false,false] [0,1,2,3,4,5,6,7,8,9,10,11,12,13,14,15,16,17])]
def i327:FI:=fiOf Tryz.f327 [(10, .ord [0,0,0,0,0,24,0,0,0,384,960,1984,0,0,12288,28672,65475,131011,262143,524287] [false,false,false,false,false,false,false,false,false,false,false,false,true,true,true,true,false,false,false,false] [0,1,2,3,4,5,6,7,8,9,10,11,12,13,14,15,16,17,18,19])]
def i328:FI:=fiOf Tryz.f328 []
def i329:FI:=fiOf Tryz.f329 [(3, .ord [0,0,0,0,0,0,48,112,0,0,768,1792,4083,8179,16383,32767] [false,false,false,false,false,false,false,false,true,true,true,true,false,false,false,false] [0,1,2,3,4,5,6,7,8,9,10,11,12,13,14,15])]
def i330:FI:=fiOf Tryz.f330 [(5, .ord [0,0,3,7,15,15,15,111,239,15,15,1039,3599,7695,16383,32767,65535,131071] [false,false,false,false,false,false,false,false,false,true,true,true,true,true,false,false,false,false] [0,1,2,3,4,5,6,7,8,9,10,11,12,13,14,15,16,17]),(11, .ord [0,0,0,0,8,0,0,64,224,480,0,0,3072,7168,16355,32739,65535,131071] [false,false,false,false,false,false,false,false,false,false,true,true,true,true,false,false,false,false] [0,1,2,3,4,5,6,7,8,9,10,11,12,13,14,15,16,17]),(16, .ord [0,0,0,6,14,0,0,64,224,480,1023,2047,4095] [false,false,false,false,false,true,true,true,true,true,false,false,false] [0,1,2,3,4,5,6,7,8,9,10,11,12]),(17, .ord [0,0,0,0,8,0,0,64,224,480,0,0,3072,7168,16355,32739,65535,131071] [false,false,false,false,false,false,false,false,false,false,true,true,true,true,false,false,false,false] [0,1,2,3,4,5,6,7,8,9,10,11,12,13,14,15,16,17]),(22, .ord [0,0,0,6,14,0,0,64,224,480,1023,2047,4095] [false,false,false,false,false,true,true,true,true,true,false,false,false] [0,1,2,3,4,5,6,7,8,9,10,11,12]),(23, .ord [0,0,0,0,8,0,0,64,224,480,0,0,3072,7168,16355,32739,65535,131071] [false,false,false,false,false,false,false,false,false,false,true,true,true,true,false,false,false,false] [0,1,2,3,4,5,6,7,8,9,10,11,12,13,14,15,16,17])]
def i331:FI:=fiOf Tryz.f331 [(1, .ord [0,0,0,0,0,0,48,112,0,0,768,1792,4083,8179,16383,32767] [false,false,false,false,false,false,false,false,true,true,true,true,false,false,false,false] [0,1,2,3,4,5,6,7,8,9,10,11,12,13,14,15]),(3, .ord [0,0,3,7,15,15,15,111,239,15,15,1551,3599,8191,16383,32767,65535] [false,false,false,false,false,false,false,false,false,true,true,true,true,false,false,false,false] [0,1,2,3,4,5,6,7,8,9,10,11,12,13,14,15,16]),(5, .ord [0,0,3,7,15,15,15,111,239,15,15,1551,3599,8191,16383,32767] [false,false,false,false,false,false,false,false,false,true,true,true,true,false,false,false] [0,1,2,3,4,5,6,7,8,9,10,11,12,13,14,15]),(8, .ord [0,0,0,0,0,0,48,112,0,0,768,1792,4083,8179,16383,32767] [false,false,false,false,false,false,false,false,true,true,true,true,false,false,false,false] [0,1,2,3,4,5,6,7,8,9,10,11,12,13,14,15])]
def i332:FI:=fiOf Tryz.f332 [(1, .ord [0,0,0,0,0,0,48,112,0,0,768,1792,4083,8179,16383,32767] [false,false,false,false,false,false,false,false,true,true,true,true,false,false,false,false] [0,1,2,3,4,5,6,7,8,9,10,11,12,13,14,15]),(3, .ord [0,0,3,7,15,15,15,111,239,15,15,1551,3599,8191,16383,32767] [false,false,false,false,false,false,false,false,false,true,true,true,true,false,false,false] [0,1,2,3,4,5,6,7,8,9,10,11,12,13,14,15]),(5, .ord [0,0,3,7,15,15,15,111,239,15,15,1551,3599,8191,16383,32767,65535] [false,false,false,false,false,false,false,false,false,true,true,true,true,false,false,false,false] [0,1,2,3,4,5,6,7,8,9,10,11,12,13,14,15,16]),(8, .ord [0,0,0,0,0,0,48,112,0,0,768,1792,4083,8179,16383,32767] [false,false,false,false,false,false,false,false,true,true,true,true,false,false,false,false] [0,1,2,3,4,5,6,7,8,9,10,11,12,13,14,15]),(10, .ord [0,0,0,0,0,0,48,112,0,0,768,1792,4083,8179,16383,32767] [false,false,false,false,false,false,false,false,true,true,true,true,false,false,false,false] [0,1,2,3,4,5,6,7,8,9,10,11,12,13,14,15]),(13, .ord [0,0,3,7,15,15,15,111,239,15,15,1551,3599,8191,16383,32767] [false,false,false,false,false,false,false,false,false,true,true,true,true,false,false,false] [0,1,2,3,4,5,6,7,8,9,10,11,12,13,14,15]),(15, .ord [0,0,3,7,15,15,15,111,239,15,15,1551,3599,8191,16383,32767,65535] [false,false,false,false,false,false,false,false,false,true,true,true,true,false,false,false,false] [0,1,2,3,4,5,6,7,8,9,10,11,12,13,14,15,16]),(18, .ord [0,0,0,0,0,0,48,112,0,0,768,1792,4083,8179,16383,32767] [false,false,false,false,false,false,false,false,true,true,true,true,false,false,false,false] [0,1,2,3,4,5,6,7,8,9,10,11,12,13,14,15]),(21, .ord [0,0,0,0,0,0,48,112,0,0,768,1792,4083,8179,16383,32767] [false,false,false,false,false,false,false,false,true,true,true,true,false,false,false,false] [0,1,2,3,4,5,6,7,8,9,10,11,12,13,14,15])]
def i334:FI:=fiOf Tryz.f334 []
def i335:FI:=fiOf Tryz.f335 []
def i336:FI:=fiOf Tryz.f336 []
def i337:FI:=fiOf Tryz.f337 []
def i339:FI:=fiOf Tryz.f339 []
def i345:FI:=fiOf Tryz.f345 []
def i346:FI:=fiOf Tryz.f346 [(1, .ord [0,1,3,0,8,24,56,127,255,511] [false,false,false,true,true,true,true,false,false,false] [0,1,2,3,4,5,6,7,8,9]),(2, .ord [0,1,3,0,8,24,56,127,255,511] [false,false,false,true,true,true,true,false,false,false] [0,1,2,3,4,5,6,7,8,9]),(3, .ord [0,1,3,0,8,24,56,127,255,511] [false,false,false,true,true,true,true,false,false,false] [0,1,2,3,4,5,6,7,8,9])]
def i350:FI:=fiOf Tryz.f350 []
def i351:FI:=fiOf Tryz.f351 [] 2
def i353:FI:=fiOf Tryz.f353 []
def i355:FI:=fiOf Tryz.f355 []
def i356:FI:=fiOf Tryz.f356 []
def i360:FI:=fiOf Tryz.f360 []
def i361:FI:=fiOf Tryz.f361 []
def i362:FI:=fiOf Tryz.f362 [(1, .ord [0,0,0,6,14,0,0,96,224,511,1023] [false,false,false,false,false,true,true,true,true,false,false] [0,1,2,3,4,5,6,7,8,9,10])]
def i382:FI:=fiOf Tryz.f382 []
def i383:FI:=fiOf Tryz.f383 []
def i385:FI:=fiOf Tryz.f385 []
def i386:FI:=fiOf Tryz.f386 []
def i387:FI:=fiOf Tryz.f387 []
def i388:FI:=fiOf Tryz.f388 [(1, .ord [0,0,3,0,0,24,56,127,0,0,768,1792,4095,8191] [false,false,false,false,false,false,false,false,true,true,true,true,false,false] [0,1,2,3,4,5,6,7,8,9,10,11,12,13])]
def i389:FI:=fiOf Tryz.f389 []
def i390:FI:=fiOf Tryz.f390 [(1, .ord [0,0,3,0,15,31,0,64,255,511] [false,true,true,true,true,true,true,true,false,false] [0,1,3,6,7,2,4,5,8,9])]
def FNt:Tr FI:=(.n (.n (.n (.n (.n (.n (.n (.n (.n .e (some i255) .e) (some i127) (.n .e (some i383) .e)) (some i63) .e) (some i31) (.n .e none (.n (.n .e (some i351) .e) none .e))) none (.n (.n (.n .e (some i143) .e) none (.n (.n .e (some i335) .e) (some i207) .e)) none (.n .e none (.n .e (some i239) .e)))) none (.n (.n (.n (.n (.n .e (some i263) .e) (some i135) .e) (some i71) (.n (.n .e (some i327) .e) none .e)) (some i39) (.n (.n .e (some i167) .e) none .e)) none (.n (.n (.n (.n .e (some i279) .e) none .e) none (.n .e (some i215) .e)) none (.n (.n (.n .e (some i311) .e) none .e) none .e)))) none (.n (.n (.n (.n (.n (.n .e (some i259) .e) none (.n .e (some i387) .e)) (some i67) (.n (.n .e (some i323) .e) none .e)) none (.n (.n .e (some i163) .e) none (.n (.n .e (some i355) .e) none .e))) none (.n (.n (.n (.n .e (some i275) .e) none .e) none (.n (.n .e (some i339) .e) none .e)) (some i51) (.n (.n (.n .e (some i307) .e) none .e) (some i115) (.n .e (some i243) .e)))) (some i11) (.n (.n (.n (.n .e (some i139) .e) (some i75) (.n (.n .e (some i331) .e) none .e)) none .e) (some i27) (.n (.n .e (some i91) .e) (some i59) (.n (.n .e (some i187) .e) (some i123) (.n .e (some i251) .e)))))) none (.n (.n (.n (.n (.n (.n (.n .e (some i257) .e) none (.n .e (some i385) .e)) none (.n (.n .e (some i321) .e) none .e)) (some i33) (.n (.n .e (some i161) .e) none (.n (.n .e (some i353) .e) none .e))) none (.n (.n .e none (.n (.n .e (some i337) .e) none .e)) (some i49) (.n (.n (.n .e (some i305) .e) none .e) (some i113) (.n .e (some i241) .e)))) none (.n (.n (.n (.n .e (some i137) .e) (some i73) (.n (.n .e (some i329) .e) (some i201) .e)) (some i41) (.n (.n (.n .e (some i297) .e) (some i169) .e) none (.n (.n .e (some i361) .e) none .e))) none (.n (.n .e none (.n (.n .e (some i345) .e) (some i217) .e)) (some i57) (.n (.n (.n .e (some i313) .e) none .e) none .e)))) none (.n (.n (.n (.n (.n (.n .e (some i261) .e) (some i133) (.n .e (some i389) .e)) none (.n (.n .e (some i325) .e) none .e)) (some i37) .e) (some i21) (.n (.n (.n (.n .e (some i277) .e) none .e) (some i85) .e) none (.n (.n (.n .e (some i309) .e) (some i181) .e) (some i117) (.n .e (some i245) .e)))) (some i13) (.n (.n (.n .e (some i77) (.n .e (some i205) .e)) none (.n .e (some i109) .e)) (some i29) (.n (.n (.n .e (some i157) .e) (some i93) .e) (some i61) (.n .e (some i125) .e)))))) none (.n (.n (.n (.n (.n (.n (.n (.n .e (some i256) .e) (some i128) .e) (some i64) .e) none (.n (.n (.n .e (some i288) .e) (some i160) .e) none .e)) none (.n (.n (.n .e (some i144) .e) none (.n (.n .e (some i336) .e) (some i208) .e)) none (.n (.n (.n .e (some i304) .e) none .e) (some i112) (.n .e (some i240) .e)))) none (.n (.n (.n (.n .e (some i136) .e) (some i72) (.n (.n .e (some i328) .e) (some i200) .e)) none (.n (.n .e (some i168) .e) none (.n (.n .e (some i360) .e) none .e))) (some i24) (.n (.n .e (some i88) (.n .e (some i216) .e)) (some i56) (.n (.n (.n .e (some i312) .e) none .e) none (.n .e (some i248) .e))))) none (.n (.n (.n (.n (.n (.n .e (some i260) .e) none (.n .e (some i388) .e)) (some i68) .e) (some i36) (.n .e (some i100) (.n (.n .e (some i356) .e) none .e))) none (.n (.n (.n (.n .e (some i276) .e) none .e) none .e) none (.n (.n (.n .e (some i308) .e) none .e) (some i116) (.n .e (some i244) .e)))) none (.n (.n (.n .e (some i76) (.n (.n .e (some i332) .e) none .e)) (some i44) .e) none (.n .e (some i60) (.n (.n .e (some i188) .e) (some i124) (.n .e (some i252) .e)))))) none (.n (.n (.n (.n (.n (.n (.n .e (some i258) .e) none (.n .e (some i386) .e)) none (.n (.n .e (some i322) .e) none .e)) none (.n (.n .e (some i162) .e) none .e)) (some i18) (.n .e (some i50) (.n (.n (.n .e (some i306) .e) none .e) (some i114) (.n .e (some i242) .e)))) none (.n (.n (.n (.n (.n .e (some i266) .e) (some i138) .e) (some i74) (.n (.n .e (some i330) .e) (some i202) .e)) none (.n (.n (.n .e (some i298) .e) (some i170) .e) none (.n (.n .e (some i362) .e) none .e))) none (.n (.n .e none (.n (.n .e (some i346) .e) none .e)) (some i58) (.n (.n (.n .e (some i314) .e) none .e) (some i122) (.n .e (some i250) .e))))) none (.n (.n (.n (.n (.n .e (some i134) (.n .e (some i390) .e)) none .e) none (.n (.n (.n .e (some i294) .e) (some i166) .e) none .e)) (some i22) (.n (.n (.n (.n .e (some i278) .e) none .e) none .e) none (.n (.n (.n .e (some i310) .e) none .e) none (.n .e (some i246) .e)))) (some i14) (.n (.n (.n .e (some i78) (.n (.n .e (some i334) .e) (some i206) .e)) (some i46) (.n .e (some i110) (.n .e (some i238) .e))) none (.n (.n (.n .e (some i158) .e) (some i94) (.n (.n .e (some i350) .e) (some i222) .e)) (some i62) (.n .e (some i126) (.n (.n .e (some i382) .e) (some i254) .e))))))))
theorem o11:FOk Tryz.prog 11 i11:=⟨Tryz.call11,Tryz.f11,Tryz.func11,rfl,rfl,rfl⟩
theorem o13:FOk Tryz.prog 13 i13:=⟨Tryz.call13,Tryz.f13,Tryz.func13,rfl,rfl,rfl⟩
theorem o14:FOk Tryz.prog 14 i14:=⟨Tryz.call14,Tryz.f14,Tryz.func14,rfl,rfl,rfl⟩
theorem o18:FOk Tryz.prog 18 i18:=⟨Tryz.call18,Tryz.f18,Tryz.func18,rfl,rfl,rfl⟩
theorem o21:FOk Tryz.prog 21 i21:=⟨Tryz.call21,Tryz.f21,Tryz.func21,rfl,rfl,rfl⟩
theorem o22:FOk Tryz.prog 22 i22:=⟨Tryz.call22,Tryz.f22,Tryz.func22,rfl,rfl,rfl⟩
theorem o24:FOk Tryz.prog 24 i24:=⟨Tryz.call24,Tryz.f24,Tryz.func24,rfl,rfl,rfl⟩
theorem o27:FOk Tryz.prog 27 i27:=⟨Tryz.call27,Tryz.f27,Tryz.func27,rfl,rfl,rfl⟩
theorem o29:FOk Tryz.prog 29 i29:=⟨Tryz.call29,Tryz.f29,Tryz.func29,rfl,rfl,rfl⟩
theorem o31:FOk Tryz.prog 31 i31:=⟨Tryz.call31,Tryz.f31,Tryz.func31,rfl,rfl,rfl⟩
theorem o33:FOk Tryz.prog 33 i33:=⟨Tryz.call33,Tryz.f33,Tryz.func33,rfl,rfl,rfl⟩
theorem o36:FOk Tryz.prog 36 i36:=⟨Tryz.call36,Tryz.f36,Tryz.func36,rfl,rfl,rfl⟩
theorem o37:FOk Tryz.prog 37 i37:=⟨Tryz.call37,Tryz.f37,Tryz.func37,rfl,rfl,rfl⟩
theorem o39:FOk Tryz.prog 39 i39:=⟨Tryz.call39,Tryz.f39,Tryz.func39,rfl,rfl,rfl⟩
theorem o41:FOk Tryz.prog 41 i41:=⟨Tryz.call41,Tryz.f41,Tryz.func41,rfl,rfl,rfl⟩
theorem o44:FOk Tryz.prog 44 i44:=⟨Tryz.call44,Tryz.f44,Tryz.func44,rfl,rfl,rfl⟩
theorem o46:FOk Tryz.prog 46 i46:=⟨Tryz.call46,Tryz.f46,Tryz.func46,rfl,rfl,rfl⟩
theorem o49:FOk Tryz.prog 49 i49:=⟨Tryz.call49,Tryz.f49,Tryz.func49,rfl,rfl,rfl⟩
theorem o50:FOk Tryz.prog 50 i50:=⟨Tryz.call50,Tryz.f50,Tryz.func50,rfl,rfl,rfl⟩
theorem o51:FOk Tryz.prog 51 i51:=⟨Tryz.call51,Tryz.f51,Tryz.func51,rfl,rfl,rfl⟩
theorem o56:FOk Tryz.prog 56 i56:=⟨Tryz.call56,Tryz.f56,Tryz.func56,rfl,rfl,rfl⟩
theorem o57:FOk Tryz.prog 57 i57:=⟨Tryz.call57,Tryz.f57,Tryz.func57,rfl,rfl,rfl⟩
theorem o58:FOk Tryz.prog 58 i58:=⟨Tryz.call58,Tryz.f58,Tryz.func58,rfl,rfl,rfl⟩
theorem o59:FOk Tryz.prog 59 i59:=⟨Tryz.call59,Tryz.f59,Tryz.func59,rfl,rfl,rfl⟩
theorem o60:FOk Tryz.prog 60 i60:=⟨Tryz.call60,Tryz.f60,Tryz.func60,rfl,rfl,rfl⟩
theorem o61:FOk Tryz.prog 61 i61:=⟨Tryz.call61,Tryz.f61,Tryz.func61,rfl,rfl,rfl⟩
theorem o62:FOk Tryz.prog 62 i62:=⟨Tryz.call62,Tryz.f62,Tryz.func62,rfl,rfl,rfl⟩
theorem o63:FOk Tryz.prog 63 i63:=⟨Tryz.call63,Tryz.f63,Tryz.func63,rfl,rfl,rfl⟩
theorem o64:FOk Tryz.prog 64 i64:=⟨Tryz.call64,Tryz.f64,Tryz.func64,rfl,rfl,rfl⟩
theorem o67:FOk Tryz.prog 67 i67:=⟨Tryz.call67,Tryz.f67,Tryz.func67,rfl,rfl,rfl⟩
theorem o68:FOk Tryz.prog 68 i68:=⟨Tryz.call68,Tryz.f68,Tryz.func68,rfl,rfl,rfl⟩
theorem o71:FOk Tryz.prog 71 i71:=⟨Tryz.call71,Tryz.f71,Tryz.func71,rfl,rfl,rfl⟩
theorem o72:FOk Tryz.prog 72 i72:=⟨Tryz.call72,Tryz.f72,Tryz.func72,rfl,rfl,rfl⟩
theorem o73:FOk Tryz.prog 73 i73:=⟨Tryz.call73,Tryz.f73,Tryz.func73,rfl,rfl,rfl⟩
theorem o74:FOk Tryz.prog 74 i74:=⟨Tryz.call74,Tryz.f74,Tryz.func74,rfl,rfl,rfl⟩
theorem o75:FOk Tryz.prog 75 i75:=⟨Tryz.call75,Tryz.f75,Tryz.func75,rfl,rfl,rfl⟩
theorem o76:FOk Tryz.prog 76 i76:=⟨Tryz.call76,Tryz.f76,Tryz.func76,rfl,rfl,rfl⟩
theorem o77:FOk Tryz.prog 77 i77:=⟨Tryz.call77,Tryz.f77,Tryz.func77,rfl,rfl,rfl⟩
theorem o78:FOk Tryz.prog 78 i78:=⟨Tryz.call78,Tryz.f78,Tryz.func78,rfl,rfl,rfl⟩
theorem o85:FOk Tryz.prog 85 i85:=⟨Tryz.call85,Tryz.f85,Tryz.func85,rfl,rfl,rfl⟩
theorem o88:FOk Tryz.prog 88 i88:=⟨Tryz.call88,Tryz.f88,Tryz.func88,rfl,rfl,rfl⟩
theorem o91:FOk Tryz.prog 91 i91:=⟨Tryz.call91,Tryz.f91,Tryz.func91,rfl,rfl,rfl⟩
theorem o93:FOk Tryz.prog 93 i93:=⟨Tryz.call93,Tryz.f93,Tryz.func93,rfl,rfl,rfl⟩
theorem o94:FOk Tryz.prog 94 i94:=⟨Tryz.call94,Tryz.f94,Tryz.func94,rfl,rfl,rfl⟩
theorem o100:FOk Tryz.prog 100 i100:=⟨Tryz.call100,Tryz.f100,Tryz.func100,rfl,rfl,rfl⟩
theorem o109:FOk Tryz.prog 109 i109:=⟨Tryz.call109,Tryz.f109,Tryz.func109,rfl,rfl,rfl⟩
theorem o110:FOk Tryz.prog 110 i110:=⟨Tryz.call110,Tryz.f110,Tryz.func110,rfl,rfl,rfl⟩
theorem o112:FOk Tryz.prog 112 i112:=⟨Tryz.call112,Tryz.f112,Tryz.func112,rfl,rfl,rfl⟩
theorem o113:FOk Tryz.prog 113 i113:=⟨Tryz.call113,Tryz.f113,Tryz.func113,rfl,rfl,rfl⟩
theorem o114:FOk Tryz.prog 114 i114:=⟨Tryz.call114,Tryz.f114,Tryz.func114,rfl,rfl,rfl⟩
theorem o115:FOk Tryz.prog 115 i115:=⟨Tryz.call115,Tryz.f115,Tryz.func115,rfl,rfl,rfl⟩
theorem o116:FOk Tryz.prog 116 i116:=⟨Tryz.call116,Tryz.f116,Tryz.func116,rfl,rfl,rfl⟩
theorem o117:FOk Tryz.prog 117 i117:=⟨Tryz.call117,Tryz.f117,Tryz.func117,rfl,rfl,rfl⟩
theorem o122:FOk Tryz.prog 122 i122:=⟨Tryz.call122,Tryz.f122,Tryz.func122,rfl,rfl,rfl⟩
theorem o123:FOk Tryz.prog 123 i123:=⟨Tryz.call123,Tryz.f123,Tryz.func123,rfl,rfl,rfl⟩
theorem o124:FOk Tryz.prog 124 i124:=⟨Tryz.call124,Tryz.f124,Tryz.func124,rfl,rfl,rfl⟩
theorem o125:FOk Tryz.prog 125 i125:=⟨Tryz.call125,Tryz.f125,Tryz.func125,rfl,rfl,rfl⟩
theorem o126:FOk Tryz.prog 126 i126:=⟨Tryz.call126,Tryz.f126,Tryz.func126,rfl,rfl,rfl⟩
theorem o127:FOk Tryz.prog 127 i127:=⟨Tryz.call127,Tryz.f127,Tryz.func127,rfl,rfl,rfl⟩
theorem o128:FOk Tryz.prog 128 i128:=⟨Tryz.call128,Tryz.f128,Tryz.func128,rfl,rfl,rfl⟩
theorem o133:FOk Tryz.prog 133 i133:=⟨Tryz.call133,Tryz.f133,Tryz.func133,rfl,rfl,rfl⟩
theorem o134:FOk Tryz.prog 134 i134:=⟨Tryz.call134,Tryz.f134,Tryz.func134,rfl,rfl,rfl⟩
theorem o135:FOk Tryz.prog 135 i135:=⟨Tryz.call135,Tryz.f135,Tryz.func135,rfl,rfl,rfl⟩
theorem o136:FOk Tryz.prog 136 i136:=⟨Tryz.call136,Tryz.f136,Tryz.func136,rfl,rfl,rfl⟩
theorem o137:FOk Tryz.prog 137 i137:=⟨Tryz.call137,Tryz.f137,Tryz.func137,rfl,rfl,rfl⟩
theorem o138:FOk Tryz.prog 138 i138:=⟨Tryz.call138,Tryz.f138,Tryz.func138,rfl,rfl,rfl⟩
theorem o139:FOk Tryz.prog 139 i139:=⟨Tryz.call139,Tryz.f139,Tryz.func139,rfl,rfl,rfl⟩
theorem o143:FOk Tryz.prog 143 i143:=⟨Tryz.call143,Tryz.f143,Tryz.func143,rfl,rfl,rfl⟩
theorem o144:FOk Tryz.prog 144 i144:=⟨Tryz.call144,Tryz.f144,Tryz.func144,rfl,rfl,rfl⟩
theorem o157:FOk Tryz.prog 157 i157:=⟨Tryz.call157,Tryz.f157,Tryz.func157,rfl,rfl,rfl⟩
theorem o158:FOk Tryz.prog 158 i158:=⟨Tryz.call158,Tryz.f158,Tryz.func158,rfl,rfl,rfl⟩
theorem o160:FOk Tryz.prog 160 i160:=⟨Tryz.call160,Tryz.f160,Tryz.func160,rfl,rfl,rfl⟩
theorem o161:FOk Tryz.prog 161 i161:=⟨Tryz.call161,Tryz.f161,Tryz.func161,rfl,rfl,rfl⟩
theorem o162:FOk Tryz.prog 162 i162:=⟨Tryz.call162,Tryz.f162,Tryz.func162,rfl,rfl,rfl⟩
theorem o163:FOk Tryz.prog 163 i163:=⟨Tryz.call163,Tryz.f163,Tryz.func163,rfl,rfl,rfl⟩
theorem o166:FOk Tryz.prog 166 i166:=⟨Tryz.call166,Tryz.f166,Tryz.func166,rfl,rfl,rfl⟩
theorem o167:FOk Tryz.prog 167 i167:=⟨Tryz.call167,Tryz.f167,Tryz.func167,rfl,rfl,rfl⟩
theorem o168:FOk Tryz.prog 168 i168:=⟨Tryz.call168,Tryz.f168,Tryz.func168,rfl,rfl,rfl⟩
theorem o169:FOk Tryz.prog 169 i169:=⟨Tryz.call169,Tryz.f169,Tryz.func169,rfl,rfl,rfl⟩
theorem o170:FOk Tryz.prog 170 i170:=⟨Tryz.call170,Tryz.f170,Tryz.func170,rfl,rfl,rfl⟩
theorem o181:FOk Tryz.prog 181 i181:=⟨Tryz.call181,Tryz.f181,Tryz.func181,rfl,rfl,rfl⟩
theorem o187:FOk Tryz.prog 187 i187:=⟨Tryz.call187,Tryz.f187,Tryz.func187,rfl,rfl,rfl⟩
theorem o188:FOk Tryz.prog 188 i188:=⟨Tryz.call188,Tryz.f188,Tryz.func188,rfl,rfl,rfl⟩
theorem o200:FOk Tryz.prog 200 i200:=⟨Tryz.call200,Tryz.f200,Tryz.func200,rfl,rfl,rfl⟩
theorem o201:FOk Tryz.prog 201 i201:=⟨Tryz.call201,Tryz.f201,Tryz.func201,rfl,rfl,rfl⟩
theorem o202:FOk Tryz.prog 202 i202:=⟨Tryz.call202,Tryz.f202,Tryz.func202,rfl,rfl,rfl⟩
theorem o205:FOk Tryz.prog 205 i205:=⟨Tryz.call205,Tryz.f205,Tryz.func205,rfl,rfl,rfl⟩
theorem o206:FOk Tryz.prog 206 i206:=⟨Tryz.call206,Tryz.f206,Tryz.func206,rfl,rfl,rfl⟩
theorem o207:FOk Tryz.prog 207 i207:=⟨Tryz.call207,Tryz.f207,Tryz.func207,rfl,rfl,rfl⟩
theorem o208:FOk Tryz.prog 208 i208:=⟨Tryz.call208,Tryz.f208,Tryz.func208,rfl,rfl,rfl⟩
theorem o215:FOk Tryz.prog 215 i215:=⟨Tryz.call215,Tryz.f215,Tryz.func215,rfl,rfl,rfl⟩
theorem o216:FOk Tryz.prog 216 i216:=⟨Tryz.call216,Tryz.f216,Tryz.func216,rfl,rfl,rfl⟩
theorem o217:FOk Tryz.prog 217 i217:=⟨Tryz.call217,Tryz.f217,Tryz.func217,rfl,rfl,rfl⟩
theorem o222:FOk Tryz.prog 222 i222:=⟨Tryz.call222,Tryz.f222,Tryz.func222,rfl,rfl,rfl⟩
theorem o238:FOk Tryz.prog 238 i238:=⟨Tryz.call238,Tryz.f238,Tryz.func238,rfl,rfl,rfl⟩
theorem o239:FOk Tryz.prog 239 i239:=⟨Tryz.call239,Tryz.f239,Tryz.func239,rfl,rfl,rfl⟩
theorem o240:FOk Tryz.prog 240 i240:=⟨Tryz.call240,Tryz.f240,Tryz.func240,rfl,rfl,rfl⟩
theorem o241:FOk Tryz.prog 241 i241:=⟨Tryz.call241,Tryz.f241,Tryz.func241,rfl,rfl,rfl⟩
theorem o242:FOk Tryz.prog 242 i242:=⟨Tryz.call242,Tryz.f242,Tryz.func242,rfl,rfl,rfl⟩
theorem o243:FOk Tryz.prog 243 i243:=⟨Tryz.call243,Tryz.f243,Tryz.func243,rfl,rfl,rfl⟩
theorem o244:FOk Tryz.prog 244 i244:=⟨Tryz.call244,Tryz.f244,Tryz.func244,rfl,rfl,rfl⟩
theorem o245:FOk Tryz.prog 245 i245:=⟨Tryz.call245,Tryz.f245,Tryz.func245,rfl,rfl,rfl⟩
theorem o246:FOk Tryz.prog 246 i246:=⟨Tryz.call246,Tryz.f246,Tryz.func246,rfl,rfl,rfl⟩
theorem o248:FOk Tryz.prog 248 i248:=⟨Tryz.call248,Tryz.f248,Tryz.func248,rfl,rfl,rfl⟩
theorem o250:FOk Tryz.prog 250 i250:=⟨Tryz.call250,Tryz.f250,Tryz.func250,rfl,rfl,rfl⟩
theorem o251:FOk Tryz.prog 251 i251:=⟨Tryz.call251,Tryz.f251,Tryz.func251,rfl,rfl,rfl⟩
theorem o252:FOk Tryz.prog 252 i252:=⟨Tryz.call252,Tryz.f252,Tryz.func252,rfl,rfl,rfl⟩
theorem o254:FOk Tryz.prog 254 i254:=⟨Tryz.call254,Tryz.f254,Tryz.func254,rfl,rfl,rfl⟩
theorem o255:FOk Tryz.prog 255 i255:=⟨Tryz.call255,Tryz.f255,Tryz.func255,rfl,rfl,rfl⟩
theorem o256:FOk Tryz.prog 256 i256:=⟨Tryz.call256,Tryz.f256,Tryz.func256,rfl,rfl,rfl⟩
theorem o257:FOk Tryz.prog 257 i257:=⟨Tryz.call257,Tryz.f257,Tryz.func257,rfl,rfl,rfl⟩
theorem o258:FOk Tryz.prog 258 i258:=⟨Tryz.call258,Tryz.f258,Tryz.func258,rfl,rfl,rfl⟩
theorem o259:FOk Tryz.prog 259 i259:=⟨Tryz.call259,Tryz.f259,Tryz.func259,rfl,rfl,rfl⟩
theorem o260:FOk Tryz.prog 260 i260:=⟨Tryz.call260,Tryz.f260,Tryz.func260,rfl,rfl,rfl⟩
theorem o261:FOk Tryz.prog 261 i261:=⟨Tryz.call261,Tryz.f261,Tryz.func261,rfl,rfl,rfl⟩
theorem o263:FOk Tryz.prog 263 i263:=⟨Tryz.call263,Tryz.f263,Tryz.func263,rfl,rfl,rfl⟩
theorem o266:FOk Tryz.prog 266 i266:=⟨Tryz.call266,Tryz.f266,Tryz.func266,rfl,rfl,rfl⟩
theorem o275:FOk Tryz.prog 275 i275:=⟨Tryz.call275,Tryz.f275,Tryz.func275,rfl,rfl,rfl⟩
theorem o276:FOk Tryz.prog 276 i276:=⟨Tryz.call276,Tryz.f276,Tryz.func276,rfl,rfl,rfl⟩
theorem o277:FOk Tryz.prog 277 i277:=⟨Tryz.call277,Tryz.f277,Tryz.func277,rfl,rfl,rfl⟩
theorem o278:FOk Tryz.prog 278 i278:=⟨Tryz.call278,Tryz.f278,Tryz.func278,rfl,rfl,rfl⟩
theorem o279:FOk Tryz.prog 279 i279:=⟨Tryz.call279,Tryz.f279,Tryz.func279,rfl,rfl,rfl⟩
theorem o288:FOk Tryz.prog 288 i288:=⟨Tryz.call288,Tryz.f288,Tryz.func288,rfl,rfl,rfl⟩
theorem o294:FOk Tryz.prog 294 i294:=⟨Tryz.call294,Tryz.f294,Tryz.func294,rfl,rfl,rfl⟩
theorem o297:FOk Tryz.prog 297 i297:=⟨Tryz.call297,Tryz.f297,Tryz.func297,rfl,rfl,rfl⟩
theorem o298:FOk Tryz.prog 298 i298:=⟨Tryz.call298,Tryz.f298,Tryz.func298,rfl,rfl,rfl⟩
theorem o304:FOk Tryz.prog 304 i304:=⟨Tryz.call304,Tryz.f304,Tryz.func304,rfl,rfl,rfl⟩
theorem o305:FOk Tryz.prog 305 i305:=⟨Tryz.call305,Tryz.f305,Tryz.func305,rfl,rfl,rfl⟩
theorem o306:FOk Tryz.prog 306 i306:=⟨Tryz.call306,Tryz.f306,Tryz.func306,rfl,rfl,rfl⟩
theorem o307:FOk Tryz.prog 307 i307:=⟨Tryz.call307,Tryz.f307,Tryz.func307,rfl,rfl,rfl⟩
theorem o308:FOk Tryz.prog 308 i308:=⟨Tryz.call308,Tryz.f308,Tryz.func308,rfl,rfl,rfl⟩
theorem o309:FOk Tryz.prog 309 i309:=⟨Tryz.call309,Tryz.f309,Tryz.func309,rfl,rfl,rfl⟩
theorem o310:FOk Tryz.prog 310 i310:=⟨Tryz.call310,Tryz.f310,Tryz.func310,rfl,rfl,rfl⟩
theorem o311:FOk Tryz.prog 311 i311:=⟨Tryz.call311,Tryz.f311,Tryz.func311,rfl,rfl,rfl⟩
theorem o312:FOk Tryz.prog 312 i312:=⟨Tryz.call312,Tryz.f312,Tryz.func312,rfl,rfl,rfl⟩
theorem o313:FOk Tryz.prog 313 i313:=⟨Tryz.call313,Tryz.f313,Tryz.func313,rfl,rfl,rfl⟩
theorem o314:FOk Tryz.prog 314 i314:=⟨Tryz.call314,Tryz.f314,Tryz.func314,rfl,rfl,rfl⟩
theorem o321:FOk Tryz.prog 321 i321:=⟨Tryz.call321,Tryz.f321,Tryz.func321,rfl,rfl,rfl⟩
theorem o322:FOk Tryz.prog 322 i322:=⟨Tryz.call322,Tryz.f322,Tryz.func322,rfl,rfl,rfl⟩
theorem o323:FOk Tryz.prog 323 i323:=⟨Tryz.call323,Tryz.f323,Tryz.func323,rfl,rfl,rfl⟩
theorem o325:FOk Tryz.prog 325 i325:=⟨Tryz.call325,Tryz.f325,Tryz.func325,rfl,rfl,rfl⟩
theorem o327:FOk Tryz.prog 327 i327:=⟨Tryz.call327,Tryz.f327,Tryz.func327,rfl,rfl,rfl⟩
theorem o328:FOk Tryz.prog 328 i328:=⟨Tryz.call328,Tryz.f328,Tryz.func328,rfl,rfl,rfl⟩
theorem o329:FOk Tryz.prog 329 i329:=⟨Tryz.call329,Tryz.f329,Tryz.func329,rfl,rfl,rfl⟩
theorem o330:FOk Tryz.prog 330 i330:=⟨Tryz.call330,Tryz.f330,Tryz.func330,rfl,rfl,rfl⟩
theorem o331:FOk Tryz.prog 331 i331:=⟨Tryz.call331,Tryz.f331,Tryz.func331,rfl,rfl,rfl⟩
theorem o332:FOk Tryz.prog 332 i332:=⟨Tryz.call332,Tryz.f332,Tryz.func332,rfl,rfl,rfl⟩
theorem o334:FOk Tryz.prog 334 i334:=⟨Tryz.call334,Tryz.f334,Tryz.func334,rfl,rfl,rfl⟩
theorem o335:FOk Tryz.prog 335 i335:=⟨Tryz.call335,Tryz.f335,Tryz.func335,rfl,rfl,rfl⟩
theorem o336:FOk Tryz.prog 336 i336:=⟨Tryz.call336,Tryz.f336,Tryz.func336,rfl,rfl,rfl⟩
theorem o337:FOk Tryz.prog 337 i337:=⟨Tryz.call337,Tryz.f337,Tryz.func337,rfl,rfl,rfl⟩
theorem o339:FOk Tryz.prog 339 i339:=⟨Tryz.call339,Tryz.f339,Tryz.func339,rfl,rfl,rfl⟩
theorem o345:FOk Tryz.prog 345 i345:=⟨Tryz.call345,Tryz.f345,Tryz.func345,rfl,rfl,rfl⟩
theorem o346:FOk Tryz.prog 346 i346:=⟨Tryz.call346,Tryz.f346,Tryz.func346,rfl,rfl,rfl⟩
theorem o350:FOk Tryz.prog 350 i350:=⟨Tryz.call350,Tryz.f350,Tryz.func350,rfl,rfl,rfl⟩
theorem o351:FOk Tryz.prog 351 i351:=⟨Tryz.call351,Tryz.f351,Tryz.func351,rfl,rfl,rfl⟩
theorem o353:FOk Tryz.prog 353 i353:=⟨Tryz.call353,Tryz.f353,Tryz.func353,rfl,rfl,rfl⟩
theorem o355:FOk Tryz.prog 355 i355:=⟨Tryz.call355,Tryz.f355,Tryz.func355,rfl,rfl,rfl⟩
theorem o356:FOk Tryz.prog 356 i356:=⟨Tryz.call356,Tryz.f356,Tryz.func356,rfl,rfl,rfl⟩
theorem o360:FOk Tryz.prog 360 i360:=⟨Tryz.call360,Tryz.f360,Tryz.func360,rfl,rfl,rfl⟩
theorem o361:FOk Tryz.prog 361 i361:=⟨Tryz.call361,Tryz.f361,Tryz.func361,rfl,rfl,rfl⟩
theorem o362:FOk Tryz.prog 362 i362:=⟨Tryz.call362,Tryz.f362,Tryz.func362,rfl,rfl,rfl⟩
theorem o382:FOk Tryz.prog 382 i382:=⟨Tryz.call382,Tryz.f382,Tryz.func382,rfl,rfl,rfl⟩
theorem o383:FOk Tryz.prog 383 i383:=⟨Tryz.call383,Tryz.f383,Tryz.func383,rfl,rfl,rfl⟩
theorem o385:FOk Tryz.prog 385 i385:=⟨Tryz.call385,Tryz.f385,Tryz.func385,rfl,rfl,rfl⟩
theorem o386:FOk Tryz.prog 386 i386:=⟨Tryz.call386,Tryz.f386,Tryz.func386,rfl,rfl,rfl⟩
theorem o387:FOk Tryz.prog 387 i387:=⟨Tryz.call387,Tryz.f387,Tryz.func387,rfl,rfl,rfl⟩
theorem o388:FOk Tryz.prog 388 i388:=⟨Tryz.call388,Tryz.f388,Tryz.func388,rfl,rfl,rfl⟩
theorem o389:FOk Tryz.prog 389 i389:=⟨Tryz.call389,Tryz.f389,Tryz.func389,rfl,rfl,rfl⟩
theorem o390:FOk Tryz.prog 390 i390:=⟨Tryz.call390,Tryz.f390,Tryz.func390,rfl,rfl,rfl⟩
theorem fall:TrAll (FOk Tryz.prog) (fun m=>m) FNt:=⟨⟨⟨⟨⟨⟨⟨⟨⟨trivial,o255,trivial⟩,o127,⟨trivial,o383,trivial⟩⟩,o63,trivial⟩,o31,⟨trivial,trivial,⟨⟨trivial,o351,trivial⟩,trivial,trivial⟩⟩⟩,trivial,⟨⟨⟨trivial,o143,trivial⟩,trivial,⟨⟨trivial,o335,trivial⟩,o207,trivial⟩⟩,trivial,⟨trivial,trivial,⟨trivial,o239,trivial⟩⟩⟩⟩,trivial,⟨⟨⟨⟨⟨trivial,o263,trivial⟩,o135,trivial⟩,o71,⟨⟨trivial,o327,trivial⟩,trivial,trivial⟩⟩,o39,⟨⟨trivial,o167,trivial⟩,trivial,trivial⟩⟩,trivial,⟨⟨⟨⟨trivial,o279,trivial⟩,trivial,trivial⟩,trivial,⟨trivial,o215,trivial⟩⟩,trivial,⟨⟨⟨trivial,o311,trivial⟩,trivial,trivial⟩,trivial,trivial⟩⟩⟩⟩,trivial,⟨⟨⟨⟨⟨⟨trivial,o259,trivial⟩,trivial,⟨trivial,o387,trivial⟩⟩,o67,⟨⟨trivial,o323,trivial⟩,trivial,trivial⟩⟩,trivial,⟨⟨trivial,o163,trivial⟩,trivial,⟨⟨trivial,o355,trivial⟩,trivial,trivial⟩⟩⟩,trivial,⟨⟨⟨⟨trivial,o275,trivial⟩,trivial,trivial⟩,trivial,⟨⟨trivial,o339,trivial⟩,trivial,trivial⟩⟩,o51,⟨⟨⟨trivial,o307,trivial⟩,trivial,trivial⟩,o115,⟨trivial,o243,trivial⟩⟩⟩⟩,o11,⟨⟨⟨⟨trivial,o139,trivial⟩,o75,⟨⟨trivial,o331,trivial⟩,trivial,trivial⟩⟩,trivial,trivial⟩,o27,⟨⟨trivial,o91,trivial⟩,o59,⟨⟨trivial,o187,trivial⟩,o123,⟨trivial,o251,trivial⟩⟩⟩⟩⟩⟩,trivial,⟨⟨⟨⟨⟨⟨⟨trivial,o257,trivial⟩,trivial,⟨trivial,o385,trivial⟩⟩,trivial,⟨⟨trivial,o321,trivial⟩,trivial,trivial⟩⟩,o33,⟨⟨trivial,o161,trivial⟩,trivial,⟨⟨trivial,o353,trivial⟩,trivial,trivial⟩⟩⟩,trivial,⟨⟨trivial,trivial,⟨⟨trivial,o337,trivial⟩,trivial,trivial⟩⟩,o49,⟨⟨⟨trivial,o305,trivial⟩,trivial,trivial⟩,o113,⟨trivial,o241,trivial⟩⟩⟩⟩,trivial,⟨⟨⟨⟨trivial,o137,trivial⟩,o73,⟨⟨trivial,o329,trivial⟩,o201,trivial⟩⟩,o41,⟨⟨⟨trivial,o297,trivial⟩,o169,trivial⟩,trivial,⟨⟨trivial,o361,trivial⟩,trivial,trivial⟩⟩⟩,trivial,⟨⟨trivial,trivial,⟨⟨trivial,o345,trivial⟩,o217,trivial⟩⟩,o57,⟨⟨⟨trivial,o313,trivial⟩,trivial,trivial⟩,trivial,trivial⟩⟩⟩⟩,trivial,⟨⟨⟨⟨⟨⟨trivial,o261,trivial⟩,o133,⟨trivial,o389,trivial⟩⟩,trivial,⟨⟨trivial,o325,trivial⟩,trivial,trivial⟩⟩,o37,trivial⟩,o21,⟨⟨⟨⟨trivial,o277,trivial⟩,trivial,trivial⟩,o85,trivial⟩,trivial,⟨⟨⟨trivial,o309,trivial⟩,o181,trivial⟩,o117,⟨trivial,o245,trivial⟩⟩⟩⟩,o13,⟨⟨⟨trivial,o77,⟨trivial,o205,trivial⟩⟩,trivial,⟨trivial,o109,trivial⟩⟩,o29,⟨⟨⟨trivial,o157,trivial⟩,o93,trivial⟩,o61,⟨trivial,o125,trivial⟩⟩⟩⟩⟩⟩,trivial,⟨⟨⟨⟨⟨⟨⟨⟨trivial,o256,trivial⟩,o128,trivial⟩,o64,trivial⟩,trivial,⟨⟨⟨trivial,o288,trivial⟩,o160,trivial⟩,trivial,trivial⟩⟩,trivial,⟨⟨⟨trivial,o144,trivial⟩,trivial,⟨⟨trivial,o336,trivial⟩,o208,trivial⟩⟩,trivial,⟨⟨⟨trivial,o304,trivial⟩,trivial,trivial⟩,o112,⟨trivial,o240,trivial⟩⟩⟩⟩,trivial,⟨⟨⟨⟨trivial,o136,trivial⟩,o72,⟨⟨trivial,o328,trivial⟩,o200,trivial⟩⟩,trivial,⟨⟨trivial,o168,trivial⟩,trivial,⟨⟨trivial,o360,trivial⟩,trivial,trivial⟩⟩⟩,o24,⟨⟨trivial,o88,⟨trivial,o216,trivial⟩⟩,o56,⟨⟨⟨trivial,o312,trivial⟩,trivial,trivial⟩,trivial,⟨trivial,o248,trivial⟩⟩⟩⟩⟩,trivial,⟨⟨⟨⟨⟨⟨trivial,o260,trivial⟩,trivial,⟨trivial,o388,trivial⟩⟩,o68,trivial⟩,o36,⟨trivial,o100,⟨⟨trivial,o356,trivial⟩,trivial,trivial⟩⟩⟩,trivial,⟨⟨⟨⟨trivial,o276,trivial⟩,trivial,trivial⟩,trivial,trivial⟩,trivial,⟨⟨⟨trivial,o308,trivial⟩,trivial,trivial⟩,o116,⟨trivial,o244,trivial⟩⟩⟩⟩,trivial,⟨⟨⟨trivial,o76,⟨⟨trivial,o332,trivial⟩,trivial,trivial⟩⟩,o44,trivial⟩,trivial,⟨trivial,o60,⟨⟨trivial,o188,trivial⟩,o124,⟨trivial,o252,trivial⟩⟩⟩⟩⟩⟩,trivial,⟨⟨⟨⟨⟨⟨⟨trivial,o258,trivial⟩,trivial,⟨trivial,o386,trivial⟩⟩,trivial,⟨⟨trivial,o322,trivial⟩,trivial,trivial⟩⟩,trivial,⟨⟨trivial,o162,trivial⟩,trivial,trivial⟩⟩,o18,⟨trivial,o50,⟨⟨⟨trivial,o306,trivial⟩,trivial,trivial⟩,o114,⟨trivial,o242,trivial⟩⟩⟩⟩,trivial,⟨⟨⟨⟨⟨trivial,o266,trivial⟩,o138,trivial⟩,o74,⟨⟨trivial,o330,trivial⟩,o202,trivial⟩⟩,trivial,⟨⟨⟨trivial,o298,trivial⟩,o170,trivial⟩,trivial,⟨⟨trivial,o362,trivial⟩,trivial,trivial⟩⟩⟩,trivial,⟨⟨trivial,trivial,⟨⟨trivial,o346,trivial⟩,trivial,trivial⟩⟩,o58,⟨⟨⟨trivial,o314,trivial⟩,trivial,trivial⟩,o122,⟨trivial,o250,trivial⟩⟩⟩⟩⟩,trivial,⟨⟨⟨⟨⟨trivial,o134,⟨trivial,o390,trivial⟩⟩,trivial,trivial⟩,trivial,⟨⟨⟨trivial,o294,trivial⟩,o166,trivial⟩,trivial,trivial⟩⟩,o22,⟨⟨⟨⟨trivial,o278,trivial⟩,trivial,trivial⟩,trivial,trivial⟩,trivial,⟨⟨⟨trivial,o310,trivial⟩,trivial,trivial⟩,trivial,⟨trivial,o246,trivial⟩⟩⟩⟩,o14,⟨⟨⟨trivial,o78,⟨⟨trivial,o334,trivial⟩,o206,trivial⟩⟩,o46,⟨trivial,o110,⟨trivial,o238,trivial⟩⟩⟩,trivial,⟨⟨⟨trivial,o158,trivial⟩,o94,⟨⟨trivial,o350,trivial⟩,o222,trivial⟩⟩,o62,⟨trivial,o126,⟨⟨trivial,o382,trivial⟩,o254,trivial⟩⟩⟩⟩⟩⟩⟩⟩
theorem fok:FnOk Tryz.prog FNt:=fok_of fall
end Go.Af.Tryz.W
namespace Go.Af
open Go
def ro1M (a:List Int):Tr EB := .n .e (some (.cells 1 (ints a))) .e
theorem ro1_get {a:List Int} {i:Nat} {eb:EB} (h:(ro1M a).get (psOf i)=some eb):i=0/\eb = .cells 1 (ints a):=by
 have e:=psOf_nat i
 generalize psOf i=q at h e
 cases q with
 | h=>cases h;exact⟨by rw[<- e];rfl,rfl⟩
 | i q=>cases q <;> cases h
 | o q=>cases q <;> cases h
theorem hok_ro1 (a:List Int):HOk (ro1M a) 1 (ro1M a) 1 [ro a]:=by
 refine⟨rfl,Nat.le_refl _,fun i eb he=>?_,fun i hi=>?_,fun i _=>rfl,fun i eb he hr _=>?_⟩
 ·obtain ⟨rfl,rfl⟩:=ro1_get he
  exact⟨by decide,_,rfl,rfl⟩
 ·match i,hi with
  | 0,_=>exact⟨_,rfl⟩
 ·obtain ⟨_,rfl⟩:=ro1_get he;cases hr
def isP (x y:Int) (v:Value):Bool:=match v with | .tuple xs=>(match xs.toList with | [.int .i64 a, .int .i64 b]=>ieq a x&&ieq b y | _=>false) | _=>false
theorem isP_ok {x y:Int} {v:Value} (h:isP x y v=true):v = .tuple ⟨[.int .i64 x, .int .i64 y]⟩:=by
 unfold isP at h
 split at h
 ·rename_i xs
  split at h
  ·rename_i a b e
   simp only[ieq_eq,Bool.and_eq_true,decide_eq_true_eq] at h
   rw[show xs=⟨xs.toList⟩ from rfl,e,h.1,h.2]
  ·cases h
 ·cases h
theorem run_ro1 {P:Program} {E:Env} {FN:Tr FI} (hF:FnOk P FN) (hE:EOk P E) (hm:P.follows .mixedOrders=true) {d f:Nat} {args:List Value} {a:List Int} {x y:Int}
 (h:(evN FN E d).call 1 f args (ro1M a) 1 (fun v _ _=>isP x y v)=true):qi P f args [ro a] (fun v H=>v = .tuple ⟨[.int .i64 x, .int .i64 y]⟩/\H = [ro a]):=by
 refine qR (((evN_ok hF hE hm d).call h (hok_ro1 a)).mono fun v H h=>?_)
 obtain ⟨M,n,hk,hv⟩:=h
 have hv:=isP_ok hv
 subst hv
 have e0:=hk.base 0 (.inl (by decide))
 obtain ⟨_,b0,g0,q0⟩:=hk.get 0 _ (e0.trans (rfl:(ro1M a).get (psOf 0)=some (.cells 1 (ints a))))
 have q0:b0=ro a:=q0
 subst q0
 refine⟨[(0,0)],_,[ro a],by simp, ?_,⟨⟨_,by rw[qO];exact g0,BRen.ints _ _ _⟩,trivial⟩,rfl,VRen.plain rfl,rfl,rfl⟩
 intro i hi
 match i,hi with
 | 0,_=>rfl
end Go.Af
namespace Go.Af.Tryz.W
open Go Go.Proofs Go.Af.Tryz
set_option maxRecDepth 100000
def rgD (x y:Nat):Int:=((min (y-x+(x-y)) (4-(y-x+(x-y))):Nat):Int)
def rgA (x y:Nat):List Value := [.agg ⟨[.int .i64 1,sv 0 1, .int .i64 1]⟩, .int .i64 (x:Int), .int .i64 (y:Int)]
def rgC (x y:Nat):Bool:=(evN FNt EE 100).call 1 136 (rgA x y) (ro1M [4]) 1 (fun v _ _=>isP (rgD x y) 0 v)
theorem rg0:(rgC 0 0&&(rgC 0 1&&(rgC 0 2&&rgC 0 3)))=true:=by kernel_rfl
theorem rg1:(rgC 1 0&&(rgC 1 1&&(rgC 1 2&&rgC 1 3)))=true:=by kernel_rfl
theorem rg2:(rgC 2 0&&(rgC 2 1&&(rgC 2 2&&rgC 2 3)))=true:=by kernel_rfl
theorem rg3:(rgC 3 0&&(rgC 3 1&&(rgC 3 2&&rgC 3 3)))=true:=by kernel_rfl
theorem rg_all {x y:Nat} (hx:x<4) (hy:y<4):rgC x y=true:=by
 have h0:=rg0
 have h1:=rg1
 have h2:=rg2
 have h3:=rg3
 simp only[Bool.and_eq_true] at h0 h1 h2 h3
 obtain rfl | rfl | rfl | rfl:x=0\/x=1\/x=2\/x=3:=by omega
 all_goals obtain rfl | rfl | rfl | rfl:y=0\/y=1\/y=2\/y=3:=by omega
 all_goals simp only[h0,h1,h2,h3]
theorem l136 {x y:Nat} (hx:x<4) (hy:y<4):qi Tryz.prog 136 (rgA x y) [ro [4]] (fun v H=>v = .tuple ⟨[.int .i64 (rgD x y), .int .i64 0]⟩/\H = [ro [4]]) :=
 run_ro1 fok eok mx (rg_all hx hy)
def orcD:List Value->(Nat->Option (Nat × List Value))->Nat->Option (Value × List (Bool × Nat × List Value))
 | [.agg xs, .int .i64 x, .int .i64 y],mem,_=>match xs.toList with
   | [.int .i64 kd, .slice (some ⟨b,0,none⟩) l1 c1, .int .i64 ho]=>match mem b with
     | some (1,[.int .i64 s])=>match Nat.ble l1 c1&&Nat.beq l1 1&&decide (kd=1)&&decide (ho=1)&&decide (s=4)&&decide (0<=x)&&decide (0<=y)&&Nat.blt x.toNat 4&&Nat.blt y.toNat 4 with
       | true=>some (.tuple ⟨[.int .i64 (rgD x.toNat y.toNat), .int .i64 0]⟩,[])
       | false=>none
     | _=>none
   | _=>none
 | _,_,_=>none
theorem orcD_ok:OrcOk Tryz.prog 136 orcD:=by
 intro args mem H v bs hmem hg
 unfold orcD at hg
 split at hg
 ·rename_i xs x y
  split at hg
  ·rename_i kd b l1 c1 ho hx
   split at hg
   ·rename_i s m1
    split at hg
    ·rename_i hck
     cases hg
     simp only[Bool.and_eq_true,decide_eq_true_eq] at hck
     obtain ⟨⟨⟨⟨⟨⟨⟨⟨j1,k1⟩,rfl⟩,rfl⟩,rfl⟩,x0⟩,y0⟩,xn⟩,yn⟩:=hck
     have j1:=Nat.le_of_ble_eq_true j1
     have k1:=Nat.eq_of_beq_eq_true k1
     have xn:x.toNat<4:=Nat.le_of_ble_eq_true xn
     have yn:y.toNat<4:=Nat.le_of_ble_eq_true yn
     have ex:xs=⟨_⟩:=Array.toList_inj.1 hx
     subst ex
     obtain ⟨w1,h1⟩:=hmem _ _ _ m1
     have h1:bget H b=some (.cells w1 1 (ints [4])):=h1
     subst k1
     have ll:=l136 xn yn
     unfold rgA at ll
     rw[Int.toNat_of_nonneg x0,Int.toNat_of_nonneg y0] at ll
     refine (vP ll [(b,0)] rfl ?_ ⟨⟨_,h1,BRen.seg fun i x hx=>by rw[Nat.zero_add,ve,hx];rfl⟩,trivial⟩ rfl ⟨rfl,by simp⟩).call
     refine .cons (.agg (.cons (.int _ _) (.cons (VRen.slice rfl rfl ?_) (.cons (.int _ _) .nil)))) (.cons (.int _ _) (.cons (.int _ _) .nil))
     exact j1
    ·cases hg
   ·cases hg
  ·cases hg
 ·cases hg
def EE2:Env := { EE with ors:=(136,orcD)::EE.ors }
theorem eok2:EOk Tryz.prog EE2:=by
 refine⟨eok.T,eok.eqs,eok.mks,eok.ms,fun f g h=>?_⟩
 rcases List.mem_cons.1 h with h | h
 ·cases h;exact orcD_ok
 ·exact eok.ors f g h
end Go.Af.Tryz.W
namespace Go.Af
open Go
attribute [local irreducible] awp qi qw qH qy
theorem hok_nil:HOk (.e:Tr EB) 0 .e 0 []:=⟨rfl,Nat.le_refl _,fun i eb he=>(by cases hp:psOf i <;> rw[hp] at he <;> cases he),fun i hi=>(by omega),fun i hi=>rfl,fun i eb he=>(by cases hp:psOf i <;> rw[hp] at he <;> cases he)⟩
theorem row_of {P:Program} {f:Nat} {args:List Value} {vs:List Value} {n w:Nat} {F:Value->Value} (hv:vs.all (vY 6)=true)
 (hF1 : ∀ {ι a b},VRen ι a b->VRen ι (F a) (F b)) (hF2 : ∀ {ι a b},qY ι a b->qY ι (F a) (F b)) (ha:LRen [] args args)
 (h:qi P f args [] (fun v H => ∃ b,v=F (sv b n)/\bget H b=some (.cells true w vs))) (H:List Blk):qi P f args H (fun v' H' => v' = F (sv H.length n)/\H' = H ++ [.cells true w vs]):=by
 have hc:qi P f args [] (fun v H' => v=F (sv 0 n)/\H' = [.cells true w vs]):=by
  refine qR (h.mono fun v H h=>?_)
  obtain ⟨b,rfl,g0⟩:=h
  refine⟨[(b,0)],F (sv 0 n),[.cells true w vs],Nat.zero_le _,(fun i hi=>by simp at hi),⟨⟨_,g0,BRen.cells (fun h=>h) (fun i x2 hx=>⟨x2,by rw[Nat.zero_add];exact hx,VRen.plain (List.all_eq_true.1 hv x2 (List.mem_of_getElem? hx))⟩)⟩,trivial⟩,rfl,hF1 (VRen.slice (s:=0) rfl rfl (Nat.le_refl _)),rfl,rfl⟩
 refine (xU (H:=H) (R:=fun v' H' => v' = F (sv H.length n)/\H' = H ++ [.cells true w vs]) hc [] rfl ha trivial ?_).call
 rintro v2 H2' ⟨rfl,rfl⟩
 refine⟨F (sv H.length n),[.cells true w vs],[.cells true w vs],rfl,rfl,fun k b2 hk=>?_, ?_,rfl,rfl⟩
 ·cases k with
  | zero=>cases hk;exact⟨.inl rfl,_,rfl,BBack.cells (LBack.plain hv) rfl⟩
  | succ k=>simp at hk
 ·exact hF2 (qY.slice (i:=H.length) (s:=0) rfl)
theorem run_row {P:Program} {E:Env} {FN:Tr FI} (hF:FnOk P FN) (hE:EOk P E) (hm:P.follows .mixedOrders=true) {d f:Nat} {args:List Value} {vs:List Value} {n w:Nat} {k:Value->Tr EB->Bool} {F:Value->Value} (hv:vs.all (vY 6)=true)
 (hk : ∀ v M,k v M=true->∃ b,v=F (.slice (some ⟨b,0,none⟩) n n)/\M.get (psOf b)=some (.cells w vs)) (hF1 : ∀ {ι a b},VRen ι a b->VRen ι (F a) (F b)) (hF2 : ∀ {ι a b},qY ι a b->qY ι (F a) (F b)) (ha:LRen [] args args)
 (h:(evN FN E d).call 0 f args .e 0 (fun v M _=>k v M)=true) (H:List Blk):qi P f args H (fun v' H' => v' = F (sv H.length n)/\H' = H ++ [.cells true w vs]) :=
 row_of hv hF1 hF2 ha (((evN_ok hF hE hm d).call h hok_nil).mono fun v H h=>by
  obtain ⟨M,m,h1,h2⟩:=h
  obtain ⟨b,rfl,h3⟩:=hk v M h2
  obtain ⟨_,b0,g0,q0⟩:=h1.get b _ h3
  have q0:b0 = .cells true w vs:=q0
  subst q0
  exact⟨b,rfl,by rw[qO];exact g0⟩) H
def isI (zs l:List Int):Bool:=List.rec (motive:=fun _=>List Int->Bool) (fun l=>List.rec true (fun _ _ _=>false) l) (fun x _ ih l=>List.rec false (fun y r _=>ieq x y&&ih r) l) zs l
theorem isI_ok : ∀ {zs l:List Int},isI zs l=true->zs=l
 | [],[],_=>rfl
 | [],_::_,h=>by cases h
 | _::_,[],h=>by cases h
 | x::zs,y::l,h=>by
   have h:(ieq x y&&isI zs l)=true:=h
   simp only[ieq_eq,Bool.and_eq_true,decide_eq_true_eq] at h
   rw[h.1,isI_ok h.2]
end Go.Af
namespace Go.Af.Tryz.W
open Go Go.Proofs Go.Af.Tryz
set_option maxRecDepth 100000
attribute [local irreducible] awp qi qw qH qy
def isR (w n:Nat) (l:List Int) (v:Value) (M:Tr EB):Bool:=match v with
 | .slice (some ⟨b,0,none⟩) n' c=>Nat.beq n' n&&(Nat.beq c n&&match M.get (psOf b) with
   | some (.cells w' vs)=>Nat.beq w' w&&(match intsV vs with | some zs=>isI zs l | none=>false)
   | _=>false)
 | _=>false
theorem isR_ok {w n:Nat} {l:List Int} {v:Value} {M:Tr EB} (h:isR w n l v M=true) : ∃ b,v = .slice (some ⟨b,0,none⟩) n n/\M.get (psOf b)=some (.cells w (ints l)):=by
 unfold isR at h
 split at h
 ·rename_i b n' c
  simp only[Bool.and_eq_true] at h
  obtain ⟨h1,h2,h3⟩:=h
  split at h3
  ·rename_i w' vs hm
   simp only[Bool.and_eq_true] at h3
   obtain ⟨h4,h5⟩:=h3
   split at h5
   ·rename_i zs hz
    rw[Nat.eq_of_beq_eq_true h1,Nat.eq_of_beq_eq_true h2]
    refine⟨b,rfl, ?_⟩
    rw[hm,Nat.eq_of_beq_eq_true h4,intsV_ok hz,isI_ok h5]
   ·cases h5
  ·cases h3
 ·cases h
def isFn (l:List Int) (v:Value) (M:Tr EB):Bool:=match v with | .tuple xs=>(match xs.toList with | [s, .int .i64 z]=>ieq z 0&&isR 1 l.length l s M | _=>false) | _=>false
theorem isFn_ok {l:List Int} {v:Value} {M:Tr EB} (h:isFn l v M=true) : ∃ b,v = .tuple ⟨[.slice (some ⟨b,0,none⟩) l.length l.length, .int .i64 0]⟩/\M.get (psOf b)=some (.cells 1 (ints l)):=by
 unfold isFn at h
 split at h
 ·rename_i xs
  split at h
  ·rename_i s z e
   simp only[ieq_eq,Bool.and_eq_true,decide_eq_true_eq] at h
   obtain ⟨b,e1,e2⟩:=isR_ok h.2
   refine⟨b, ?_,e2⟩
   rw[show xs=⟨xs.toList⟩ from rfl,e,e1,h.1]
  ·cases h
 ·cases h
def tkQ (a b c d:Int):Value := .agg ⟨[.int .i64 a, .int .i64 b, .int .i64 c, .int .i64 d, .slice none 0 0, .slice none 0 0]⟩
theorem ren_tkQ (a b c d:Int):VRen [] (tkQ a b c d) (tkQ a b c d):=VRen.plain rfl
theorem zf (l:List Int):(ints l).all (vY 6)=true:=by
 induction l with
 | nil=>rfl
 | cons x l ih=>rw[show ints (x::l) = .int .i64 x::ints l from rfl,List.all_cons,ih];rfl
theorem run_fin {E:Env} (he:EOk Tryz.prog E) {f:Nat} {a b c d:Int} {args:List Value} {l:List Int} (hp:LRen [] args args) (h:(evN FNt E 100).call 0 f (tkQ a b c d::args) .e 0 (fun v M _=>isFn l v M)=true) (H:List Blk) :
 qi Tryz.prog f (tkQ a b c d::args) H (fun v' H' => v' = .tuple ⟨[sv H.length l.length, .int .i64 0]⟩/\H' = H ++ [.cells true 1 (ints l)]) :=
 run_row fok he mx (F:=fun x=>.tuple ⟨[x, .int .i64 0]⟩) (zf l) (fun _ _ h=>isFn_ok h) (fun h=>VRen.tuple (.cons h (.cons (.int _ _) .nil))) (fun h=>qY.tuple (.cons h (.cons (qY.plain rfl) .nil))) (.cons (ren_tkQ a b c d) hp) h H
def isTq (a b c d:Int) (xs:List Value):Bool:=match xs with
 | [.int .i64 op, .int .i64 pr, .int .i64 ro, .int .i64 pa, .slice none 0 0, .slice none 0 0]=>isI [op,pr,ro,pa] [a,b,c,d]
 | _=>false
theorem isTq_ok {a b c d:Int} {xs:Array Value} (h:isTq a b c d xs.toList=true) : .agg xs=tkQ a b c d:=by
 unfold isTq at h
 split at h
 ·rename_i e
  have:=isI_ok h
  cases this
  rw[show xs=⟨xs.toList⟩ from rfl,e];rfl
 ·cases h
def orE (f g:List Value->(Nat->Option (Nat × List Value))->Nat->Option (Value × List (Bool × Nat × List Value))) (a:List Value) (m:Nat->Option (Nat × List Value)) (n:Nat):Option (Value × List (Bool × Nat × List Value)):=match f a m n with
 | some x=>some x
 | none=>g a m n
theorem orE_ok {k:Nat} {f g:List Value->(Nat->Option (Nat × List Value))->Nat->Option (Value × List (Bool × Nat × List Value))} (hf:OrcOk Tryz.prog k f) (hg:OrcOk Tryz.prog k g):OrcOk Tryz.prog k (orE f g):=by
 intro args mem H v bs hm h
 unfold orE at h
 cases e:f args mem H.length with
 | some x=>rw[e] at h;cases h;exact hf _ _ _ _ _ hm e
 | none=>rw[e] at h;exact hg _ _ _ _ _ hm h
theorem eok_add {E:Env} (he:EOk Tryz.prog E) {k:Nat} {g:List Value->(Nat->Option (Nat × List Value))->Nat->Option (Value × List (Bool × Nat × List Value))} (h:OrcOk Tryz.prog k g):EOk Tryz.prog { E with ors:=(k,g)::E.ors }:=by
 refine⟨he.T,he.eqs,he.mks,he.ms,fun f g' h' => ?_⟩
 rcases List.mem_cons.1 h' with h' | h'
 ·cases h'; exact h
 ·exact he.ors f g' h'
def orcF (a b c d:Int) (l:List Int):List Value->(Nat->Option (Nat × List Value))->Nat->Option (Value × List (Bool × Nat × List Value))
 | [.agg xs, .int .i64 r],_,n=>match isTq a b c d xs.toList&&(ile 0 r&&ilt r b) with
   | true=>some (.tuple ⟨[sv n l.length, .int .i64 0]⟩,[(true,1,ints l)])
   | false=>none
 | _,_,_=>none
def fnC (a b c d:Int) (l:List Int) (r:Nat):Bool:=(evN FNt EE 100).call 0 117 [tkQ a b c d, .int .i64 (r:Int)] .e 0 (fun v M _=>isFn l v M)
theorem orcF_ok {a b c d:Int} {l:List Int} (hr : ∀ r:Nat,(r:Int)<b->fnC a b c d l r=true):OrcOk Tryz.prog 117 (orcF a b c d l):=by
 intro args mem H v bs hm hg
 clear hm
 unfold orcF at hg
 split at hg
 ·rename_i xs r
  split at hg
  ·rename_i h1
   cases hg
   simp only[Bool.and_eq_true,ile_eq,ilt_eq,decide_eq_true_eq] at h1
   rw[isTq_ok h1.1]
   have h:=run_fin eok (.cons (.int _ _) .nil) (hr r.toNat (by omega)) H
   rw[Int.toNat_of_nonneg h1.2.1] at h
   exact h
  ·cases hg
 ·cases hg
theorem fn0:(fnC 1 4 0 2 [0,1] 0&&(fnC 1 4 0 2 [0,1] 1&&(fnC 1 4 0 2 [0,1] 2&&fnC 1 4 0 2 [0,1] 3)))=true:=by kernel_rfl
theorem fn1:(fnC 3 4 0 1 [0] 0&&(fnC 3 4 0 1 [0] 1&&(fnC 3 4 0 1 [0] 2&&fnC 3 4 0 1 [0] 3)))=true:=by kernel_rfl
theorem fn2:(fnC 4 3 0 1 [0] 0&&(fnC 4 3 0 1 [0] 1&&(fnC 4 3 0 1 [0] 2&&true)))=true:=by kernel_rfl
theorem fn3:(fnC 8 4 0 1 [4,5,6,7] 0&&(fnC 8 4 0 1 [4,5,6,7] 1&&(fnC 8 4 0 1 [4,5,6,7] 2&&fnC 8 4 0 1 [4,5,6,7] 3)))=true:=by kernel_rfl
theorem fn_all {f:Nat->Bool} {x:Bool} (h:(f 0&&(f 1&&(f 2&&x)))=true) (h3:x=true->∀ r:Nat,(r:Int)<4->3<=r->f r=true) {r:Nat} (hr:(r:Int)<4):f r=true:=by
 simp only[Bool.and_eq_true] at h
 by_cases h4:3<=r
 ·exact h3 h.2.2.2 r hr h4
 ·obtain rfl | rfl | rfl:r=0\/r=1\/r=2:=by omega
  ·exact h.1
  ·exact h.2.1
  ·exact h.2.2.1
theorem fn_three {f:Nat->Bool} {x:Bool} (h:(f 0&&(f 1&&(f 2&&x)))=true) {r:Nat} (hr:(r:Int)<3):f r=true:=by
 simp only[Bool.and_eq_true] at h
 obtain rfl | rfl | rfl:r=0\/r=1\/r=2:=by omega
 ·exact h.1
 ·exact h.2.1
 ·exact h.2.2.1
theorem at3 {f:Nat->Bool} (h:f 3=true) (r:Nat) (h1:(r:Int)<4) (h2:3<=r):f r=true:=by
 obtain rfl:r=3:=by omega
 exact h
def EE3:Env := { EE2 with ors:=(117,orE (orcF 1 4 0 2 [0,1]) (orE (orcF 3 4 0 1 [0]) (orcF 4 3 0 1 [0])))::EE2.ors }
theorem eok3:EOk Tryz.prog EE3 :=
 eok_add eok2 (orE_ok (orcF_ok fun r hr=>fn_all fn0 at3 hr) (orE_ok (orcF_ok fun r hr=>fn_all fn1 at3 hr) (orcF_ok fun r hr=>fn_three fn2 hr)))
end Go.Af.Tryz.W
namespace Go.Af.Tryz.W
open Go Go.Proofs Go.Af.Tryz
set_option maxRecDepth 100000
attribute [local irreducible] awp qi qw qH qy
def dem0:List Int := [0,0,1,0,0,1,1,1,0,0,2,0,0,1,2,1,0,0,3,0,0,1,3,1]
def dem1:List Int := [1,0,0,0,2,0,0,0,3,0,0,0,0,0,1,0,2,0,1,0,3,0,1,0,0,0,2,0,1,0,2,0,3,0,2,0,0,0,3,0,1,0,3,0,2,0,3,0]
def dem2:List Int := [0,0,1,0,0,0,2,0,1,0,2,0]
theorem dem_run0:(evN FNt EE3 100).call 0 63 [tkQ 1 4 0 2] .e 0 (fun v M _=>isR 4 6 dem0 v M)=true:=by kernel_rfl
theorem dem_run1:(evN FNt EE3 100).call 0 63 [tkQ 3 4 0 1] .e 0 (fun v M _=>isR 4 12 dem1 v M)=true:=by kernel_rfl
theorem dem_run2:(evN FNt EE3 100).call 0 63 [tkQ 4 3 0 1] .e 0 (fun v M _=>isR 4 3 dem2 v M)=true:=by kernel_rfl
theorem l63 {a b c d:Int} {n:Nat} {l:List Int} (h:(evN FNt EE3 100).call 0 63 [tkQ a b c d] .e 0 (fun v M _=>isR 4 n l v M)=true) (H:List Blk):qi Tryz.prog 63 [tkQ a b c d] H (fun v' H' => v' = sv H.length n/\H' = H ++ [.cells true 4 (ints l)]) :=
 run_row fok eok3 mx (F:=fun x=>x) (zf l) (fun _ _ h=>isR_ok h) (fun h=>h) (fun h=>h) (.cons (ren_tkQ a b c d) .nil) h H
def orcM (a b c d:Int) (k:Nat) (l:List Int):List Value->(Nat->Option (Nat × List Value))->Nat->Option (Value × List (Bool × Nat × List Value))
 | [.agg xs],_,n=>match isTq a b c d xs.toList with
   | true=>some (sv n k,[(true,4,ints l)])
   | false=>none
 | _,_,_=>none
theorem orcM_ok {a b c d:Int} {k:Nat} {l:List Int} (h : ∀ H,qi Tryz.prog 63 [tkQ a b c d] H (fun v' H' => v' = sv H.length k/\H' = H ++ [.cells true 4 (ints l)])):OrcOk Tryz.prog 63 (orcM a b c d k l):=by
 intro args mem H v bs hm hg
 clear hm
 unfold orcM at hg
 split at hg
 ·rename_i xs
  split at hg
  ·rename_i h1
   cases hg
   rw[isTq_ok h1]
   exact h H
  ·cases hg
 ·cases hg
end Go.Af.Tryz.W
