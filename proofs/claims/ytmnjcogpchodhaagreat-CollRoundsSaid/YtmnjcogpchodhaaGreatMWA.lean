/-
  The examples of the chapter on schedules hold: the program's function works, computed.
  The examples of the chapter on schedules hold, wherever works is called.
-/
import Derived.Test.YtmnjcogpchodhaaGreatMS2
import Derived.Test.YtmnjcogpchodhaaGreatMF
import Derived.Test.YtmnjcogpchodhaaGreatMB
import Derived.Test.YtmnjcogpchodhaaGreatProg
import Derived.KernelRfl
set_option linter.all false
namespace Go.Af.Tryz.W
open Go Go.Proofs
set_option maxRecDepth 100000
def T:TT := [(3,⟨.int .i64,1,8, .int .i64 0⟩),
 (27,⟨.struct [(0,3),(1,3),(2,3),(3,3),(4,25)],6,80, .agg #[.int .i64 0, .int .i64 0, .int .i64 0, .int .i64 0, .slice none 0 0, .slice none 0 0]⟩),
 (22,⟨.slice 3,1,24, .slice none 0 0⟩),
 (48,⟨.struct [(0,3),(1,3),(2,3),(3,3),(4,3),(5,3)],6,48, .agg #[.int .i64 0, .int .i64 0, .int .i64 0, .int .i64 0, .int .i64 0, .int .i64 0]⟩),
 (30,⟨.slice 48,1,24, .slice none 0 0⟩),
 (83,⟨.int .u64,1,8, .int .u64 0⟩),
 (268,⟨.arr 36 83,36,288, .agg #[.int .u64 0, .int .u64 0, .int .u64 0, .int .u64 0, .int .u64 0, .int .u64 0, .int .u64 0, .int .u64 0, .int .u64 0, .int .u64 0, .int .u64 0, .int .u64 0, .int .u64 0, .int .u64 0, .int .u64 0, .int .u64 0, .int .u64 0, .int .u64 0, .int .u64 0, .int .u64 0, .int .u64 0, .int .u64 0, .int .u64 0, .int .u64 0, .int .u64 0, .int .u64 0, .int .u64 0, .int .u64 0, .int .u64 0, .int .u64 0, .int .u64 0, .int .u64 0, .int .u64 0, .int .u64 0, .int .u64 0, .int .u64 0]⟩),
 (4,⟨.bool,1,1, .bool false⟩),
 (85,⟨.struct [(0,83),(1,2)],2,16, .agg #[.int .u64 0, .int .i64 0]⟩),
 (32,⟨.struct [(0,27),(6,3),(7,30)],8,112, .agg #[.int .i64 0, .int .i64 0, .int .i64 0, .int .i64 0, .slice none 0 0, .slice none 0 0, .int .i64 0, .slice none 0 0]⟩),
 (121,⟨.struct [(0,3),(1,3),(2,22),(3,22),(4,3)],5,72, .agg #[.int .i64 0, .int .i64 0, .slice none 0 0, .slice none 0 0, .int .i64 0]⟩),
 (25,⟨.struct [(0,22),(1,23)],2,48, .agg #[.slice none 0 0, .slice none 0 0]⟩),
 (270,⟨.struct [(0,268),(36,4),(37,4),(38,4),(39,3)],40,304, .agg #[.int .u64 0, .int .u64 0, .int .u64 0, .int .u64 0, .int .u64 0, .int .u64 0, .int .u64 0, .int .u64 0, .int .u64 0, .int .u64 0, .int .u64 0, .int .u64 0, .int .u64 0, .int .u64 0, .int .u64 0, .int .u64 0, .int .u64 0, .int .u64 0, .int .u64 0, .int .u64 0, .int .u64 0, .int .u64 0, .int .u64 0, .int .u64 0, .int .u64 0, .int .u64 0, .int .u64 0, .int .u64 0, .int .u64 0, .int .u64 0, .int .u64 0, .int .u64 0, .int .u64 0, .int .u64 0, .int .u64 0, .int .u64 0, .bool false, .bool false, .bool false, .int .i64 0]⟩),
 (116,⟨.map 3 115,1,8, .map none⟩),
 (105,⟨.struct [(0,3),(1,3)],2,16, .agg #[.int .i64 0, .int .i64 0]⟩),
 (80,⟨.slice 85,1,24, .slice none 0 0⟩),
 (282,⟨.int .u64,1,8, .int .u64 0⟩),
 (119,⟨.slice 121,1,24, .slice none 0 0⟩),
 (33,⟨.int .i64,1,8, .int .i64 0⟩),
 (101,⟨.slice 105,1,24, .slice none 0 0⟩),
 (137,⟨.struct [(0,3),(1,105),(3,3)],4,32, .agg #[.int .i64 0, .int .i64 0, .int .i64 0, .int .i64 0]⟩),
 (272,⟨.struct [(0,4),(1,270)],41,312, .agg #[.bool false, .int .u64 0, .int .u64 0, .int .u64 0, .int .u64 0, .int .u64 0, .int .u64 0, .int .u64 0, .int .u64 0, .int .u64 0, .int .u64 0, .int .u64 0, .int .u64 0, .int .u64 0, .int .u64 0, .int .u64 0, .int .u64 0, .int .u64 0, .int .u64 0, .int .u64 0, .int .u64 0, .int .u64 0, .int .u64 0, .int .u64 0, .int .u64 0, .int .u64 0, .int .u64 0, .int .u64 0, .int .u64 0, .int .u64 0, .int .u64 0, .int .u64 0, .int .u64 0, .int .u64 0, .int .u64 0, .int .u64 0, .int .u64 0, .bool false, .bool false, .bool false, .int .i64 0]⟩),
 (93,⟨.slice 99,1,24, .slice none 0 0⟩),
 (99,⟨.slice 101,1,24, .slice none 0 0⟩),
 (117,⟨.map 3 116,1,8, .map none⟩),
 (143,⟨.struct [(0,140),(1,141),(2,141)],3,24, .agg #[.map none, .map none, .map none]⟩),
 (178,⟨.int .u64,1,8, .int .u64 0⟩),
 (23,⟨.slice 4,1,24, .slice none 0 0⟩),
 (134,⟨.slice 137,1,24, .slice none 0 0⟩),
 (141,⟨.map 3 3,1,8, .map none⟩),
 (146,⟨.struct [(0,3),(1,3)],2,16, .agg #[.int .i64 0, .int .i64 0]⟩),
 (233,⟨.slice 114,1,24, .slice none 0 0⟩),
 (49,⟨.slice 80,1,24, .slice none 0 0⟩),
 (2,⟨.int .i64,1,8, .int .i64 0⟩),
 (5,⟨.int .u8,1,1, .int .u8 0⟩),
 (247,⟨.int .u32,1,4, .int .u32 0⟩),
 (140,⟨.map 146 4,1,8, .map none⟩),
 (191,⟨.arr 2 3,2,16, .agg #[.int .i64 0, .int .i64 0]⟩),
 (217,⟨.map 146 101,1,8, .map none⟩),
 (9,⟨.str,1,16, .string ⟨#[]⟩⟩),
 (175,⟨.func,1,8, .nilFunc⟩),
 (240,⟨.int .i64,1,8, .int .i64 0⟩),
 (131,⟨.map 105 85,1,8, .map none⟩),
 (154,⟨.func,1,8, .nilFunc⟩),
 (227,⟨.func,1,8, .nilFunc⟩),
 (237,⟨.func,1,8, .nilFunc⟩),
 (114,⟨.func,1,8, .nilFunc⟩),
 (163,⟨.func,1,8, .nilFunc⟩),
 (200,⟨.ptr 272,1,8, .pointer none⟩),
 (207,⟨.func,1,8, .nilFunc⟩),
 (115,⟨.func,1,8, .nilFunc⟩)]
theorem ti3:TIOk Tryz.prog 3 ⟨.int .i64,1,8, .int .i64 0⟩:=⟨Tryz.underlying3,by kernel_rfl,rfl⟩
theorem ti27:TIOk Tryz.prog 27 ⟨.struct [(0,3),(1,3),(2,3),(3,3),(4,25)],6,80, .agg #[.int .i64 0, .int .i64 0, .int .i64 0, .int .i64 0, .slice none 0 0, .slice none 0 0]⟩:=⟨⟨_,Tryz.underlying27,rfl⟩,by kernel_rfl,rfl⟩
theorem ti22:TIOk Tryz.prog 22 ⟨.slice 3,1,24, .slice none 0 0⟩:=⟨Tryz.underlying22,by kernel_rfl,rfl⟩
theorem ti48:TIOk Tryz.prog 48 ⟨.struct [(0,3),(1,3),(2,3),(3,3),(4,3),(5,3)],6,48, .agg #[.int .i64 0, .int .i64 0, .int .i64 0, .int .i64 0, .int .i64 0, .int .i64 0]⟩:=⟨⟨_,Tryz.underlying48,rfl⟩,by kernel_rfl,rfl⟩
theorem ti30:TIOk Tryz.prog 30 ⟨.slice 48,1,24, .slice none 0 0⟩:=⟨Tryz.underlying30,by kernel_rfl,rfl⟩
theorem ti83:TIOk Tryz.prog 83 ⟨.int .u64,1,8, .int .u64 0⟩:=⟨Tryz.underlying83,by kernel_rfl,rfl⟩
theorem ti268:TIOk Tryz.prog 268 ⟨.arr 36 83,36,288, .agg #[.int .u64 0, .int .u64 0, .int .u64 0, .int .u64 0, .int .u64 0, .int .u64 0, .int .u64 0, .int .u64 0, .int .u64 0, .int .u64 0, .int .u64 0, .int .u64 0, .int .u64 0, .int .u64 0, .int .u64 0, .int .u64 0, .int .u64 0, .int .u64 0, .int .u64 0, .int .u64 0, .int .u64 0, .int .u64 0, .int .u64 0, .int .u64 0, .int .u64 0, .int .u64 0, .int .u64 0, .int .u64 0, .int .u64 0, .int .u64 0, .int .u64 0, .int .u64 0, .int .u64 0, .int .u64 0, .int .u64 0, .int .u64 0]⟩:=⟨Tryz.underlying268,by kernel_rfl,rfl⟩
theorem ti4:TIOk Tryz.prog 4 ⟨.bool,1,1, .bool false⟩:=⟨Tryz.underlying4,by kernel_rfl,rfl⟩
theorem ti85:TIOk Tryz.prog 85 ⟨.struct [(0,83),(1,2)],2,16, .agg #[.int .u64 0, .int .i64 0]⟩:=⟨⟨_,Tryz.underlying85,rfl⟩,by kernel_rfl,rfl⟩
theorem ti32:TIOk Tryz.prog 32 ⟨.struct [(0,27),(6,3),(7,30)],8,112, .agg #[.int .i64 0, .int .i64 0, .int .i64 0, .int .i64 0, .slice none 0 0, .slice none 0 0, .int .i64 0, .slice none 0 0]⟩:=⟨⟨_,Tryz.underlying32,rfl⟩,by kernel_rfl,rfl⟩
theorem ti121:TIOk Tryz.prog 121 ⟨.struct [(0,3),(1,3),(2,22),(3,22),(4,3)],5,72, .agg #[.int .i64 0, .int .i64 0, .slice none 0 0, .slice none 0 0, .int .i64 0]⟩:=⟨⟨_,Tryz.underlying121,rfl⟩,by kernel_rfl,rfl⟩
theorem ti25:TIOk Tryz.prog 25 ⟨.struct [(0,22),(1,23)],2,48, .agg #[.slice none 0 0, .slice none 0 0]⟩:=⟨⟨_,Tryz.underlying25,rfl⟩,by kernel_rfl,rfl⟩
theorem ti270:TIOk Tryz.prog 270 ⟨.struct [(0,268),(36,4),(37,4),(38,4),(39,3)],40,304, .agg #[.int .u64 0, .int .u64 0, .int .u64 0, .int .u64 0, .int .u64 0, .int .u64 0, .int .u64 0, .int .u64 0, .int .u64 0, .int .u64 0, .int .u64 0, .int .u64 0, .int .u64 0, .int .u64 0, .int .u64 0, .int .u64 0, .int .u64 0, .int .u64 0, .int .u64 0, .int .u64 0, .int .u64 0, .int .u64 0, .int .u64 0, .int .u64 0, .int .u64 0, .int .u64 0, .int .u64 0, .int .u64 0, .int .u64 0, .int .u64 0, .int .u64 0, .int .u64 0, .int .u64 0, .int .u64 0, .int .u64 0, .int .u64 0, .bool false, .bool false, .bool false, .int .i64 0]⟩:=⟨⟨_,Tryz.underlying270,rfl⟩,by kernel_rfl,rfl⟩
theorem ti116:TIOk Tryz.prog 116 ⟨.map 3 115,1,8, .map none⟩:=⟨Tryz.underlying116,by kernel_rfl,rfl⟩
theorem ti105:TIOk Tryz.prog 105 ⟨.struct [(0,3),(1,3)],2,16, .agg #[.int .i64 0, .int .i64 0]⟩:=⟨⟨_,Tryz.underlying105,rfl⟩,by kernel_rfl,rfl⟩
theorem ti80:TIOk Tryz.prog 80 ⟨.slice 85,1,24, .slice none 0 0⟩:=⟨Tryz.underlying80,by kernel_rfl,rfl⟩
theorem ti282:TIOk Tryz.prog 282 ⟨.int .u64,1,8, .int .u64 0⟩:=⟨Tryz.underlying282,by kernel_rfl,rfl⟩
theorem ti119:TIOk Tryz.prog 119 ⟨.slice 121,1,24, .slice none 0 0⟩:=⟨Tryz.underlying119,by kernel_rfl,rfl⟩
theorem ti33:TIOk Tryz.prog 33 ⟨.int .i64,1,8, .int .i64 0⟩:=⟨Tryz.underlying33,by kernel_rfl,rfl⟩
theorem ti101:TIOk Tryz.prog 101 ⟨.slice 105,1,24, .slice none 0 0⟩:=⟨Tryz.underlying101,by kernel_rfl,rfl⟩
theorem ti137:TIOk Tryz.prog 137 ⟨.struct [(0,3),(1,105),(3,3)],4,32, .agg #[.int .i64 0, .int .i64 0, .int .i64 0, .int .i64 0]⟩:=⟨⟨_,Tryz.underlying137,rfl⟩,by kernel_rfl,rfl⟩
theorem ti272:TIOk Tryz.prog 272 ⟨.struct [(0,4),(1,270)],41,312, .agg #[.bool false, .int .u64 0, .int .u64 0, .int .u64 0, .int .u64 0, .int .u64 0, .int .u64 0, .int .u64 0, .int .u64 0, .int .u64 0, .int .u64 0, .int .u64 0, .int .u64 0, .int .u64 0, .int .u64 0, .int .u64 0, .int .u64 0, .int .u64 0, .int .u64 0, .int .u64 0, .int .u64 0, .int .u64 0, .int .u64 0, .int .u64 0, .int .u64 0, .int .u64 0, .int .u64 0, .int .u64 0, .int .u64 0, .int .u64 0, .int .u64 0, .int .u64 0, .int .u64 0, .int .u64 0, .int .u64 0, .int .u64 0, .int .u64 0, .bool false, .bool false, .bool false, .int .i64 0]⟩:=⟨⟨_,Tryz.underlying272,rfl⟩,by kernel_rfl,rfl⟩
theorem ti93:TIOk Tryz.prog 93 ⟨.slice 99,1,24, .slice none 0 0⟩:=⟨Tryz.underlying93,by kernel_rfl,rfl⟩
theorem ti99:TIOk Tryz.prog 99 ⟨.slice 101,1,24, .slice none 0 0⟩:=⟨Tryz.underlying99,by kernel_rfl,rfl⟩
theorem ti117:TIOk Tryz.prog 117 ⟨.map 3 116,1,8, .map none⟩:=⟨Tryz.underlying117,by kernel_rfl,rfl⟩
theorem ti143:TIOk Tryz.prog 143 ⟨.struct [(0,140),(1,141),(2,141)],3,24, .agg #[.map none, .map none, .map none]⟩:=⟨⟨_,Tryz.underlying143,rfl⟩,by kernel_rfl,rfl⟩
theorem ti178:TIOk Tryz.prog 178 ⟨.int .u64,1,8, .int .u64 0⟩:=⟨Tryz.underlying178,by kernel_rfl,rfl⟩
theorem ti23:TIOk Tryz.prog 23 ⟨.slice 4,1,24, .slice none 0 0⟩:=⟨Tryz.underlying23,by kernel_rfl,rfl⟩
theorem ti134:TIOk Tryz.prog 134 ⟨.slice 137,1,24, .slice none 0 0⟩:=⟨Tryz.underlying134,by kernel_rfl,rfl⟩
theorem ti141:TIOk Tryz.prog 141 ⟨.map 3 3,1,8, .map none⟩:=⟨Tryz.underlying141,by kernel_rfl,rfl⟩
theorem ti146:TIOk Tryz.prog 146 ⟨.struct [(0,3),(1,3)],2,16, .agg #[.int .i64 0, .int .i64 0]⟩:=⟨⟨_,Tryz.underlying146,rfl⟩,by kernel_rfl,rfl⟩
theorem ti233:TIOk Tryz.prog 233 ⟨.slice 114,1,24, .slice none 0 0⟩:=⟨Tryz.underlying233,by kernel_rfl,rfl⟩
theorem ti49:TIOk Tryz.prog 49 ⟨.slice 80,1,24, .slice none 0 0⟩:=⟨Tryz.underlying49,by kernel_rfl,rfl⟩
theorem ti2:TIOk Tryz.prog 2 ⟨.int .i64,1,8, .int .i64 0⟩:=⟨Tryz.underlying2,by kernel_rfl,rfl⟩
theorem ti5:TIOk Tryz.prog 5 ⟨.int .u8,1,1, .int .u8 0⟩:=⟨Tryz.underlying5,by kernel_rfl,rfl⟩
theorem ti247:TIOk Tryz.prog 247 ⟨.int .u32,1,4, .int .u32 0⟩:=⟨Tryz.underlying247,by kernel_rfl,rfl⟩
theorem ti140:TIOk Tryz.prog 140 ⟨.map 146 4,1,8, .map none⟩:=⟨Tryz.underlying140,by kernel_rfl,rfl⟩
theorem ti191:TIOk Tryz.prog 191 ⟨.arr 2 3,2,16, .agg #[.int .i64 0, .int .i64 0]⟩:=⟨Tryz.underlying191,by kernel_rfl,rfl⟩
theorem ti217:TIOk Tryz.prog 217 ⟨.map 146 101,1,8, .map none⟩:=⟨Tryz.underlying217,by kernel_rfl,rfl⟩
theorem ti9:TIOk Tryz.prog 9 ⟨.str,1,16, .string ⟨#[]⟩⟩:=⟨Tryz.underlying9,by kernel_rfl,rfl⟩
theorem ti175:TIOk Tryz.prog 175 ⟨.func,1,8, .nilFunc⟩:=⟨⟨_,_,_,Tryz.underlying175⟩,by kernel_rfl,rfl⟩
theorem ti240:TIOk Tryz.prog 240 ⟨.int .i64,1,8, .int .i64 0⟩:=⟨Tryz.underlying240,by kernel_rfl,rfl⟩
theorem ti131:TIOk Tryz.prog 131 ⟨.map 105 85,1,8, .map none⟩:=⟨Tryz.underlying131,by kernel_rfl,rfl⟩
theorem ti154:TIOk Tryz.prog 154 ⟨.func,1,8, .nilFunc⟩:=⟨⟨_,_,_,Tryz.underlying154⟩,by kernel_rfl,rfl⟩
theorem ti227:TIOk Tryz.prog 227 ⟨.func,1,8, .nilFunc⟩:=⟨⟨_,_,_,Tryz.underlying227⟩,by kernel_rfl,rfl⟩
theorem ti237:TIOk Tryz.prog 237 ⟨.func,1,8, .nilFunc⟩:=⟨⟨_,_,_,Tryz.underlying237⟩,by kernel_rfl,rfl⟩
theorem ti114:TIOk Tryz.prog 114 ⟨.func,1,8, .nilFunc⟩:=⟨⟨_,_,_,Tryz.underlying114⟩,by kernel_rfl,rfl⟩
theorem ti163:TIOk Tryz.prog 163 ⟨.func,1,8, .nilFunc⟩:=⟨⟨_,_,_,Tryz.underlying163⟩,by kernel_rfl,rfl⟩
theorem ti200:TIOk Tryz.prog 200 ⟨.ptr 272,1,8, .pointer none⟩:=⟨Tryz.underlying200,by kernel_rfl,rfl⟩
theorem ti207:TIOk Tryz.prog 207 ⟨.func,1,8, .nilFunc⟩:=⟨⟨_,_,_,Tryz.underlying207⟩,by kernel_rfl,rfl⟩
theorem ti115:TIOk Tryz.prog 115 ⟨.func,1,8, .nilFunc⟩:=⟨⟨_,_,_,Tryz.underlying115⟩,by kernel_rfl,rfl⟩
theorem tok:TOk Tryz.prog T:=⟨ti3,ti27,ti22,ti48,ti30,ti83,ti268,ti4,ti85,ti32,ti121,ti25,ti270,ti116,ti105,ti80,ti282,ti119,ti33,ti101,ti137,ti272,ti93,ti99,ti117,ti143,ti178,ti23,ti134,ti141,ti146,ti233,ti49,ti2,ti5,ti247,ti140,ti191,ti217,ti9,ti175,ti240,ti131,ti154,ti227,ti237,ti114,ti163,ti200,ti207,ti115,trivial⟩
theorem mx:Tryz.prog.follows .mixedOrders=true:=by kernel_rfl
def Ms:List (String × List (Nat × Nat)) := []
theorem aggEq48:AggEq Tryz.prog 48 [.i64, .i64, .i64, .i64, .i64, .i64]:=aggEq_struct (by kernel_rfl) (by kernel_rfl) (by kernel_rfl) (zH (by kernel_rfl))
theorem aggEq105:AggEq Tryz.prog 105 [.i64, .i64]:=aggEq_struct (by kernel_rfl) (by kernel_rfl) (by kernel_rfl) (zH (by kernel_rfl))
theorem mkey105:MKey Tryz.prog 105 [.i64, .i64]:=xh (by kernel_rfl) (by kernel_rfl) (by kernel_rfl) (zH (by kernel_rfl))
theorem mkey146:MKey Tryz.prog 146 [.i64, .i64]:=xh (by kernel_rfl) (by kernel_rfl) (by kernel_rfl) (zH (by kernel_rfl))
noncomputable def EE:Env := { T:=T,eqs := [(48,[.i64, .i64, .i64, .i64, .i64, .i64]),(105,[.i64, .i64])],mks := [(105,[.i64, .i64]),(146,[.i64, .i64])],ms:=Ms,ors := [(99,orc99)] }
theorem eok:EOk Tryz.prog EE:=by
 refine⟨tok,fun t ks h=>(by
  simp only[EE,List.mem_cons,List.not_mem_nil,or_false,Prod.mk.injEq] at h
  rcases h with ⟨rfl,rfl⟩ | ⟨rfl,rfl⟩
  ·exact aggEq48
  ·exact aggEq105),fun t ks h=>(by
  simp only[EE,List.mem_cons,List.not_mem_nil,or_false,Prod.mk.injEq] at h
  rcases h with ⟨rfl,rfl⟩ | ⟨rfl,rfl⟩
  ·exact mkey105
  ·exact mkey146),fun name m h t f hm v w=>?_,fun f v h=>(by
  simp only[EE,List.mem_cons,List.not_mem_nil,or_false,Prod.mk.injEq] at h
  rcases h with ⟨rfl,rfl⟩
  ·exact orc99_ok)⟩
 simp[EE,Ms] at h
noncomputable def i15:FI:=fiOf Tryz.f15 [(2, .ord [0,0,2,6,15,31,63,127,127,383,895,1919,4095,8191,16383] [false,false,false,false,false,false,false,false,true,true,true,true,false,false,false] [0,1,2,3,4,5,6,7,8,9,10,11,12,13,14])]
noncomputable def i16:FI:=fiOf Tryz.f16 [(6, .ord [0,1,3,7,0,16,48,127,127,383,1023,2047,4095,8191] [false,false,false,true,true,true,true,false,false,false,false,false,false,false] [0,1,2,4,5,6,3,8,9,7,10,11,12,13]),(9, .ord [0,0,2,7,0,31,0,127] [true,false,false,true,true,true,true,false] [1,2,4,6,0,3,5,7]),(17, .ord [0,1,0,0,8,0,32,0,0,256,0,1792,3840,0,8192,32764,65532,131071,262143,524287] [false,false,true,true,true,true,true,true,true,true,true,true,true,true,true,true,true,false,false,false] [0,1,2,3,4,5,6,7,8,9,10,11,12,13,14,15,16,17,18,19])]
noncomputable def i21:FI:=fiOf Tryz.f21 [(25, .ord [0,0,3,7,0,16,63,127,255,0] [false,false,false,false,true,true,false,false,false,true] [0,1,2,3,4,5,6,7,8,9]),(36, .ord [0,0,0,0,12,28,0,64,192,448,1020,2047,4095] [false,false,false,false,false,false,true,true,true,true,false,false,false] [0,1,2,3,4,5,6,7,8,9,10,11,12])]
noncomputable def i26:FI:=fiOf Tryz.f26 []
noncomputable def i29:FI:=fiOf Tryz.f29 [(14, .ord [0,1,3,7,15,31,63,127,255,511,1023,2047,4095,8191,4095,20479,65535,131071,4095,524287,1048575,2097151,4194303,8388607] [false,false,false,false,false,false,false,false,false,false,false,false,false,false,true,true,false,false,true,false,false,false,false,false] [0,1,2,3,4,5,6,7,8,9,10,11,12,13,14,15,16,17,18,19,20,21,22,23]),(16, .ord [0,1,3,7,15,7,39,127,255,511,7,1031,4095,8191] [false,false,false,false,false,true,true,false,false,false,true,true,false,false] [0,1,2,3,4,5,6,7,8,9,10,11,12,13]),(24, .ev [0,1,0,4,0,16,0,64,0,256,0,1024,783,8191] [0,2,4,6,8,10] [.op 0 [], .op 1 [], .op 2 [], .op 3 [], .op 4 [], .op 5 [], .op 6 [], .op 7 [], .op 8 [], .op 9 [], .op 10 [], .op 11 [], .op 12 [5,7,11], .op 13 []])]
noncomputable def i31:FI:=fiOf Tryz.f31 []
noncomputable def i34:FI:=fiOf Tryz.f34 [(4, .ord [0,1,0,4,15,31,63] [false,true,true,true,false,false,false] [0,2,3,1,4,5,6])]
noncomputable def i41:FI:=fiOf Tryz.f41 [(6, .ord [0,0,2,7,15] [true,false,false,false,false] [1,2,0,3,4])] 2
noncomputable def i45:FI:=fiOf Tryz.f45 []
noncomputable def i46:FI:=fiOf Tryz.f46 []
noncomputable def i53:FI:=fiOf Tryz.f53 [(7, .ord [0,1,0,7,15,0,0,96,224,511] [false,false,true,false,false,true,true,true,true,false] [0,1,2,3,4,5,6,7,8,9])]
noncomputable def i54:FI:=fiOf Tryz.f54 []
noncomputable def i56:FI:=fiOf Tryz.f56 []
noncomputable def i57:FI:=fiOf Tryz.f57 []
noncomputable def i58:FI:=fiOf Tryz.f58 []
noncomputable def i59:FI:=fiOf Tryz.f59 []
noncomputable def i60:FI:=fiOf Tryz.f60 []
noncomputable def i61:FI:=fiOf Tryz.f61 [(1, .ord [0,1,0,4,15,0,32,0,128,480,0,1024,0,4096,15360,0,32768,0,131072,491520,0,1048576,0,4194304,16744448,33554431,67108863,134217727] [false,false,true,true,false,true,true,true,true,true,true,true,true,true,true,true,true,true,true,true,true,true,true,true,true,false,false,false] [0,1,2,3,4,5,6,7,8,9,10,11,12,13,14,15,16,17,18,20,21,22,23,19,24,25,26,27])]
noncomputable def i74:FI:=fiOf Tryz.f74 [(10, .ord [0,1,0,0,0,24,56,0,128,504,1016,2047,4095] [false,false,true,true,true,true,true,true,true,true,true,false,false] [0,1,2,3,4,5,6,7,8,9,10,11,12])]
noncomputable def i75:FI:=fiOf Tryz.f75 []
noncomputable def i76:FI:=fiOf Tryz.f76 []
noncomputable def i77:FI:=fiOf Tryz.f77 [(4, .ev [0,0,2,7,0,0,0,64,255,0,1023,2047] [5,6,7,10] [.op 0 [], .op 1 [], .op 4 [], .op 5 [], .op 6 [], .op 7 [], .res 9, .op 2 [0,4], .op 3 [4], .op 8 [], .op 9 [], .op 10 [], .op 11 []])]
noncomputable def i83:FI:=fiOf Tryz.f83 []
noncomputable def i84:FI:=fiOf Tryz.f84 []
noncomputable def i86:FI:=fiOf Tryz.f86 []
noncomputable def i87:FI:=fiOf Tryz.f87 []
noncomputable def i92:FI:=fiOf Tryz.f92 [(13, .ord [0,0,2,7,15] [false,true,true,false,false] [0,1,2,3,4])]
noncomputable def i96:FI:=fiOf Tryz.f96 []
noncomputable def i97:FI:=fiOf Tryz.f97 []
noncomputable def i98:FI:=fiOf Tryz.f98 []
noncomputable def i102:FI:=fiOf Tryz.f102 [(5, .ord [0,0,0,4,12,0,32,96,252,508,1023,2047] [false,true,true,true,true,true,true,true,true,true,false,false] [0,1,2,3,5,6,7,4,8,9,10,11]),(16, .ord [0,0,2,6,15,31,63,127,63,511,1023,2047,63,4159,63,28735,61503,127039,262143,524287] [false,false,false,false,false,false,false,false,true,false,false,false,true,true,true,true,true,true,false,false] [0,1,2,3,4,5,6,7,8,9,10,11,12,13,14,15,16,17,18,19]),(19, .ord [0,0,2,7,15,0,32,127,255,0,0,1024,3584,7680,0,16384,65024,130560,511,524287] [false,true,true,false,false,true,true,false,false,true,true,true,true,true,true,true,true,true,true,false] [0,1,2,3,4,5,6,7,8,9,10,11,12,13,14,15,16,17,18,19]),(33, .ord [0,0,2,7,15,0,32,0,255,511] [false,true,true,false,false,true,true,true,false,false] [0,1,2,3,4,5,6,7,8,9])]
noncomputable def i108:FI:=fiOf Tryz.f108 []
noncomputable def i109:FI:=fiOf Tryz.f109 []
noncomputable def i110:FI:=fiOf Tryz.f110 [(1, .ord [0,1,0,0,8,31,0,127,255,511,1023] [false,true,true,true,true,true,true,false,false,false,false] [0,2,3,4,6,1,5,7,8,9,10])]
noncomputable def i111:FI:=fiOf Tryz.f111 [(1, .ord [0,0,3,7] [true,false,false,false] [1,0,2,3])]
noncomputable def i112:FI:=fiOf Tryz.f112 []
noncomputable def i113:FI:=fiOf Tryz.f113 [(2, .ord [0,0,2,7,0,0,63,127,255,511] [false,true,true,true,true,true,false,false,false,false] [0,1,2,4,5,3,6,7,8,9])]
noncomputable def i114:FI:=fiOf Tryz.f114 [(2, .ord [0,1,3,0,15,0,32,0,128,511,1023,2047] [false,false,false,true,false,true,true,true,true,false,false,false] [0,1,2,3,4,5,6,7,8,9,10,11]),(3, .ord [0,1,0,4,0,16,63,127,255] [false,false,false,false,true,true,false,false,false] [0,1,2,3,4,5,6,7,8])]
noncomputable def i115:FI:=fiOf Tryz.f115 [(1, .ord [0,0,3,7] [true,false,false,false] [1,0,2,3])]
noncomputable def i116:FI:=fiOf Tryz.f116 [(1, .ord [0,1,0,7,15,31,63] [false,true,true,false,false,false,false] [0,2,1,3,4,5,6])]
noncomputable def i117:FI:=fiOf Tryz.f117 [(23, .ord [0,0,0,6,0,0,0,96,254,0,1022,0,0,0,12288,32766,65534,131070,262143,524287] [false,false,false,true,false,false,false,false,true,false,false,true,true,true,true,false,false,false,false,false] [0,1,2,4,5,6,7,9,11,12,13,14,3,8,10,15,16,17,18,19])]
noncomputable def i118:FI:=fiOf Tryz.f118 [(3, .ord [0,0,3,0,0,31,63,127,255] [false,false,true,true,true,false,false,false,false] [0,1,3,4,2,5,6,7,8])]
noncomputable def i119:FI:=fiOf Tryz.f119 []
noncomputable def i120:FI:=fiOf Tryz.f120 [(1, .ord [0,0,3,7] [true,false,false,false] [1,0,2,3])]
noncomputable def i121:FI:=fiOf Tryz.f121 []
noncomputable def i122:FI:=fiOf Tryz.f122 [(1, .ord [0,0,3,7] [true,false,false,false] [1,0,2,3])]
noncomputable def i123:FI:=fiOf Tryz.f123 []
noncomputable def i124:FI:=fiOf Tryz.f124 []
noncomputable def i125:FI:=fiOf Tryz.f125 []
noncomputable def i126:FI:=fiOf Tryz.f126 [(1, .ord [0,0,3,7] [true,false,false,false] [1,0,2,3])]
noncomputable def i127:FI:=fiOf Tryz.f127 [(1, .ord [0,0,3,7] [true,false,false,false] [1,0,2,3])]
noncomputable def i128:FI:=fiOf Tryz.f128 [(1, .ord [0,0,3,7] [true,false,false,false] [1,0,2,3])]
noncomputable def i129:FI:=fiOf Tryz.f129 [(1, .ord [0,0,3,7] [true,false,false,false] [1,0,2,3])]
noncomputable def i130:FI:=fiOf Tryz.f130 [(4, .ord [0,0,3,0,0,31,0,0,255,511,1023,2047] [false,false,true,false,false,false,true,true,false,false,false,false] [0,1,3,4,6,7,2,5,8,9,10,11])]
noncomputable def i131:FI:=fiOf Tryz.f131 []
noncomputable def i132:FI:=fiOf Tryz.f132 []
noncomputable def i133:FI:=fiOf Tryz.f133 []
noncomputable def i134:FI:=fiOf Tryz.f134 [(1, .ord [0,0,3,7] [true,false,false,false] [1,0,2,3])]
noncomputable def i135:FI:=fiOf Tryz.f135 []
noncomputable def i136:FI:=fiOf Tryz.f136 [(17, .ord [0,1,3,7,7,7,39,119,247,7,7,1543,3591,8191,16383,32767,65535] [false,false,false,false,false,false,false,false,false,true,true,true,true,false,false,false,false] [0,1,2,3,4,5,6,7,8,9,10,11,12,13,14,15,16])]
noncomputable def i137:FI:=fiOf Tryz.f137 []
noncomputable def i138:FI:=fiOf Tryz.f138 []
noncomputable def i139:FI:=fiOf Tryz.f139 []
noncomputable def i154:FI:=fiOf Tryz.f154 [(2, .ord [0,1,3,7,15,31,63,15,143,511,1023,2047] [false,false,false,false,false,false,false,true,true,false,false,false] [0,1,2,3,4,5,6,7,8,9,10,11])]
noncomputable def i155:FI:=fiOf Tryz.f155 [(3, .ord [0,0,0,0,12,30,62,127,255] [false,true,true,true,true,true,true,false,false] [0,1,2,3,4,5,6,7,8])]
noncomputable def i156:FI:=fiOf Tryz.f156 []
noncomputable def i157:FI:=fiOf Tryz.f157 []
noncomputable def i158:FI:=fiOf Tryz.f158 []
noncomputable def i159:FI:=fiOf Tryz.f159 [(1, .ord [0,1,0,0,12,28,63,127] [false,false,true,true,true,true,false,false] [0,1,2,3,4,5,6,7])]
noncomputable def i160:FI:=fiOf Tryz.f160 []
noncomputable def i161:FI:=fiOf Tryz.f161 [(1, .ord [0,0,2,7,0,0,0,64,224,496,1008,2047,4095] [false,false,false,false,true,true,true,true,true,true,true,false,false] [0,1,2,3,4,5,6,7,8,9,10,11,12])]
noncomputable def i162:FI:=fiOf Tryz.f162 []
noncomputable def i163:FI:=fiOf Tryz.f163 []
noncomputable def i166:FI:=fiOf Tryz.f166 []
noncomputable def i167:FI:=fiOf Tryz.f167 [(5, .ev [0,0,0,0,12,0,0,96,31,287,1023] [1,3,6] [.op 0 [], .op 1 [], .op 2 [], .op 3 [], .op 4 [], .op 5 [], .op 6 [], .op 7 [], .op 8 [], .op 9 [5,7], .op 10 []])]
noncomputable def i171:FI:=fiOf Tryz.f171 [(17, .ord [0,1,3,7,7,23,63,127,7,7,775,1799,4095,8191,16383] [false,false,false,false,false,false,false,false,true,true,true,true,false,false,false] [0,1,2,3,4,5,6,7,8,9,10,11,12,13,14])]
noncomputable def i172:FI:=fiOf Tryz.f172 []
noncomputable def i173:FI:=fiOf Tryz.f173 []
noncomputable def i174:FI:=fiOf Tryz.f174 []
noncomputable def i176:FI:=fiOf Tryz.f176 []
noncomputable def i191:FI:=fiOf Tryz.f191 []
noncomputable def i192:FI:=fiOf Tryz.f192 []
noncomputable def i193:FI:=fiOf Tryz.f193 []
noncomputable def i194:FI:=fiOf Tryz.f194 []
noncomputable def i198:FI:=fiOf Tryz.f198 []
noncomputable def i199:FI:=fiOf Tryz.f199 []
noncomputable def i200:FI:=fiOf Tryz.f200 []
noncomputable def i201:FI:=fiOf Tryz.f201 []
noncomputable def i202:FI:=fiOf Tryz.f202 []
noncomputable def i203:FI:=fiOf Tryz.f203 []
noncomputable def i204:FI:=fiOf Tryz.f204 [(5, .ord [0,0,0,6,0,0,0,96,254,0,1022,2046,4094,8191,16383] [false,false,true,true,true,true,true,true,true,true,false,false,false,false,false] [0,1,2,4,5,6,7,9,3,8,10,11,12,13,14])]
noncomputable def i205:FI:=fiOf Tryz.f205 [(0, .ord [0,1,0,4,3,31] [false,false,true,true,true,false] [0,1,2,3,4,5]),(9, .ev [0,0,3,0,0,24,0,0,128,504,1016,0,4095,8191] [0,1,2,4,7,8,12] [.op 0 [], .op 1 [], .op 2 [], .op 3 [], .op 4 [], .op 6 [], .op 7 [], .op 8 [], .res 11, .op 5 [6], .op 9 [], .op 10 [], .op 11 [], .op 12 [], .op 13 []]),(11, .ord [0,0,2,0,14,31,0,0,128,448,0,0,4032,8128,16383,32767] [false,false,false,false,false,false,false,true,true,true,true,true,false,false,false,false] [0,1,2,3,4,5,6,7,8,10,11,9,12,13,14,15])]
noncomputable def i206:FI:=fiOf Tryz.f206 []
noncomputable def i207:FI:=fiOf Tryz.f207 []
noncomputable def i208:FI:=fiOf Tryz.f208 [(1, .ord [0,0,3,0,0,16,63,0,0,0,0,1536,3967,8191,16383,32767] [false,true,true,true,true,true,true,true,true,true,true,true,true,false,false,false] [0,1,3,4,5,7,8,9,10,11,2,6,12,13,14,15])]
noncomputable def i209:FI:=fiOf Tryz.f209 []
noncomputable def i210:FI:=fiOf Tryz.f210 [(1, .ord [0,0,2,7,0,16,63,0,128,511,1023] [false,false,false,false,true,true,false,true,true,false,false] [0,1,2,3,4,5,6,7,8,9,10])]
noncomputable def i211:FI:=fiOf Tryz.f211 []
noncomputable def i212:FI:=fiOf Tryz.f212 []
noncomputable def i213:FI:=fiOf Tryz.f213 [(5, .ord [0,0,0,6,0,0,0,96,254,0,1022,2046,4094,8191,16383] [false,false,true,true,true,true,true,true,true,true,false,false,false,false,false] [0,1,2,4,5,6,7,9,3,8,10,11,12,13,14])]
noncomputable def i214:FI:=fiOf Tryz.f214 []
noncomputable def i215:FI:=fiOf Tryz.f215 []
noncomputable def i216:FI:=fiOf Tryz.f216 []
noncomputable def i217:FI:=fiOf Tryz.f217 []
noncomputable def i218:FI:=fiOf Tryz.f218 [(1, .ord [0,0,0,4,14,0,0,0,0,384,990,2046,4095,8191] [false,false,true,true,true,true,true,true,true,true,true,false,false,false] [0,1,2,3,5,6,7,8,9,4,10,11,12,13])]
noncomputable def i219:FI:=fiOf Tryz.f219 []
noncomputable def i220:FI:=fiOf Tryz.f220 [(1, .ord [0,0,0,4,14,0,0,0,128,0,896,2014,4094,8191,16383] [false,false,true,true,true,true,true,true,true,true,true,true,false,false,false] [0,1,2,3,5,6,7,8,9,10,4,11,12,13,14])]
noncomputable def i221:FI:=fiOf Tryz.f221 []
noncomputable def i222:FI:=fiOf Tryz.f222 [(1, .ord [0,0,0,0,0,16,60,0,0,0,512,2044,0,8191,16383] [false,false,false,true,true,true,true,true,true,true,true,false,true,false,false] [0,1,2,3,4,5,7,8,9,10,12,6,11,13,14])]
noncomputable def i223:FI:=fiOf Tryz.f223 [(8, .ord [0,0,0,0,12,0,0,0,192,508,0,0,4092,0,0,32764,65534,131070,262143,524287] [false,false,true,true,true,true,true,true,true,true,true,true,true,true,true,true,false,false,false,false] [0,1,2,3,5,6,7,8,10,11,13,14,4,9,12,15,16,17,18,19])]
noncomputable def i224:FI:=fiOf Tryz.f224 [(1, .ord [0,0,0,6,0,0,62,126,255,511] [false,true,true,true,true,true,true,true,false,false] [0,1,2,4,5,3,6,7,8,9])]
noncomputable def i225:FI:=fiOf Tryz.f225 [(1, .ord [0,0,0,0,8,28,0,0,0,384,1020,0,0,0,12288,32764,65535,131071] [false,true,true,true,true,true,true,true,true,true,true,true,true,true,true,true,false,false] [0,1,2,3,4,6,7,8,9,11,12,13,14,5,10,15,16,17])]
noncomputable def i226:FI:=fiOf Tryz.f226 []
noncomputable def i227:FI:=fiOf Tryz.f227 [(1, .ord [0,0,0,6,0,30,0,0,192,0,960,0,4032,8191,16383] [false,true,true,true,true,true,true,true,true,true,true,true,true,false,false] [0,1,2,3,4,5,6,7,8,9,10,11,12,13,14])]
noncomputable def i228:FI:=fiOf Tryz.f228 []
noncomputable def i229:FI:=fiOf Tryz.f229 [(5, .ord [0,0,0,0,0,24,60,0,0,0,768,2044,4092,8190,16383,32767] [false,false,true,true,true,true,true,true,true,true,true,true,true,false,false,false] [0,1,2,3,4,5,7,8,9,10,6,11,12,13,14,15])]
noncomputable def i230:FI:=fiOf Tryz.f230 []
noncomputable def i231:FI:=fiOf Tryz.f231 []
noncomputable def i232:FI:=fiOf Tryz.f232 []
noncomputable def i233:FI:=fiOf Tryz.f233 [(8, .ord [0,0,0,0,0,0,0,112,0,0,768,2046,4094,8191,16383] [false,false,true,true,true,true,true,true,true,true,true,false,false,false,false] [0,1,2,3,4,5,6,8,9,10,7,11,12,13,14])]
noncomputable def i234:FI:=fiOf Tryz.f234 []
noncomputable def i235:FI:=fiOf Tryz.f235 []
noncomputable def i236:FI:=fiOf Tryz.f236 []
noncomputable def i237:FI:=fiOf Tryz.f237 [(1, .ord [0,0,0,0,12,30,63,127] [false,true,true,true,true,true,false,false] [0,1,2,3,4,5,6,7])]
noncomputable def i238:FI:=fiOf Tryz.f238 [(1, .ord [0,0,0,0,8,28,0,0,0,384,896,2044,0,0,0,24576,57344,131068,262143,524287] [false,true,true,true,true,true,true,true,true,true,true,true,true,true,true,true,true,true,false,false] [0,1,2,3,4,6,7,8,9,10,12,13,14,15,16,5,11,17,18,19])]
noncomputable def i239:FI:=fiOf Tryz.f239 []
noncomputable def i240:FI:=fiOf Tryz.f240 []
noncomputable def i241:FI:=fiOf Tryz.f241 [(2, .ord [0,0,0,0,0,24,0,120,0,0,768,0,3840,0,16128,32764,0,0,262140,524287,1048575] [false,false,false,true,true,true,true,true,true,true,true,true,true,true,true,false,true,true,false,false,false] [0,1,2,3,4,5,6,7,8,9,10,11,12,13,14,16,17,15,18,19,20])]
noncomputable def i242:FI:=fiOf Tryz.f242 []
noncomputable def i243:FI:=fiOf Tryz.f243 [(1, .ord [0,0,0,0,12,30,0,126,255,511] [false,false,true,true,true,true,true,false,false,false] [0,1,2,3,4,6,5,7,8,9])]
noncomputable def i244:FI:=fiOf Tryz.f244 []
noncomputable def i245:FI:=fiOf Tryz.f245 [(4, .ord [0,0,3,7,15,15,15,111,239,15,15,1039,3599,7695,16383,32767,65535] [false,false,false,false,false,false,false,false,false,true,true,true,true,true,false,false,false] [0,1,2,3,4,5,6,7,8,9,10,11,12,13,14,15,16]),(6, .ord [0,0,0,0,8,0,0,64,224,480,0,0,3072,7168,16355,32739,65535,131071] [false,false,false,false,false,false,false,false,false,false,true,true,true,true,false,false,false,false] [0,1,2,3,4,5,6,7,8,9,10,11,12,13,14,15,16,17])]
noncomputable def i246:FI:=fiOf Tryz.f246 [(10, .ord [0,0,0,0,0,24,0,0,0,384,960,1984,0,0,12288,28672,65475,131011,262143,524287] [false,false,false,false,false,false,false,false,false,false,false,false,true,true,true,true,false,false,false,false] [0,1,2,3,4,5,6,7,8,9,10,11,12,13,14,15,16,17,18,19])]
noncomputable def i247:FI:=fiOf Tryz.f247 [(10, .ord [0,0,0,0,0,24,0,0,0,384,960,1984,0,0,12288,28672,65475,131011,262143,524287] [false,false,false,false,false,false,false,false,false,false,false,false,true,true,true,true,false,false,false,false] [0,1,2,3,4,5,6,7,8,9,10,11,12,13,14,15,16,17,18,19])]
noncomputable def i248:FI:=fiOf Tryz.f248 []
noncomputable def i249:FI:=fiOf Tryz.f249 [(3, .ord [0,0,0,0,0,0,48,112,0,0,768,1792,4083,8179,16383,32767] [false,false,false,false,false,false,false,false,true,true,true,true,false,false,false,false] [0,1,2,3,4,5,6,7,8,9,10,11,12,13,14,15])]
noncomputable def i250:FI:=fiOf Tryz.f250 [(5, .ord [0,0,3,7,15,15,15,111,239,15,15,1039,3599,7695,16383,32767,65535,131071] [false,false,false,false,false,false,false,false,false,true,true,true,true,true,false,false,false,false] [0,1,2,3,4,5,6,7,8,9,10,11,12,13,14,15,16,17]),(11, .ord [0,0,0,0,8,0,0,64,224,480,0,0,3072,7168,16355,32739,65535,131071] [false,false,false,false,false,false,false,false,false,false,true,true,true,true,false,false,false,false] [0,1,2,3,4,5,6,7,8,9,10,11,12,13,14,15,16,17]),(16, .ord [0,0,0,6,14,0,0,64,224,480,1023,2047,4095] [false,false,false,false,false,true,true,true,true,true,false,false,false] [0,1,2,3,4,5,6,7,8,9,10,11,12]),(17, .ord [0,0,0,0,8,0,0,64,224,480,0,0,3072,7168,16355,32739,65535,131071] [false,false,false,false,false,false,false,false,false,false,true,true,true,true,false,false,false,false] [0,1,2,3,4,5,6,7,8,9,10,11,12,13,14,15,16,17]),(22, .ord [0,0,0,6,14,0,0,64,224,480,1023,2047,4095] [false,false,false,false,false,true,true,true,true,true,false,false,false] [0,1,2,3,4,5,6,7,8,9,10,11,12]),(23, .ord [0,0,0,0,8,0,0,64,224,480,0,0,3072,7168,16355,32739,65535,131071] [false,false,false,false,false,false,false,false,false,false,true,true,true,true,false,false,false,false] [0,1,2,3,4,5,6,7,8,9,10,11,12,13,14,15,16,17])]
noncomputable def i251:FI:=fiOf Tryz.f251 [(1, .ord [0,0,0,0,0,0,48,112,0,0,768,1792,4083,8179,16383,32767] [false,false,false,false,false,false,false,false,true,true,true,true,false,false,false,false] [0,1,2,3,4,5,6,7,8,9,10,11,12,13,14,15]),(3, .ord [0,0,3,7,15,15,15,111,239,15,15,1551,3599,8191,16383,32767,65535] [false,false,false,false,false,false,false,false,false,true,true,true,true,false,false,false,false] [0,1,2,3,4,5,6,7,8,9,10,11,12,13,14,15,16]),(5, .ord [0,0,3,7,15,15,15,111,239,15,15,1551,3599,8191,16383,32767] [false,false,false,false,false,false,false,false,false,true,true,true,true,false,false,false] [0,1,2,3,4,5,6,7,8,9,10,11,12,13,14,15]),(8, .ord [0,0,0,0,0,0,48,112,0,0,768,1792,4083,8179,16383,32767] [false,false,false,false,false,false,false,false,true,true,true,true,false,false,false,false] [0,1,2,3,4,5,6,7,8,9,10,11,12,13,14,15])]
noncomputable def i252:FI:=fiOf Tryz.f252 [(1, .ord [0,0,0,0,0,0,48,112,0,0,768,1792,4083,8179,16383,32767] [false,false,false,false,false,false,false,false,true,true,true,true,false,false,false,false] [0,1,2,3,4,5,6,7,8,9,10,11,12,13,14,15]),(3, .ord [0,0,3,7,15,15,15,111,239,15,15,1551,3599,8191,16383,32767] [false,false,false,false,false,false,false,false,false,true,true,true,true,false,false,false] [0,1,2,3,4,5,6,7,8,9,10,11,12,13,14,15]),(5, .ord [0,0,3,7,15,15,15,111,239,15,15,1551,3599,8191,16383,32767,65535] [false,false,false,false,false,false,false,false,false,true,true,true,true,false,false,false,false] [0,1,2,3,4,5,6,7,8,9,10,11,12,13,14,15,16]),(8, .ord [0,0,0,0,0,0,48,112,0,0,768,1792,4083,8179,16383,32767] [false,false,false,false,false,false,false,false,true,true,true,true,false,false,false,false] [0,1,2,3,4,5,6,7,8,9,10,11,12,13,14,15]),(10, .ord [0,0,0,0,0,0,48,112,0,0,768,1792,4083,8179,16383,32767] [false,false,false,false,false,false,false,false,true,true,true,true,false,false,false,false] [0,1,2,3,4,5,6,7,8,9,10,11,12,13,14,15]),(13, .ord [0,0,3,7,15,15,15,111,239,15,15,1551,3599,8191,16383,32767] [false,false,false,false,false,false,false,false,false,true,true,true,true,false,false,false] [0,1,2,3,4,5,6,7,8,9,10,11,12,13,14,15]),(15, .ord [0,0,3,7,15,15,15,111,239,15,15,1551,3599,8191,16383,32767,65535] [false,false,false,false,false,false,false,false,false,true,true,true,true,false,false,false,false] [0,1,2,3,4,5,6,7,8,9,10,11,12,13,14,15,16]),(18, .ord [0,0,0,0,0,0,48,112,0,0,768,1792,4083,8179,16383,32767] [false,false,false,false,false,false,false,false,true,true,true,true,false,false,false,false] [0,1,2,3,4,5,6,7,8,9,10,11,12,13,14,15]),(21, .ord [0,0,0,0,0,0,48,112,0,0,768,1792,4083,8179,16383,32767] [false,false,false,false,false,false,false,false,true,true,true,true,false,false,false,false] [0,1,2,3,4,5,6,7,8,9,10,11,12,13,14,15])]
noncomputable def i253:FI:=fiOf Tryz.f253 []
noncomputable def i254:FI:=fiOf Tryz.f254 []
noncomputable def i255:FI:=fiOf Tryz.f255 []
noncomputable def i261:FI:=fiOf Tryz.f261 []
noncomputable def i262:FI:=fiOf Tryz.f262 []
noncomputable def i265:FI:=fiOf Tryz.f265 [(4, .ord [0,0,3,7,15,15,63,127,15,15,527,1807,3855,8191,16383] [false,false,false,false,false,false,false,false,true,true,true,true,true,false,false] [0,1,2,3,4,5,6,7,8,9,10,11,12,13,14]),(6, .ord [0,0,0,0,8,0,0,64,224,480,0,0,3072,7168,16355,32739,65535,131071] [false,false,false,false,false,false,false,false,false,false,true,true,true,true,false,false,false,false] [0,1,2,3,4,5,6,7,8,9,10,11,12,13,14,15,16,17])]
noncomputable def i266:FI:=fiOf Tryz.f266 [(10, .ord [0,0,0,0,0,24,0,0,0,384,960,1984,0,0,12288,28672,65475,131011,262143,524287] [false,false,false,false,false,false,false,false,false,false,false,false,true,true,true,true,false,false,false,false] [0,1,2,3,4,5,6,7,8,9,10,11,12,13,14,15,16,17,18,19])]
noncomputable def i267:FI:=fiOf Tryz.f267 [(10, .ord [0,0,0,0,0,24,0,0,0,384,960,1984,0,0,12288,28672,65475,131011,262143,524287] [false,false,false,false,false,false,false,false,false,false,false,false,true,true,true,true,false,false,false,false] [0,1,2,3,4,5,6,7,8,9,10,11,12,13,14,15,16,17,18,19])]
noncomputable def i268:FI:=fiOf Tryz.f268 []
noncomputable def i269:FI:=fiOf Tryz.f269 [(3, .ord [0,0,0,0,0,0,48,112,0,0,768,1792,4083,8179,16383,32767] [false,false,false,false,false,false,false,false,true,true,true,true,false,false,false,false] [0,1,2,3,4,5,6,7,8,9,10,11,12,13,14,15])]
noncomputable def i270:FI:=fiOf Tryz.f270 [(5, .ord [0,0,3,7,15,15,63,127,15,15,527,1807,3855,8191,16383,32767] [false,false,false,false,false,false,false,false,true,true,true,true,true,false,false,false] [0,1,2,3,4,5,6,7,8,9,10,11,12,13,14,15]),(11, .ord [0,0,0,0,8,0,0,64,224,480,0,0,3072,7168,16355,32739,65535,131071] [false,false,false,false,false,false,false,false,false,false,true,true,true,true,false,false,false,false] [0,1,2,3,4,5,6,7,8,9,10,11,12,13,14,15,16,17]),(16, .ord [0,0,3,7,0,0,32,112,240,511,1023] [false,false,false,false,true,true,true,true,true,false,false] [0,1,2,3,4,5,6,7,8,9,10]),(17, .ord [0,0,0,0,8,0,0,64,224,480,0,0,3072,7168,16355,32739,65535,131071] [false,false,false,false,false,false,false,false,false,false,true,true,true,true,false,false,false,false] [0,1,2,3,4,5,6,7,8,9,10,11,12,13,14,15,16,17]),(22, .ord [0,0,3,7,0,0,32,112,240,511,1023] [false,false,false,false,true,true,true,true,true,false,false] [0,1,2,3,4,5,6,7,8,9,10]),(23, .ord [0,0,0,0,8,0,0,64,224,480,0,0,3072,7168,16355,32739,65535,131071] [false,false,false,false,false,false,false,false,false,false,true,true,true,true,false,false,false,false] [0,1,2,3,4,5,6,7,8,9,10,11,12,13,14,15,16,17])]
noncomputable def i271:FI:=fiOf Tryz.f271 []
noncomputable def i272:FI:=fiOf Tryz.f272 [(1, .ord [0,0,0,0,0,0,48,112,0,0,768,1792,4083,8179,16383,32767] [false,false,false,false,false,false,false,false,true,true,true,true,false,false,false,false] [0,1,2,3,4,5,6,7,8,9,10,11,12,13,14,15]),(3, .ord [0,0,3,7,15,15,63,127,15,15,783,1807,4095,8191,16383] [false,false,false,false,false,false,false,false,true,true,true,true,false,false,false] [0,1,2,3,4,5,6,7,8,9,10,11,12,13,14]),(5, .ord [0,0,3,7,15,15,63,127,15,15,783,1807,4095,8191] [false,false,false,false,false,false,false,false,true,true,true,true,false,false] [0,1,2,3,4,5,6,7,8,9,10,11,12,13]),(8, .ord [0,0,0,0,0,0,48,112,0,0,768,1792,4083,8179,16383,32767] [false,false,false,false,false,false,false,false,true,true,true,true,false,false,false,false] [0,1,2,3,4,5,6,7,8,9,10,11,12,13,14,15])]
noncomputable def i273:FI:=fiOf Tryz.f273 [(1, .ord [0,0,0,0,0,0,48,112,0,0,768,1792,4083,8179,16383,32767] [false,false,false,false,false,false,false,false,true,true,true,true,false,false,false,false] [0,1,2,3,4,5,6,7,8,9,10,11,12,13,14,15]),(3, .ord [0,0,3,7,15,15,63,127,15,15,783,1807,4095,8191] [false,false,false,false,false,false,false,false,true,true,true,true,false,false] [0,1,2,3,4,5,6,7,8,9,10,11,12,13]),(5, .ord [0,0,3,7,15,15,63,127,15,15,783,1807,4095,8191,16383] [false,false,false,false,false,false,false,false,true,true,true,true,false,false,false] [0,1,2,3,4,5,6,7,8,9,10,11,12,13,14]),(8, .ord [0,0,0,0,0,0,48,112,0,0,768,1792,4083,8179,16383,32767] [false,false,false,false,false,false,false,false,true,true,true,true,false,false,false,false] [0,1,2,3,4,5,6,7,8,9,10,11,12,13,14,15]),(10, .ord [0,0,0,0,0,0,48,112,0,0,768,1792,4083,8179,16383,32767] [false,false,false,false,false,false,false,false,true,true,true,true,false,false,false,false] [0,1,2,3,4,5,6,7,8,9,10,11,12,13,14,15]),(13, .ord [0,0,3,7,15,15,63,127,15,15,783,1807,4095,8191] [false,false,false,false,false,false,false,false,true,true,true,true,false,false] [0,1,2,3,4,5,6,7,8,9,10,11,12,13]),(15, .ord [0,0,3,7,15,15,63,127,15,15,783,1807,4095,8191,16383] [false,false,false,false,false,false,false,false,true,true,true,true,false,false,false] [0,1,2,3,4,5,6,7,8,9,10,11,12,13,14]),(18, .ord [0,0,0,0,0,0,48,112,0,0,768,1792,4083,8179,16383,32767] [false,false,false,false,false,false,false,false,true,true,true,true,false,false,false,false] [0,1,2,3,4,5,6,7,8,9,10,11,12,13,14,15]),(21, .ord [0,0,0,0,0,0,48,112,0,0,768,1792,4083,8179,16383,32767] [false,false,false,false,false,false,false,false,true,true,true,true,false,false,false,false] [0,1,2,3,4,5,6,7,8,9,10,11,12,13,14,15])]
noncomputable def i274:FI:=fiOf Tryz.f274 []
noncomputable def i275:FI:=fiOf Tryz.f275 [(1, .ev [0,1,3,7,15,0,32,127,0,511] [0,1,2,3,5] [.op 0 [], .op 1 [], .op 2 [], .op 3 [], .op 4 [], .op 5 [], .op 6 [], .res 8, .op 7 [], .op 8 [], .op 9 []]),(4, .ord [0,0,0,4,12,28,60,124,252,508,1020,0,2048,6144,14336,30720,63740,129276,260348,522492,0,1048576,3145728,7340032,15728640,32635132,66189564,133298428,267516156,0,536870912,1610612736,3758096384,8053063680,0,17179869184,68182605824,137438953470,274877906943,549755813887,1099511627775] [false,false,true,true,true,true,true,true,true,true,true,true,true,true,true,true,true,true,true,true,true,true,true,true,true,true,true,true,true,true,true,true,true,true,true,true,true,false,false,false,false] [0,1,2,3,4,5,6,7,8,9,10,11,12,13,14,15,16,17,18,19,20,21,22,23,24,25,26,27,28,29,30,31,32,33,34,35,36,37,38,39,40])]
noncomputable def i276:FI:=fiOf Tryz.f276 []
noncomputable def i277:FI:=fiOf Tryz.f277 []
noncomputable def i278:FI:=fiOf Tryz.f278 []
noncomputable def i279:FI:=fiOf Tryz.f279 []
noncomputable def i280:FI:=fiOf Tryz.f280 []
noncomputable def i286:FI:=fiOf Tryz.f286 []
noncomputable def i289:FI:=fiOf Tryz.f289 [(6, .ord [0,0,3,0,0,31,63,127] [false,true,true,true,true,false,false,false] [0,1,3,4,2,5,6,7]),(9, .ord [0,0,3,0,0,31,63,127] [false,true,true,true,true,false,false,false] [0,1,3,4,2,5,6,7])]
noncomputable def i290:FI:=fiOf Tryz.f290 []
noncomputable def i291:FI:=fiOf Tryz.f291 [] 2
noncomputable def i292:FI:=fiOf Tryz.f292 []
noncomputable def i293:FI:=fiOf Tryz.f293 []
noncomputable def i294:FI:=fiOf Tryz.f294 []
noncomputable def i295:FI:=fiOf Tryz.f295 [(13, .ord [0,0,0,6,0,0,0,96,254,0,0,2046,4094,8190,16383,32767] [false,false,true,true,true,true,true,true,true,true,true,false,false,false,false,false] [0,1,2,4,5,6,7,9,10,3,8,11,12,13,14,15])]
noncomputable def i296:FI:=fiOf Tryz.f296 []
noncomputable def i297:FI:=fiOf Tryz.f297 []
noncomputable def i298:FI:=fiOf Tryz.f298 []
noncomputable def i299:FI:=fiOf Tryz.f299 []
noncomputable def i300:FI:=fiOf Tryz.f300 [(3, .ord [0,1,0,7,15,31,31,31,31,415,991,2015,31,31,31,24607,57375,127007,258079,524287,1048575,2097151] [false,false,false,false,false,false,false,false,false,false,false,false,true,true,true,true,true,true,true,false,false,false] [0,1,2,3,4,5,6,7,8,9,10,11,12,13,14,15,16,17,18,19,20,21]),(5, .ord [0,0,0,0,12,30,62,0,0,0,768,1920,3968,8191,16383,32767] [false,false,false,false,false,false,false,true,true,true,true,true,true,false,false,false] [0,1,2,3,4,5,6,7,8,9,10,11,12,13,14,15]),(6, .ord [0,0,0,6,0,0,0,96,0,0,0,1536,3840,7936,0,0,0,98304,245760,507904,1048335,2096911,4194303,8388607] [false,false,false,false,false,false,false,false,false,false,false,false,false,false,true,true,true,true,true,true,false,false,false,false] [0,1,2,3,4,5,6,7,8,9,10,11,12,13,14,15,16,17,18,19,20,21,22,23])]
noncomputable def i301:FI:=fiOf Tryz.f301 []
noncomputable def i302:FI:=fiOf Tryz.f302 [(1, .ord [0,1,3,0,8,24,56,127,255,511] [false,false,false,true,true,true,true,false,false,false] [0,1,2,3,4,5,6,7,8,9]),(2, .ord [0,1,3,0,8,24,56,127,255,511] [false,false,false,true,true,true,true,false,false,false] [0,1,2,3,4,5,6,7,8,9]),(3, .ord [0,1,3,0,8,24,56,127,255,511] [false,false,false,true,true,true,true,false,false,false] [0,1,2,3,4,5,6,7,8,9])]
noncomputable def i303:FI:=fiOf Tryz.f303 []
noncomputable def i304:FI:=fiOf Tryz.f304 []
noncomputable def i311:FI:=fiOf Tryz.f311 []
noncomputable def i314:FI:=fiOf Tryz.f314 [(3, .ord [0,1,0,7,15,31,31,31,223,511,1023,31,31,31,12319,28703,63519,129055,262143,524287] [false,false,false,false,false,false,false,false,false,false,false,true,true,true,true,true,true,true,false,false] [0,1,2,3,4,5,6,7,8,9,10,11,12,13,14,15,16,17,18,19]),(5, .ord [0,0,0,6,15,31,0,0,0,384,960,1984,4095,8191] [false,false,false,false,false,false,true,true,true,true,true,true,false,false] [0,1,2,3,4,5,6,7,8,9,10,11,12,13]),(6, .ord [0,0,0,6,0,0,0,96,0,0,0,1536,3840,7936,0,0,0,98304,245760,507904,1048335,2096911,4194303,8388607] [false,false,false,false,false,false,false,false,false,false,false,false,false,false,true,true,true,true,true,true,false,false,false,false] [0,1,2,3,4,5,6,7,8,9,10,11,12,13,14,15,16,17,18,19,20,21,22,23])]
noncomputable def i315:FI:=fiOf Tryz.f315 []
noncomputable def i316:FI:=fiOf Tryz.f316 []
noncomputable def i317:FI:=fiOf Tryz.f317 [(5, .ord [0,0,2,6,0,16,48,0,254,510,1022,1022,2047,6143,16383] [false,false,false,false,true,true,true,true,false,false,false,false,false,false,false] [0,1,2,3,4,5,6,7,8,9,10,11,12,13,14])]
noncomputable def i318:FI:=fiOf Tryz.f318 []
noncomputable def i319:FI:=fiOf Tryz.f319 []
noncomputable def i320:FI:=fiOf Tryz.f320 []
noncomputable def i321:FI:=fiOf Tryz.f321 [(11, .ord [0,1,3,0,8,24,56,127,255,511] [false,false,false,true,true,true,true,false,false,false] [0,1,2,3,4,5,6,7,8,9]),(19, .ord [0,1,3,0,8,24,63,127] [false,false,false,true,true,true,false,false] [0,1,2,3,4,5,6,7]),(21, .ord [0,1,3,0,8,24,63,127] [false,false,false,true,true,true,false,false] [0,1,2,3,4,5,6,7])]
noncomputable def i325:FI:=fiOf Tryz.f325 []
noncomputable def i326:FI:=fiOf Tryz.f326 []
noncomputable def i327:FI:=fiOf Tryz.f327 [(1, .ord [0,0,0,6,14,0,0,96,224,511,1023] [false,false,false,false,false,true,true,true,true,false,false] [0,1,2,3,4,5,6,7,8,9,10])]
noncomputable def i334:FI:=fiOf Tryz.f334 [(1, .ord [0,0,3,7,0,0,48,112,255] [false,false,false,false,true,true,true,true,false] [0,1,2,3,4,5,6,7,8])]
noncomputable def FNt:Tr FI:=(.n (.n (.n (.n (.n (.n (.n (.n (.n .e (some i255) .e) (some i127) .e) none (.n (.n .e (some i319) .e) (some i191) .e)) (some i31) (.n (.n .e (some i159) .e) none (.n .e (some i223) .e))) (some i15) (.n (.n (.n (.n .e (some i271) .e) none .e) none (.n .e (some i207) .e)) none (.n (.n (.n .e (some i303) .e) none .e) (some i111) (.n .e (some i239) .e)))) none (.n (.n (.n (.n .e (some i135) .e) none (.n (.n .e (some i327) .e) (some i199) .e)) none (.n (.n (.n .e (some i295) .e) (some i167) .e) none (.n .e (some i231) .e))) none (.n (.n (.n (.n .e (some i279) .e) none .e) (some i87) (.n .e (some i215) .e)) none (.n (.n (.n .e (some i311) .e) none .e) (some i119) (.n .e (some i247) .e))))) none (.n (.n (.n (.n (.n .e (some i131) .e) none .e) none (.n (.n (.n .e (some i291) .e) (some i163) .e) none (.n .e (some i227) .e))) none (.n (.n (.n (.n .e (some i275) .e) none .e) (some i83) (.n .e (some i211) .e)) none (.n .e (some i115) (.n .e (some i243) .e)))) none (.n (.n (.n (.n (.n .e (some i267) .e) (some i139) .e) (some i75) (.n .e (some i203) .e)) none (.n (.n (.n .e (some i299) .e) (some i171) .e) none (.n .e (some i235) .e))) none (.n (.n (.n .e (some i155) .e) none (.n .e (some i219) .e)) (some i59) (.n (.n (.n .e (some i315) .e) none .e) (some i123) (.n .e (some i251) .e)))))) none (.n (.n (.n (.n (.n (.n .e (some i129) .e) none (.n (.n .e (some i321) .e) (some i193) .e)) none (.n (.n (.n .e (some i289) .e) (some i161) .e) (some i97) (.n .e (some i225) .e))) none (.n (.n (.n (.n .e (some i273) .e) none .e) none (.n .e (some i209) .e)) none (.n .e (some i113) (.n .e (some i241) .e)))) none (.n (.n (.n (.n (.n .e (some i265) .e) (some i137) .e) none (.n .e (some i201) .e)) (some i41) (.n (.n (.n .e (some i297) .e) none .e) none (.n .e (some i233) .e))) none (.n (.n .e none (.n .e (some i217) .e)) (some i57) (.n .e (some i121) (.n .e (some i249) .e))))) none (.n (.n (.n (.n (.n (.n .e (some i261) .e) (some i133) .e) none (.n (.n .e (some i325) .e) none .e)) none (.n (.n (.n .e (some i293) .e) none .e) none (.n .e (some i229) .e))) (some i21) (.n (.n (.n (.n .e (some i277) .e) none .e) none (.n .e (some i213) .e)) (some i53) (.n .e (some i117) (.n .e (some i245) .e)))) none (.n (.n (.n (.n (.n .e (some i269) .e) none .e) (some i77) (.n .e (some i205) .e)) (some i45) (.n (.n (.n .e (some i301) .e) (some i173) .e) (some i109) (.n .e (some i237) .e))) (some i29) (.n (.n (.n .e (some i157) .e) none (.n .e (some i221) .e)) (some i61) (.n (.n (.n .e (some i317) .e) none .e) (some i125) (.n .e (some i253) .e))))))) none (.n (.n (.n (.n (.n (.n (.n .e (some i128) .e) none (.n (.n .e (some i320) .e) (some i192) .e)) none (.n (.n .e (some i160) .e) (some i96) (.n .e (some i224) .e))) (some i16) (.n (.n (.n (.n .e (some i272) .e) none .e) none (.n .e (some i208) .e)) none (.n (.n (.n .e (some i304) .e) (some i176) .e) (some i112) (.n .e (some i240) .e)))) none (.n (.n (.n (.n .e (some i136) .e) none (.n .e (some i200) .e)) none (.n (.n (.n .e (some i296) .e) none .e) none (.n .e (some i232) .e))) none (.n (.n (.n (.n .e (some i280) .e) none .e) none (.n .e (some i216) .e)) (some i56) (.n .e (some i120) (.n .e (some i248) .e))))) none (.n (.n (.n (.n (.n .e (some i132) .e) none .e) none (.n (.n (.n .e (some i292) .e) none .e) none (.n .e (some i228) .e))) none (.n (.n (.n (.n .e (some i276) .e) none .e) (some i84) (.n .e (some i212) .e)) none (.n .e (some i116) (.n .e (some i244) .e)))) none (.n (.n (.n (.n (.n .e (some i268) .e) none .e) (some i76) (.n .e (some i204) .e)) none (.n (.n (.n .e (some i300) .e) (some i172) .e) (some i108) (.n .e (some i236) .e))) none (.n (.n (.n .e (some i156) .e) (some i92) (.n .e (some i220) .e)) (some i60) (.n (.n (.n .e (some i316) .e) none .e) (some i124) (.n .e (some i252) .e)))))) none (.n (.n (.n (.n (.n (.n .e (some i130) .e) none (.n .e (some i194) .e)) (some i34) (.n (.n (.n .e (some i290) .e) (some i162) .e) (some i98) (.n .e (some i226) .e))) none (.n (.n (.n (.n .e (some i274) .e) none .e) none (.n .e (some i210) .e)) none (.n .e (some i114) (.n .e (some i242) .e)))) none (.n (.n (.n (.n (.n .e (some i266) .e) (some i138) .e) (some i74) (.n .e (some i202) .e)) none (.n (.n (.n .e (some i298) .e) none .e) none (.n .e (some i234) .e))) (some i26) (.n (.n (.n .e (some i154) .e) none (.n .e (some i218) .e)) (some i58) (.n (.n (.n .e (some i314) .e) none .e) (some i122) (.n .e (some i250) .e))))) none (.n (.n (.n (.n (.n (.n .e (some i262) .e) (some i134) .e) none (.n (.n .e (some i326) .e) (some i198) .e)) none (.n (.n (.n .e (some i294) .e) (some i166) .e) (some i102) (.n .e (some i230) .e))) none (.n (.n (.n (.n .e (some i278) .e) none .e) (some i86) (.n .e (some i214) .e)) (some i54) (.n .e (some i118) (.n .e (some i246) .e)))) none (.n (.n (.n (.n (.n .e (some i270) .e) none .e) none (.n (.n .e (some i334) .e) (some i206) .e)) (some i46) (.n (.n (.n .e (some i302) .e) (some i174) .e) (some i110) (.n .e (some i238) .e))) none (.n (.n (.n (.n .e (some i286) .e) (some i158) .e) none (.n .e (some i222) .e)) none (.n (.n (.n .e (some i318) .e) none .e) (some i126) (.n .e (some i254) .e))))))))
theorem o15:FOk Tryz.prog 15 i15:=⟨Tryz.call15,Tryz.f15,Tryz.func15,rfl,rfl,rfl⟩
theorem o16:FOk Tryz.prog 16 i16:=⟨Tryz.call16,Tryz.f16,Tryz.func16,rfl,rfl,rfl⟩
theorem o21:FOk Tryz.prog 21 i21:=⟨Tryz.call21,Tryz.f21,Tryz.func21,rfl,rfl,rfl⟩
theorem o26:FOk Tryz.prog 26 i26:=⟨Tryz.call26,Tryz.f26,Tryz.func26,rfl,rfl,rfl⟩
theorem o29:FOk Tryz.prog 29 i29:=⟨Tryz.call29,Tryz.f29,Tryz.func29,rfl,rfl,rfl⟩
theorem o31:FOk Tryz.prog 31 i31:=⟨Tryz.call31,Tryz.f31,Tryz.func31,rfl,rfl,rfl⟩
theorem o34:FOk Tryz.prog 34 i34:=⟨Tryz.call34,Tryz.f34,Tryz.func34,rfl,rfl,rfl⟩
theorem o41:FOk Tryz.prog 41 i41:=⟨Tryz.call41,Tryz.f41,Tryz.func41,rfl,rfl,rfl⟩
theorem o45:FOk Tryz.prog 45 i45:=⟨Tryz.call45,Tryz.f45,Tryz.func45,rfl,rfl,rfl⟩
theorem o46:FOk Tryz.prog 46 i46:=⟨Tryz.call46,Tryz.f46,Tryz.func46,rfl,rfl,rfl⟩
theorem o53:FOk Tryz.prog 53 i53:=⟨Tryz.call53,Tryz.f53,Tryz.func53,rfl,rfl,rfl⟩
theorem o54:FOk Tryz.prog 54 i54:=⟨Tryz.call54,Tryz.f54,Tryz.func54,rfl,rfl,rfl⟩
theorem o56:FOk Tryz.prog 56 i56:=⟨Tryz.call56,Tryz.f56,Tryz.func56,rfl,rfl,rfl⟩
theorem o57:FOk Tryz.prog 57 i57:=⟨Tryz.call57,Tryz.f57,Tryz.func57,rfl,rfl,rfl⟩
theorem o58:FOk Tryz.prog 58 i58:=⟨Tryz.call58,Tryz.f58,Tryz.func58,rfl,rfl,rfl⟩
theorem o59:FOk Tryz.prog 59 i59:=⟨Tryz.call59,Tryz.f59,Tryz.func59,rfl,rfl,rfl⟩
theorem o60:FOk Tryz.prog 60 i60:=⟨Tryz.call60,Tryz.f60,Tryz.func60,rfl,rfl,rfl⟩
theorem o61:FOk Tryz.prog 61 i61:=⟨Tryz.call61,Tryz.f61,Tryz.func61,rfl,rfl,rfl⟩
theorem o74:FOk Tryz.prog 74 i74:=⟨Tryz.call74,Tryz.f74,Tryz.func74,rfl,rfl,rfl⟩
theorem o75:FOk Tryz.prog 75 i75:=⟨Tryz.call75,Tryz.f75,Tryz.func75,rfl,rfl,rfl⟩
theorem o76:FOk Tryz.prog 76 i76:=⟨Tryz.call76,Tryz.f76,Tryz.func76,rfl,rfl,rfl⟩
theorem o77:FOk Tryz.prog 77 i77:=⟨Tryz.call77,Tryz.f77,Tryz.func77,rfl,rfl,rfl⟩
theorem o83:FOk Tryz.prog 83 i83:=⟨Tryz.call83,Tryz.f83,Tryz.func83,rfl,rfl,rfl⟩
theorem o84:FOk Tryz.prog 84 i84:=⟨Tryz.call84,Tryz.f84,Tryz.func84,rfl,rfl,rfl⟩
theorem o86:FOk Tryz.prog 86 i86:=⟨Tryz.call86,Tryz.f86,Tryz.func86,rfl,rfl,rfl⟩
theorem o87:FOk Tryz.prog 87 i87:=⟨Tryz.call87,Tryz.f87,Tryz.func87,rfl,rfl,rfl⟩
theorem o92:FOk Tryz.prog 92 i92:=⟨Tryz.call92,Tryz.f92,Tryz.func92,rfl,rfl,rfl⟩
theorem o96:FOk Tryz.prog 96 i96:=⟨Tryz.call96,Tryz.f96,Tryz.func96,rfl,rfl,rfl⟩
theorem o97:FOk Tryz.prog 97 i97:=⟨Tryz.call97,Tryz.f97,Tryz.func97,rfl,rfl,rfl⟩
theorem o98:FOk Tryz.prog 98 i98:=⟨Tryz.call98,Tryz.f98,Tryz.func98,rfl,rfl,rfl⟩
theorem o102:FOk Tryz.prog 102 i102:=⟨Tryz.call102,Tryz.f102,Tryz.func102,rfl,rfl,rfl⟩
theorem o108:FOk Tryz.prog 108 i108:=⟨Tryz.call108,Tryz.f108,Tryz.func108,rfl,rfl,rfl⟩
theorem o109:FOk Tryz.prog 109 i109:=⟨Tryz.call109,Tryz.f109,Tryz.func109,rfl,rfl,rfl⟩
theorem o110:FOk Tryz.prog 110 i110:=⟨Tryz.call110,Tryz.f110,Tryz.func110,rfl,rfl,rfl⟩
theorem o111:FOk Tryz.prog 111 i111:=⟨Tryz.call111,Tryz.f111,Tryz.func111,rfl,rfl,rfl⟩
theorem o112:FOk Tryz.prog 112 i112:=⟨Tryz.call112,Tryz.f112,Tryz.func112,rfl,rfl,rfl⟩
theorem o113:FOk Tryz.prog 113 i113:=⟨Tryz.call113,Tryz.f113,Tryz.func113,rfl,rfl,rfl⟩
theorem o114:FOk Tryz.prog 114 i114:=⟨Tryz.call114,Tryz.f114,Tryz.func114,rfl,rfl,rfl⟩
theorem o115:FOk Tryz.prog 115 i115:=⟨Tryz.call115,Tryz.f115,Tryz.func115,rfl,rfl,rfl⟩
theorem o116:FOk Tryz.prog 116 i116:=⟨Tryz.call116,Tryz.f116,Tryz.func116,rfl,rfl,rfl⟩
theorem o117:FOk Tryz.prog 117 i117:=⟨Tryz.call117,Tryz.f117,Tryz.func117,rfl,rfl,rfl⟩
theorem o118:FOk Tryz.prog 118 i118:=⟨Tryz.call118,Tryz.f118,Tryz.func118,rfl,rfl,rfl⟩
theorem o119:FOk Tryz.prog 119 i119:=⟨Tryz.call119,Tryz.f119,Tryz.func119,rfl,rfl,rfl⟩
theorem o120:FOk Tryz.prog 120 i120:=⟨Tryz.call120,Tryz.f120,Tryz.func120,rfl,rfl,rfl⟩
theorem o121:FOk Tryz.prog 121 i121:=⟨Tryz.call121,Tryz.f121,Tryz.func121,rfl,rfl,rfl⟩
theorem o122:FOk Tryz.prog 122 i122:=⟨Tryz.call122,Tryz.f122,Tryz.func122,rfl,rfl,rfl⟩
theorem o123:FOk Tryz.prog 123 i123:=⟨Tryz.call123,Tryz.f123,Tryz.func123,rfl,rfl,rfl⟩
theorem o124:FOk Tryz.prog 124 i124:=⟨Tryz.call124,Tryz.f124,Tryz.func124,rfl,rfl,rfl⟩
theorem o125:FOk Tryz.prog 125 i125:=⟨Tryz.call125,Tryz.f125,Tryz.func125,rfl,rfl,rfl⟩
theorem o126:FOk Tryz.prog 126 i126:=⟨Tryz.call126,Tryz.f126,Tryz.func126,rfl,rfl,rfl⟩
theorem o127:FOk Tryz.prog 127 i127:=⟨Tryz.call127,Tryz.f127,Tryz.func127,rfl,rfl,rfl⟩
theorem o128:FOk Tryz.prog 128 i128:=⟨Tryz.call128,Tryz.f128,Tryz.func128,rfl,rfl,rfl⟩
theorem o129:FOk Tryz.prog 129 i129:=⟨Tryz.call129,Tryz.f129,Tryz.func129,rfl,rfl,rfl⟩
theorem o130:FOk Tryz.prog 130 i130:=⟨Tryz.call130,Tryz.f130,Tryz.func130,rfl,rfl,rfl⟩
theorem o131:FOk Tryz.prog 131 i131:=⟨Tryz.call131,Tryz.f131,Tryz.func131,rfl,rfl,rfl⟩
theorem o132:FOk Tryz.prog 132 i132:=⟨Tryz.call132,Tryz.f132,Tryz.func132,rfl,rfl,rfl⟩
theorem o133:FOk Tryz.prog 133 i133:=⟨Tryz.call133,Tryz.f133,Tryz.func133,rfl,rfl,rfl⟩
theorem o134:FOk Tryz.prog 134 i134:=⟨Tryz.call134,Tryz.f134,Tryz.func134,rfl,rfl,rfl⟩
theorem o135:FOk Tryz.prog 135 i135:=⟨Tryz.call135,Tryz.f135,Tryz.func135,rfl,rfl,rfl⟩
theorem o136:FOk Tryz.prog 136 i136:=⟨Tryz.call136,Tryz.f136,Tryz.func136,rfl,rfl,rfl⟩
theorem o137:FOk Tryz.prog 137 i137:=⟨Tryz.call137,Tryz.f137,Tryz.func137,rfl,rfl,rfl⟩
theorem o138:FOk Tryz.prog 138 i138:=⟨Tryz.call138,Tryz.f138,Tryz.func138,rfl,rfl,rfl⟩
theorem o139:FOk Tryz.prog 139 i139:=⟨Tryz.call139,Tryz.f139,Tryz.func139,rfl,rfl,rfl⟩
theorem o154:FOk Tryz.prog 154 i154:=⟨Tryz.call154,Tryz.f154,Tryz.func154,rfl,rfl,rfl⟩
theorem o155:FOk Tryz.prog 155 i155:=⟨Tryz.call155,Tryz.f155,Tryz.func155,rfl,rfl,rfl⟩
theorem o156:FOk Tryz.prog 156 i156:=⟨Tryz.call156,Tryz.f156,Tryz.func156,rfl,rfl,rfl⟩
theorem o157:FOk Tryz.prog 157 i157:=⟨Tryz.call157,Tryz.f157,Tryz.func157,rfl,rfl,rfl⟩
theorem o158:FOk Tryz.prog 158 i158:=⟨Tryz.call158,Tryz.f158,Tryz.func158,rfl,rfl,rfl⟩
theorem o159:FOk Tryz.prog 159 i159:=⟨Tryz.call159,Tryz.f159,Tryz.func159,rfl,rfl,rfl⟩
theorem o160:FOk Tryz.prog 160 i160:=⟨Tryz.call160,Tryz.f160,Tryz.func160,rfl,rfl,rfl⟩
theorem o161:FOk Tryz.prog 161 i161:=⟨Tryz.call161,Tryz.f161,Tryz.func161,rfl,rfl,rfl⟩
theorem o162:FOk Tryz.prog 162 i162:=⟨Tryz.call162,Tryz.f162,Tryz.func162,rfl,rfl,rfl⟩
theorem o163:FOk Tryz.prog 163 i163:=⟨Tryz.call163,Tryz.f163,Tryz.func163,rfl,rfl,rfl⟩
theorem o166:FOk Tryz.prog 166 i166:=⟨Tryz.call166,Tryz.f166,Tryz.func166,rfl,rfl,rfl⟩
theorem o167:FOk Tryz.prog 167 i167:=⟨Tryz.call167,Tryz.f167,Tryz.func167,rfl,rfl,rfl⟩
theorem o171:FOk Tryz.prog 171 i171:=⟨Tryz.call171,Tryz.f171,Tryz.func171,rfl,rfl,rfl⟩
theorem o172:FOk Tryz.prog 172 i172:=⟨Tryz.call172,Tryz.f172,Tryz.func172,rfl,rfl,rfl⟩
theorem o173:FOk Tryz.prog 173 i173:=⟨Tryz.call173,Tryz.f173,Tryz.func173,rfl,rfl,rfl⟩
theorem o174:FOk Tryz.prog 174 i174:=⟨Tryz.call174,Tryz.f174,Tryz.func174,rfl,rfl,rfl⟩
theorem o176:FOk Tryz.prog 176 i176:=⟨Tryz.call176,Tryz.f176,Tryz.func176,rfl,rfl,rfl⟩
theorem o191:FOk Tryz.prog 191 i191:=⟨Tryz.call191,Tryz.f191,Tryz.func191,rfl,rfl,rfl⟩
theorem o192:FOk Tryz.prog 192 i192:=⟨Tryz.call192,Tryz.f192,Tryz.func192,rfl,rfl,rfl⟩
theorem o193:FOk Tryz.prog 193 i193:=⟨Tryz.call193,Tryz.f193,Tryz.func193,rfl,rfl,rfl⟩
theorem o194:FOk Tryz.prog 194 i194:=⟨Tryz.call194,Tryz.f194,Tryz.func194,rfl,rfl,rfl⟩
theorem o198:FOk Tryz.prog 198 i198:=⟨Tryz.call198,Tryz.f198,Tryz.func198,rfl,rfl,rfl⟩
theorem o199:FOk Tryz.prog 199 i199:=⟨Tryz.call199,Tryz.f199,Tryz.func199,rfl,rfl,rfl⟩
theorem o200:FOk Tryz.prog 200 i200:=⟨Tryz.call200,Tryz.f200,Tryz.func200,rfl,rfl,rfl⟩
theorem o201:FOk Tryz.prog 201 i201:=⟨Tryz.call201,Tryz.f201,Tryz.func201,rfl,rfl,rfl⟩
theorem o202:FOk Tryz.prog 202 i202:=⟨Tryz.call202,Tryz.f202,Tryz.func202,rfl,rfl,rfl⟩
theorem o203:FOk Tryz.prog 203 i203:=⟨Tryz.call203,Tryz.f203,Tryz.func203,rfl,rfl,rfl⟩
theorem o204:FOk Tryz.prog 204 i204:=⟨Tryz.call204,Tryz.f204,Tryz.func204,rfl,rfl,rfl⟩
theorem o205:FOk Tryz.prog 205 i205:=⟨Tryz.call205,Tryz.f205,Tryz.func205,rfl,rfl,rfl⟩
theorem o206:FOk Tryz.prog 206 i206:=⟨Tryz.call206,Tryz.f206,Tryz.func206,rfl,rfl,rfl⟩
theorem o207:FOk Tryz.prog 207 i207:=⟨Tryz.call207,Tryz.f207,Tryz.func207,rfl,rfl,rfl⟩
theorem o208:FOk Tryz.prog 208 i208:=⟨Tryz.call208,Tryz.f208,Tryz.func208,rfl,rfl,rfl⟩
theorem o209:FOk Tryz.prog 209 i209:=⟨Tryz.call209,Tryz.f209,Tryz.func209,rfl,rfl,rfl⟩
theorem o210:FOk Tryz.prog 210 i210:=⟨Tryz.call210,Tryz.f210,Tryz.func210,rfl,rfl,rfl⟩
theorem o211:FOk Tryz.prog 211 i211:=⟨Tryz.call211,Tryz.f211,Tryz.func211,rfl,rfl,rfl⟩
theorem o212:FOk Tryz.prog 212 i212:=⟨Tryz.call212,Tryz.f212,Tryz.func212,rfl,rfl,rfl⟩
theorem o213:FOk Tryz.prog 213 i213:=⟨Tryz.call213,Tryz.f213,Tryz.func213,rfl,rfl,rfl⟩
theorem o214:FOk Tryz.prog 214 i214:=⟨Tryz.call214,Tryz.f214,Tryz.func214,rfl,rfl,rfl⟩
theorem o215:FOk Tryz.prog 215 i215:=⟨Tryz.call215,Tryz.f215,Tryz.func215,rfl,rfl,rfl⟩
theorem o216:FOk Tryz.prog 216 i216:=⟨Tryz.call216,Tryz.f216,Tryz.func216,rfl,rfl,rfl⟩
theorem o217:FOk Tryz.prog 217 i217:=⟨Tryz.call217,Tryz.f217,Tryz.func217,rfl,rfl,rfl⟩
theorem o218:FOk Tryz.prog 218 i218:=⟨Tryz.call218,Tryz.f218,Tryz.func218,rfl,rfl,rfl⟩
theorem o219:FOk Tryz.prog 219 i219:=⟨Tryz.call219,Tryz.f219,Tryz.func219,rfl,rfl,rfl⟩
theorem o220:FOk Tryz.prog 220 i220:=⟨Tryz.call220,Tryz.f220,Tryz.func220,rfl,rfl,rfl⟩
theorem o221:FOk Tryz.prog 221 i221:=⟨Tryz.call221,Tryz.f221,Tryz.func221,rfl,rfl,rfl⟩
theorem o222:FOk Tryz.prog 222 i222:=⟨Tryz.call222,Tryz.f222,Tryz.func222,rfl,rfl,rfl⟩
theorem o223:FOk Tryz.prog 223 i223:=⟨Tryz.call223,Tryz.f223,Tryz.func223,rfl,rfl,rfl⟩
theorem o224:FOk Tryz.prog 224 i224:=⟨Tryz.call224,Tryz.f224,Tryz.func224,rfl,rfl,rfl⟩
theorem o225:FOk Tryz.prog 225 i225:=⟨Tryz.call225,Tryz.f225,Tryz.func225,rfl,rfl,rfl⟩
theorem o226:FOk Tryz.prog 226 i226:=⟨Tryz.call226,Tryz.f226,Tryz.func226,rfl,rfl,rfl⟩
theorem o227:FOk Tryz.prog 227 i227:=⟨Tryz.call227,Tryz.f227,Tryz.func227,rfl,rfl,rfl⟩
theorem o228:FOk Tryz.prog 228 i228:=⟨Tryz.call228,Tryz.f228,Tryz.func228,rfl,rfl,rfl⟩
theorem o229:FOk Tryz.prog 229 i229:=⟨Tryz.call229,Tryz.f229,Tryz.func229,rfl,rfl,rfl⟩
theorem o230:FOk Tryz.prog 230 i230:=⟨Tryz.call230,Tryz.f230,Tryz.func230,rfl,rfl,rfl⟩
theorem o231:FOk Tryz.prog 231 i231:=⟨Tryz.call231,Tryz.f231,Tryz.func231,rfl,rfl,rfl⟩
theorem o232:FOk Tryz.prog 232 i232:=⟨Tryz.call232,Tryz.f232,Tryz.func232,rfl,rfl,rfl⟩
theorem o233:FOk Tryz.prog 233 i233:=⟨Tryz.call233,Tryz.f233,Tryz.func233,rfl,rfl,rfl⟩
theorem o234:FOk Tryz.prog 234 i234:=⟨Tryz.call234,Tryz.f234,Tryz.func234,rfl,rfl,rfl⟩
theorem o235:FOk Tryz.prog 235 i235:=⟨Tryz.call235,Tryz.f235,Tryz.func235,rfl,rfl,rfl⟩
theorem o236:FOk Tryz.prog 236 i236:=⟨Tryz.call236,Tryz.f236,Tryz.func236,rfl,rfl,rfl⟩
theorem o237:FOk Tryz.prog 237 i237:=⟨Tryz.call237,Tryz.f237,Tryz.func237,rfl,rfl,rfl⟩
theorem o238:FOk Tryz.prog 238 i238:=⟨Tryz.call238,Tryz.f238,Tryz.func238,rfl,rfl,rfl⟩
theorem o239:FOk Tryz.prog 239 i239:=⟨Tryz.call239,Tryz.f239,Tryz.func239,rfl,rfl,rfl⟩
theorem o240:FOk Tryz.prog 240 i240:=⟨Tryz.call240,Tryz.f240,Tryz.func240,rfl,rfl,rfl⟩
theorem o241:FOk Tryz.prog 241 i241:=⟨Tryz.call241,Tryz.f241,Tryz.func241,rfl,rfl,rfl⟩
theorem o242:FOk Tryz.prog 242 i242:=⟨Tryz.call242,Tryz.f242,Tryz.func242,rfl,rfl,rfl⟩
theorem o243:FOk Tryz.prog 243 i243:=⟨Tryz.call243,Tryz.f243,Tryz.func243,rfl,rfl,rfl⟩
theorem o244:FOk Tryz.prog 244 i244:=⟨Tryz.call244,Tryz.f244,Tryz.func244,rfl,rfl,rfl⟩
theorem o245:FOk Tryz.prog 245 i245:=⟨Tryz.call245,Tryz.f245,Tryz.func245,rfl,rfl,rfl⟩
theorem o246:FOk Tryz.prog 246 i246:=⟨Tryz.call246,Tryz.f246,Tryz.func246,rfl,rfl,rfl⟩
theorem o247:FOk Tryz.prog 247 i247:=⟨Tryz.call247,Tryz.f247,Tryz.func247,rfl,rfl,rfl⟩
theorem o248:FOk Tryz.prog 248 i248:=⟨Tryz.call248,Tryz.f248,Tryz.func248,rfl,rfl,rfl⟩
theorem o249:FOk Tryz.prog 249 i249:=⟨Tryz.call249,Tryz.f249,Tryz.func249,rfl,rfl,rfl⟩
theorem o250:FOk Tryz.prog 250 i250:=⟨Tryz.call250,Tryz.f250,Tryz.func250,rfl,rfl,rfl⟩
theorem o251:FOk Tryz.prog 251 i251:=⟨Tryz.call251,Tryz.f251,Tryz.func251,rfl,rfl,rfl⟩
theorem o252:FOk Tryz.prog 252 i252:=⟨Tryz.call252,Tryz.f252,Tryz.func252,rfl,rfl,rfl⟩
theorem o253:FOk Tryz.prog 253 i253:=⟨Tryz.call253,Tryz.f253,Tryz.func253,rfl,rfl,rfl⟩
theorem o254:FOk Tryz.prog 254 i254:=⟨Tryz.call254,Tryz.f254,Tryz.func254,rfl,rfl,rfl⟩
theorem o255:FOk Tryz.prog 255 i255:=⟨Tryz.call255,Tryz.f255,Tryz.func255,rfl,rfl,rfl⟩
theorem o261:FOk Tryz.prog 261 i261:=⟨Tryz.call261,Tryz.f261,Tryz.func261,rfl,rfl,rfl⟩
theorem o262:FOk Tryz.prog 262 i262:=⟨Tryz.call262,Tryz.f262,Tryz.func262,rfl,rfl,rfl⟩
theorem o265:FOk Tryz.prog 265 i265:=⟨Tryz.call265,Tryz.f265,Tryz.func265,rfl,rfl,rfl⟩
theorem o266:FOk Tryz.prog 266 i266:=⟨Tryz.call266,Tryz.f266,Tryz.func266,rfl,rfl,rfl⟩
theorem o267:FOk Tryz.prog 267 i267:=⟨Tryz.call267,Tryz.f267,Tryz.func267,rfl,rfl,rfl⟩
theorem o268:FOk Tryz.prog 268 i268:=⟨Tryz.call268,Tryz.f268,Tryz.func268,rfl,rfl,rfl⟩
theorem o269:FOk Tryz.prog 269 i269:=⟨Tryz.call269,Tryz.f269,Tryz.func269,rfl,rfl,rfl⟩
theorem o270:FOk Tryz.prog 270 i270:=⟨Tryz.call270,Tryz.f270,Tryz.func270,rfl,rfl,rfl⟩
theorem o271:FOk Tryz.prog 271 i271:=⟨Tryz.call271,Tryz.f271,Tryz.func271,rfl,rfl,rfl⟩
theorem o272:FOk Tryz.prog 272 i272:=⟨Tryz.call272,Tryz.f272,Tryz.func272,rfl,rfl,rfl⟩
theorem o273:FOk Tryz.prog 273 i273:=⟨Tryz.call273,Tryz.f273,Tryz.func273,rfl,rfl,rfl⟩
theorem o274:FOk Tryz.prog 274 i274:=⟨Tryz.call274,Tryz.f274,Tryz.func274,rfl,rfl,rfl⟩
theorem o275:FOk Tryz.prog 275 i275:=⟨Tryz.call275,Tryz.f275,Tryz.func275,rfl,rfl,rfl⟩
theorem o276:FOk Tryz.prog 276 i276:=⟨Tryz.call276,Tryz.f276,Tryz.func276,rfl,rfl,rfl⟩
theorem o277:FOk Tryz.prog 277 i277:=⟨Tryz.call277,Tryz.f277,Tryz.func277,rfl,rfl,rfl⟩
theorem o278:FOk Tryz.prog 278 i278:=⟨Tryz.call278,Tryz.f278,Tryz.func278,rfl,rfl,rfl⟩
theorem o279:FOk Tryz.prog 279 i279:=⟨Tryz.call279,Tryz.f279,Tryz.func279,rfl,rfl,rfl⟩
theorem o280:FOk Tryz.prog 280 i280:=⟨Tryz.call280,Tryz.f280,Tryz.func280,rfl,rfl,rfl⟩
theorem o286:FOk Tryz.prog 286 i286:=⟨Tryz.call286,Tryz.f286,Tryz.func286,rfl,rfl,rfl⟩
theorem o289:FOk Tryz.prog 289 i289:=⟨Tryz.call289,Tryz.f289,Tryz.func289,rfl,rfl,rfl⟩
theorem o290:FOk Tryz.prog 290 i290:=⟨Tryz.call290,Tryz.f290,Tryz.func290,rfl,rfl,rfl⟩
theorem o291:FOk Tryz.prog 291 i291:=⟨Tryz.call291,Tryz.f291,Tryz.func291,rfl,rfl,rfl⟩
theorem o292:FOk Tryz.prog 292 i292:=⟨Tryz.call292,Tryz.f292,Tryz.func292,rfl,rfl,rfl⟩
theorem o293:FOk Tryz.prog 293 i293:=⟨Tryz.call293,Tryz.f293,Tryz.func293,rfl,rfl,rfl⟩
theorem o294:FOk Tryz.prog 294 i294:=⟨Tryz.call294,Tryz.f294,Tryz.func294,rfl,rfl,rfl⟩
theorem o295:FOk Tryz.prog 295 i295:=⟨Tryz.call295,Tryz.f295,Tryz.func295,rfl,rfl,rfl⟩
theorem o296:FOk Tryz.prog 296 i296:=⟨Tryz.call296,Tryz.f296,Tryz.func296,rfl,rfl,rfl⟩
theorem o297:FOk Tryz.prog 297 i297:=⟨Tryz.call297,Tryz.f297,Tryz.func297,rfl,rfl,rfl⟩
theorem o298:FOk Tryz.prog 298 i298:=⟨Tryz.call298,Tryz.f298,Tryz.func298,rfl,rfl,rfl⟩
theorem o299:FOk Tryz.prog 299 i299:=⟨Tryz.call299,Tryz.f299,Tryz.func299,rfl,rfl,rfl⟩
theorem o300:FOk Tryz.prog 300 i300:=⟨Tryz.call300,Tryz.f300,Tryz.func300,rfl,rfl,rfl⟩
theorem o301:FOk Tryz.prog 301 i301:=⟨Tryz.call301,Tryz.f301,Tryz.func301,rfl,rfl,rfl⟩
theorem o302:FOk Tryz.prog 302 i302:=⟨Tryz.call302,Tryz.f302,Tryz.func302,rfl,rfl,rfl⟩
theorem o303:FOk Tryz.prog 303 i303:=⟨Tryz.call303,Tryz.f303,Tryz.func303,rfl,rfl,rfl⟩
theorem o304:FOk Tryz.prog 304 i304:=⟨Tryz.call304,Tryz.f304,Tryz.func304,rfl,rfl,rfl⟩
theorem o311:FOk Tryz.prog 311 i311:=⟨Tryz.call311,Tryz.f311,Tryz.func311,rfl,rfl,rfl⟩
theorem o314:FOk Tryz.prog 314 i314:=⟨Tryz.call314,Tryz.f314,Tryz.func314,rfl,rfl,rfl⟩
theorem o315:FOk Tryz.prog 315 i315:=⟨Tryz.call315,Tryz.f315,Tryz.func315,rfl,rfl,rfl⟩
theorem o316:FOk Tryz.prog 316 i316:=⟨Tryz.call316,Tryz.f316,Tryz.func316,rfl,rfl,rfl⟩
theorem o317:FOk Tryz.prog 317 i317:=⟨Tryz.call317,Tryz.f317,Tryz.func317,rfl,rfl,rfl⟩
theorem o318:FOk Tryz.prog 318 i318:=⟨Tryz.call318,Tryz.f318,Tryz.func318,rfl,rfl,rfl⟩
theorem o319:FOk Tryz.prog 319 i319:=⟨Tryz.call319,Tryz.f319,Tryz.func319,rfl,rfl,rfl⟩
theorem o320:FOk Tryz.prog 320 i320:=⟨Tryz.call320,Tryz.f320,Tryz.func320,rfl,rfl,rfl⟩
theorem o321:FOk Tryz.prog 321 i321:=⟨Tryz.call321,Tryz.f321,Tryz.func321,rfl,rfl,rfl⟩
theorem o325:FOk Tryz.prog 325 i325:=⟨Tryz.call325,Tryz.f325,Tryz.func325,rfl,rfl,rfl⟩
theorem o326:FOk Tryz.prog 326 i326:=⟨Tryz.call326,Tryz.f326,Tryz.func326,rfl,rfl,rfl⟩
theorem o327:FOk Tryz.prog 327 i327:=⟨Tryz.call327,Tryz.f327,Tryz.func327,rfl,rfl,rfl⟩
theorem o334:FOk Tryz.prog 334 i334:=⟨Tryz.call334,Tryz.f334,Tryz.func334,rfl,rfl,rfl⟩
theorem fall:TrAll (FOk Tryz.prog) (fun m=>m) FNt:=⟨⟨⟨⟨⟨⟨⟨⟨⟨trivial,o255,trivial⟩,o127,trivial⟩,trivial,⟨⟨trivial,o319,trivial⟩,o191,trivial⟩⟩,o31,⟨⟨trivial,o159,trivial⟩,trivial,⟨trivial,o223,trivial⟩⟩⟩,o15,⟨⟨⟨⟨trivial,o271,trivial⟩,trivial,trivial⟩,trivial,⟨trivial,o207,trivial⟩⟩,trivial,⟨⟨⟨trivial,o303,trivial⟩,trivial,trivial⟩,o111,⟨trivial,o239,trivial⟩⟩⟩⟩,trivial,⟨⟨⟨⟨trivial,o135,trivial⟩,trivial,⟨⟨trivial,o327,trivial⟩,o199,trivial⟩⟩,trivial,⟨⟨⟨trivial,o295,trivial⟩,o167,trivial⟩,trivial,⟨trivial,o231,trivial⟩⟩⟩,trivial,⟨⟨⟨⟨trivial,o279,trivial⟩,trivial,trivial⟩,o87,⟨trivial,o215,trivial⟩⟩,trivial,⟨⟨⟨trivial,o311,trivial⟩,trivial,trivial⟩,o119,⟨trivial,o247,trivial⟩⟩⟩⟩⟩,trivial,⟨⟨⟨⟨⟨trivial,o131,trivial⟩,trivial,trivial⟩,trivial,⟨⟨⟨trivial,o291,trivial⟩,o163,trivial⟩,trivial,⟨trivial,o227,trivial⟩⟩⟩,trivial,⟨⟨⟨⟨trivial,o275,trivial⟩,trivial,trivial⟩,o83,⟨trivial,o211,trivial⟩⟩,trivial,⟨trivial,o115,⟨trivial,o243,trivial⟩⟩⟩⟩,trivial,⟨⟨⟨⟨⟨trivial,o267,trivial⟩,o139,trivial⟩,o75,⟨trivial,o203,trivial⟩⟩,trivial,⟨⟨⟨trivial,o299,trivial⟩,o171,trivial⟩,trivial,⟨trivial,o235,trivial⟩⟩⟩,trivial,⟨⟨⟨trivial,o155,trivial⟩,trivial,⟨trivial,o219,trivial⟩⟩,o59,⟨⟨⟨trivial,o315,trivial⟩,trivial,trivial⟩,o123,⟨trivial,o251,trivial⟩⟩⟩⟩⟩⟩,trivial,⟨⟨⟨⟨⟨⟨trivial,o129,trivial⟩,trivial,⟨⟨trivial,o321,trivial⟩,o193,trivial⟩⟩,trivial,⟨⟨⟨trivial,o289,trivial⟩,o161,trivial⟩,o97,⟨trivial,o225,trivial⟩⟩⟩,trivial,⟨⟨⟨⟨trivial,o273,trivial⟩,trivial,trivial⟩,trivial,⟨trivial,o209,trivial⟩⟩,trivial,⟨trivial,o113,⟨trivial,o241,trivial⟩⟩⟩⟩,trivial,⟨⟨⟨⟨⟨trivial,o265,trivial⟩,o137,trivial⟩,trivial,⟨trivial,o201,trivial⟩⟩,o41,⟨⟨⟨trivial,o297,trivial⟩,trivial,trivial⟩,trivial,⟨trivial,o233,trivial⟩⟩⟩,trivial,⟨⟨trivial,trivial,⟨trivial,o217,trivial⟩⟩,o57,⟨trivial,o121,⟨trivial,o249,trivial⟩⟩⟩⟩⟩,trivial,⟨⟨⟨⟨⟨⟨trivial,o261,trivial⟩,o133,trivial⟩,trivial,⟨⟨trivial,o325,trivial⟩,trivial,trivial⟩⟩,trivial,⟨⟨⟨trivial,o293,trivial⟩,trivial,trivial⟩,trivial,⟨trivial,o229,trivial⟩⟩⟩,o21,⟨⟨⟨⟨trivial,o277,trivial⟩,trivial,trivial⟩,trivial,⟨trivial,o213,trivial⟩⟩,o53,⟨trivial,o117,⟨trivial,o245,trivial⟩⟩⟩⟩,trivial,⟨⟨⟨⟨⟨trivial,o269,trivial⟩,trivial,trivial⟩,o77,⟨trivial,o205,trivial⟩⟩,o45,⟨⟨⟨trivial,o301,trivial⟩,o173,trivial⟩,o109,⟨trivial,o237,trivial⟩⟩⟩,o29,⟨⟨⟨trivial,o157,trivial⟩,trivial,⟨trivial,o221,trivial⟩⟩,o61,⟨⟨⟨trivial,o317,trivial⟩,trivial,trivial⟩,o125,⟨trivial,o253,trivial⟩⟩⟩⟩⟩⟩⟩,trivial,⟨⟨⟨⟨⟨⟨⟨trivial,o128,trivial⟩,trivial,⟨⟨trivial,o320,trivial⟩,o192,trivial⟩⟩,trivial,⟨⟨trivial,o160,trivial⟩,o96,⟨trivial,o224,trivial⟩⟩⟩,o16,⟨⟨⟨⟨trivial,o272,trivial⟩,trivial,trivial⟩,trivial,⟨trivial,o208,trivial⟩⟩,trivial,⟨⟨⟨trivial,o304,trivial⟩,o176,trivial⟩,o112,⟨trivial,o240,trivial⟩⟩⟩⟩,trivial,⟨⟨⟨⟨trivial,o136,trivial⟩,trivial,⟨trivial,o200,trivial⟩⟩,trivial,⟨⟨⟨trivial,o296,trivial⟩,trivial,trivial⟩,trivial,⟨trivial,o232,trivial⟩⟩⟩,trivial,⟨⟨⟨⟨trivial,o280,trivial⟩,trivial,trivial⟩,trivial,⟨trivial,o216,trivial⟩⟩,o56,⟨trivial,o120,⟨trivial,o248,trivial⟩⟩⟩⟩⟩,trivial,⟨⟨⟨⟨⟨trivial,o132,trivial⟩,trivial,trivial⟩,trivial,⟨⟨⟨trivial,o292,trivial⟩,trivial,trivial⟩,trivial,⟨trivial,o228,trivial⟩⟩⟩,trivial,⟨⟨⟨⟨trivial,o276,trivial⟩,trivial,trivial⟩,o84,⟨trivial,o212,trivial⟩⟩,trivial,⟨trivial,o116,⟨trivial,o244,trivial⟩⟩⟩⟩,trivial,⟨⟨⟨⟨⟨trivial,o268,trivial⟩,trivial,trivial⟩,o76,⟨trivial,o204,trivial⟩⟩,trivial,⟨⟨⟨trivial,o300,trivial⟩,o172,trivial⟩,o108,⟨trivial,o236,trivial⟩⟩⟩,trivial,⟨⟨⟨trivial,o156,trivial⟩,o92,⟨trivial,o220,trivial⟩⟩,o60,⟨⟨⟨trivial,o316,trivial⟩,trivial,trivial⟩,o124,⟨trivial,o252,trivial⟩⟩⟩⟩⟩⟩,trivial,⟨⟨⟨⟨⟨⟨trivial,o130,trivial⟩,trivial,⟨trivial,o194,trivial⟩⟩,o34,⟨⟨⟨trivial,o290,trivial⟩,o162,trivial⟩,o98,⟨trivial,o226,trivial⟩⟩⟩,trivial,⟨⟨⟨⟨trivial,o274,trivial⟩,trivial,trivial⟩,trivial,⟨trivial,o210,trivial⟩⟩,trivial,⟨trivial,o114,⟨trivial,o242,trivial⟩⟩⟩⟩,trivial,⟨⟨⟨⟨⟨trivial,o266,trivial⟩,o138,trivial⟩,o74,⟨trivial,o202,trivial⟩⟩,trivial,⟨⟨⟨trivial,o298,trivial⟩,trivial,trivial⟩,trivial,⟨trivial,o234,trivial⟩⟩⟩,o26,⟨⟨⟨trivial,o154,trivial⟩,trivial,⟨trivial,o218,trivial⟩⟩,o58,⟨⟨⟨trivial,o314,trivial⟩,trivial,trivial⟩,o122,⟨trivial,o250,trivial⟩⟩⟩⟩⟩,trivial,⟨⟨⟨⟨⟨⟨trivial,o262,trivial⟩,o134,trivial⟩,trivial,⟨⟨trivial,o326,trivial⟩,o198,trivial⟩⟩,trivial,⟨⟨⟨trivial,o294,trivial⟩,o166,trivial⟩,o102,⟨trivial,o230,trivial⟩⟩⟩,trivial,⟨⟨⟨⟨trivial,o278,trivial⟩,trivial,trivial⟩,o86,⟨trivial,o214,trivial⟩⟩,o54,⟨trivial,o118,⟨trivial,o246,trivial⟩⟩⟩⟩,trivial,⟨⟨⟨⟨⟨trivial,o270,trivial⟩,trivial,trivial⟩,trivial,⟨⟨trivial,o334,trivial⟩,o206,trivial⟩⟩,o46,⟨⟨⟨trivial,o302,trivial⟩,o174,trivial⟩,o110,⟨trivial,o238,trivial⟩⟩⟩,trivial,⟨⟨⟨⟨trivial,o286,trivial⟩,o158,trivial⟩,trivial,⟨trivial,o222,trivial⟩⟩,trivial,⟨⟨⟨trivial,o318,trivial⟩,trivial,trivial⟩,o126,⟨trivial,o254,trivial⟩⟩⟩⟩⟩⟩⟩⟩
theorem fok:FnOk Tryz.prog FNt:=fok_of fall
end Go.Af.Tryz.W
namespace Go.Af.Tryz.W
open Go Go.Proofs
set_option maxRecDepth 100000
theorem works_run:(evN FNt EE 100).call 0 15 [] .e 0 (fun v _ _=>match v with | .bool b=>b | _=>false)=true:=by kernel_rfl
end Go.Af.Tryz.W
namespace Go.Af.Tryz.W
open Go Go.Proofs
theorem works:qy Tryz.prog 15 [] [] (fun v H=>v = .bool true∧H = []) :=
 acall_drop ((run_ok fok eok mx works_run).mono fun v H h=>by
  split at h
  ·rename_i b;subst h
   exact⟨[], .bool true,[],by simp,anch_of rfl,trivial,rfl,VRen.plain rfl,rfl,rfl⟩
  ·cases h)
theorem worksX (H:List Blk) {R:Value→List Blk→Prop} (h:R (.bool true) H):qJ Tryz.prog 15 [] H R :=
 acallx_s works [] rfl .nil trivial rfl h
end Go.Af.Tryz.W
