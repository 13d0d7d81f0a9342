/- A part of the proof. -/
import Derived.Test.YtmnjcogpchodhaaGreatMRB
set_option linter.all false
set_option maxHeartbeats 4000000
set_option maxRecDepth 1000000
namespace Go.Af.Tryz
open Go Go.Proofs

theorem kb1_4:((List.range 16).all fun (i:Nat)=>(List.range (i+1)).all fun (ro:Nat)=>ckB true false ⟨1,((i+1:Nat):Int),(ro:Int),((i+1:Nat):Int),[],[]⟩ 4 (i+1) (i+1))=true:=by decide +kernel
end Go.Af.Tryz
namespace Go.Af.Tryz
open Go Go.Proofs

theorem kb1_1:((List.range 16).all fun (i:Nat)=>(List.range (i+1)).all fun (ro:Nat)=>ckB true false ⟨1,((i+1:Nat):Int),(ro:Int),1,[],[]⟩ 1 (i+1) 1)=true:=by decide +kernel
theorem kb1_2:((List.range 16).all fun (i:Nat)=>(List.range (i+1)).all fun (ro:Nat)=>ckB true false ⟨1,((i+1:Nat):Int),(ro:Int),1,[],[]⟩ 2 (i+1) 1)=true:=by decide +kernel
theorem kb2_1:((List.range 16).all fun (i:Nat)=>(List.range (i+1)).all fun (ro:Nat)=>ckB false false ⟨2,((i+1:Nat):Int),(ro:Int),1,[],[]⟩ 1 (i+1) 1)=true:=by decide +kernel
theorem kb2_2:((List.range 16).all fun (i:Nat)=>(List.range (i+1)).all fun (ro:Nat)=>ckB false false ⟨2,((i+1:Nat):Int),(ro:Int),1,[],[]⟩ 2 (i+1) 1)=true:=by decide +kernel
theorem kb3_5:((List.range 16).all fun (i:Nat)=>ckB false false ⟨3,((i+1:Nat):Int),0,1,[],[]⟩ 5 (i+1) 1)=true:=by decide +kernel
theorem kb3_6:((List.range 16).all fun (i:Nat)=>ckB false false ⟨3,((i+1:Nat):Int),0,1,[],[]⟩ 6 (i+1) 1)=true:=by decide +kernel
theorem kb3_7:((List.range 16).all fun (i:Nat)=>ckB false false ⟨3,((i+1:Nat):Int),0,((i+1:Nat):Int),[],[]⟩ 7 (i+1) (i+1))=true:=by decide +kernel
theorem kb4_1:((List.range 16).all fun (i:Nat)=>ckB false false ⟨4,((i+1:Nat):Int),0,1,[],[]⟩ 1 (i+1) 1)=true:=by decide +kernel
theorem kb4_6:((List.range 16).all fun (i:Nat)=>ckB false false ⟨4,((i+1:Nat):Int),0,1,[],[]⟩ 6 (i+1) 1)=true:=by decide +kernel
theorem kb10_7:((List.range 16).all fun (i:Nat)=>ckB false true ⟨10,((i+1:Nat):Int),0,1,[],[]⟩ 7 (i+1) 1)=true:=by decide +kernel
theorem kb10_5:((List.range 16).all fun (i:Nat)=>ckB false false ⟨10,((i+1:Nat):Int),0,1,[],[]⟩ 5 (i+1) 1)=true:=by decide +kernel
end Go.Af.Tryz
namespace Go.Af.Tryz
open Go Go.Proofs

theorem kb5_1:((List.range 16).all fun (i:Nat)=>(List.range (i+1)).all fun (ro:Nat)=>ckB true false ⟨5,((i+1:Nat):Int),(ro:Int),1,[],[]⟩ 1 (i+1) (i+1))=true:=by decide +kernel
theorem kb5_2:((List.range 16).all fun (i:Nat)=>(List.range (i+1)).all fun (ro:Nat)=>ckB true false ⟨5,((i+1:Nat):Int),(ro:Int),1,[],[]⟩ 2 (i+1) (i+1))=true:=by decide +kernel
theorem kb6_1:((List.range 16).all fun (i:Nat)=>(List.range (i+1)).all fun (ro:Nat)=>ckB true false ⟨6,((i+1:Nat):Int),(ro:Int),1,[],[]⟩ 1 (i+1) (i+1))=true:=by decide +kernel
theorem kb6_2:((List.range 16).all fun (i:Nat)=>(List.range (i+1)).all fun (ro:Nat)=>ckB true false ⟨6,((i+1:Nat):Int),(ro:Int),1,[],[]⟩ 2 (i+1) (i+1))=true:=by decide +kernel
theorem kb7_7:((List.range 16).all fun (i:Nat)=>ckB true false ⟨7,((i+1:Nat):Int),0,1,[],[]⟩ 7 (i+1) (i+1))=true:=by decide +kernel
theorem kb7_6:([0,1,3,7,15].all fun (i:Nat)=>ckB true false ⟨7,((i+1:Nat):Int),0,1,[],[]⟩ 6 (i+1) (i+1))=true:=by decide +kernel
theorem kb7_8:((List.range 16).all fun (i:Nat)=>ckB true false ⟨7,((i+1:Nat):Int),0,1,[],[]⟩ 8 (i+1) (i+1))=true:=by decide +kernel
end Go.Af.Tryz
namespace Go.Af.Tryz
open Go Go.Proofs

theorem kb8_9:((List.range 16).all fun (i:Nat)=>ckB true false ⟨8,((i+1:Nat):Int),0,1,[],[]⟩ 9 (i+1) (2*(i+1)))=true:=by decide +kernel
theorem kb8_10:([0,1,3,7,15].all fun (i:Nat)=>ckB true false ⟨8,((i+1:Nat):Int),0,1,[],[]⟩ 10 (i+1) (2*(i+1)))=true:=by decide +kernel
theorem kb8_8:((List.range 16).all fun (i:Nat)=>ckB true false ⟨8,((i+1:Nat):Int),0,1,[],[]⟩ 8 (i+1) (2*(i+1)))=true:=by decide +kernel
theorem kb9_7:((List.range 16).all fun (i:Nat)=>ckB false false ⟨9,((i+1:Nat):Int),0,1,[],[]⟩ 7 (i+1) (i+1))=true:=by decide +kernel
theorem kb9_9:((List.range 16).all fun (i:Nat)=>ckB false false ⟨9,((i+1:Nat):Int),0,1,[],[]⟩ 9 (i+1) (i+1))=true:=by decide +kernel
theorem kb9_11:([0,1,3,7,15].all fun (i:Nat)=>ckB false false ⟨9,((i+1:Nat):Int),0,1,[],[]⟩ 11 (i+1) (i+1))=true:=by decide +kernel
end Go.Af.Tryz
