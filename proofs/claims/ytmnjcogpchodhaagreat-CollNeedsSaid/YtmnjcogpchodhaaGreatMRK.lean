/- A part of the proof. -/
import Derived.Test.YtmnjcogpchodhaaGreatMRJ
set_option linter.all false
set_option maxHeartbeats 4000000
set_option maxRecDepth 1000000
namespace Go.Af.Tryz
open Go Go.Proofs

theorem kn1_1:((List.range 16).all fun (i:Nat)=>(List.range (i+1)).all fun (ro:Nat)=>ckCn ⟨1,((i+1:Nat):Int),(ro:Int),1,[],[]⟩ (grpF 0 (qZ ⟨1,((i+1:Nat):Int),(ro:Int),1,[],[]⟩ 1)).flatten)=true:=by decide +kernel
theorem kn1_2:((List.range 16).all fun (i:Nat)=>(List.range (i+1)).all fun (ro:Nat)=>ckCn ⟨1,((i+1:Nat):Int),(ro:Int),1,[],[]⟩ (grpF 0 (qZ ⟨1,((i+1:Nat):Int),(ro:Int),1,[],[]⟩ 2)).flatten)=true:=by decide +kernel
theorem kn2_1:((List.range 16).all fun (i:Nat)=>(List.range (i+1)).all fun (ro:Nat)=>ckRn ⟨2,((i+1:Nat):Int),(ro:Int),1,[],[]⟩ (grpF 0 (qZ ⟨2,((i+1:Nat):Int),(ro:Int),1,[],[]⟩ 1)).flatten)=true:=by decide +kernel
theorem kn2_2:((List.range 16).all fun (i:Nat)=>(List.range (i+1)).all fun (ro:Nat)=>ckRn ⟨2,((i+1:Nat):Int),(ro:Int),1,[],[]⟩ (grpF 0 (qZ ⟨2,((i+1:Nat):Int),(ro:Int),1,[],[]⟩ 2)).flatten)=true:=by decide +kernel
theorem kn5_1:((List.range 16).all fun (i:Nat)=>(List.range (i+1)).all fun (ro:Nat)=>ckCn ⟨5,((i+1:Nat):Int),(ro:Int),1,[],[]⟩ (grpF 0 (qZ ⟨5,((i+1:Nat):Int),(ro:Int),1,[],[]⟩ 1)).flatten)=true:=by decide +kernel
theorem kn5_2:((List.range 16).all fun (i:Nat)=>(List.range (i+1)).all fun (ro:Nat)=>ckCn ⟨5,((i+1:Nat):Int),(ro:Int),1,[],[]⟩ (grpF 0 (qZ ⟨5,((i+1:Nat):Int),(ro:Int),1,[],[]⟩ 2)).flatten)=true:=by decide +kernel
theorem kn6_1:((List.range 16).all fun (i:Nat)=>(List.range (i+1)).all fun (ro:Nat)=>ckCn ⟨6,((i+1:Nat):Int),(ro:Int),1,[],[]⟩ (grpF 0 (qZ ⟨6,((i+1:Nat):Int),(ro:Int),1,[],[]⟩ 1)).flatten)=true:=by decide +kernel
theorem kn6_2:((List.range 16).all fun (i:Nat)=>(List.range (i+1)).all fun (ro:Nat)=>ckCn ⟨6,((i+1:Nat):Int),(ro:Int),1,[],[]⟩ (grpF 0 (qZ ⟨6,((i+1:Nat):Int),(ro:Int),1,[],[]⟩ 2)).flatten)=true:=by decide +kernel
end Go.Af.Tryz
