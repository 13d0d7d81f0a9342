/- A part of the proof. -/
import Derived.Test.YtmnjcogpchodhaaGreatMHS
import Derived.Test.YtmnjcogpchodhaaGreatMWA
set_option linter.all false
namespace Go.Af.Tryz
open Go Go.Proofs
theorem wk3m (t:Tk) (a:Int) {m:LM} {argsR:Array Value} {w:World}
 (ha:LRel m [tkV t 0 1, .int .i64 a] argsR.toList) (hr:HRel m [ro t.sz, .cells false 1 (bls t.ws)] w) :
 Calls Tryz.prog 3 argsR w fun e w' => ∃ vR,e = .returned vR/\zW m [ro t.sz, .cells false 1 (bls t.ws)] w (fun v _=>v = .bool true) vR w' :=
 wk3 (fun H _ h=>(W.worksX H h).call) t a ha hr
end Go.Af.Tryz
