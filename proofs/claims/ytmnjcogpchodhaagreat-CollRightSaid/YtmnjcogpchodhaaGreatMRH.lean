/- A part of the proof. -/
import Derived.Test.YtmnjcogpchodhaaGreatMRG
import Derived.Test.YtmnjcogpchodhaaGreatMRI
set_option linter.all false
namespace Go.Af.Tryz
open Go Go.Proofs
theorem wk7m (t:Tk) (hz:t.sz.length+t.ws.length<=9223372036854775807) {m:LM} {argsR:Array Value} {w:World}
 (ha:LRel m [tkV t 0 1] argsR.toList) (hr:HRel m [ro t.sz, .cells false 1 (bls t.ws)] w) :
 Calls Tryz.prog 7 argsR w fun e w' => ∃ vR,e = .returned vR/\zA m [ro t.sz, .cells false 1 (bls t.ws)] w (fun v _=>v = .bool true) vR w' :=
 wk7 (fun H _ h=>works15 H h) t hz ha hr
end Go.Af.Tryz
