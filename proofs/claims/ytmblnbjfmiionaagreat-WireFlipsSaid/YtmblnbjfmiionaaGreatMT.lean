/-

-/
import Derived.Test.YtmblnbjfmiionaaGreatMS
import Derived.Test.YtmblnbjfmiionaaGreatMWA
set_option linter.all false
namespace Go.Af.Tryz
open Go Go.Proofs
attribute [local irreducible] awp ACall ACallX AYield AInvoke AInvokeX

end Go.Af.Tryz
namespace Go.Af.Tryz
open Go Go.Proofs
attribute [local irreducible] awp ACall ACallX AYield AInvoke

/-! Places. -/
end Go.Af.Tryz
namespace Go.Af
open Go
end Go.Af
namespace Go.Af.Tryz
open Go Go.Proofs
attribute [local irreducible] awp ACall ACallX AYield AInvoke

end Go.Af.Tryz
namespace Go.Af.Tryz
open Go Go.Proofs
attribute [local irreducible] awp ACall ACallX AYield AInvoke

end Go.Af.Tryz
