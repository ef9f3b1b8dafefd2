/- Printed functions that call nothing of the library: no condition on package variables. -/
import Derived.Below
import Derived.Test.YtcpglgoiienhkaaGreatDoorZNst
set_option linter.unusedVariables false

namespace Go.Proofs.YtcpglgoiienhkaaGreatDoor.Ext0
open Go.RowKit
def GlH (_ : World) : Prop := True
theorem GlH.bel {w w' : World} (_ : GlH w) {n : Nat} (_ : Below n w w') : GlH w' := trivial
end Go.Proofs.YtcpglgoiienhkaaGreatDoor.Ext0
