/- The reference's Compare and Same; the walk of the statement KeyCompares. -/
import Derived.Test.YtbaopcpmmdmomaaGreatDoorKeyT
set_option linter.unusedSimpArgs false
set_option linter.unusedVariables false
namespace Go.Proofs.YtbaopcpmmdmomaaGreatDoor
open Go.RowKit
end Go.Proofs.YtbaopcpmmdmomaaGreatDoor
