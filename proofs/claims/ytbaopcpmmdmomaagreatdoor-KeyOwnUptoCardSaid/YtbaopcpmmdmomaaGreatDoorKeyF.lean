/- The document's right, IsName, IsText, IsWord, Name, Text, Escape. -/
import Derived.Test.YtbaopcpmmdmomaaGreatDoorKeyB
import Derived.Test.YtbaopcpmmdmomaaGreatDoorKeyE
set_option linter.unusedSimpArgs false
set_option linter.unusedVariables false
namespace Go.Proofs.YtbaopcpmmdmomaaGreatDoor
open Go.RowKit
end Go.Proofs.YtbaopcpmmdmomaaGreatDoor
