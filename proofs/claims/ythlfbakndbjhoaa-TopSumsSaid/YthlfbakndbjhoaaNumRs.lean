/- The reference's Plus, Minus, Compare, Small, size of sums. -/
import Derived.Test.YthlfbakndbjhoaaNumDi
import Derived.Test.YthlfbakndbjhoaaNumSu
import Derived.Test.YthlfbakndbjhoaaNumRa
set_option linter.unusedSimpArgs false
set_option linter.unusedVariables false
namespace Go.Proofs.Ythlfbakndbjhoaa
open Go.RowKit
attribute [local go_sem] u64_signed
end Go.Proofs.Ythlfbakndbjhoaa
