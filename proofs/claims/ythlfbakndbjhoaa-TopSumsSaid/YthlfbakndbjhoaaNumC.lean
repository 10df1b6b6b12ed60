/- The statements' 'live' of layer num. Condition: errors.errorType holds the handle of the type error. -/
import Derived.Test.YthlfbakndbjhoaaNumB
set_option linter.unusedSimpArgs false
set_option linter.unusedVariables false
namespace Go.Proofs.Ythlfbakndbjhoaa
open Go.RowKit

theorem plus_live (w : World) : Calls Try.prog 5 #[.agg #[.int .i64 0, .int .u64 0], .int .i64 (-1)] w fun e w' => e = .returned (.agg #[.int .i64 (-1), .int .u64 18446744073709551615]) ∧ Below w.heap.size w w' :=
  (plus_any 0 0 (-1) (by decide) (by decide) w).mono fun e w' ⟨he, hb⟩ => ⟨by rw [he, show plusHi 0 0 (-1) = -1 by decide +kernel, show plusLo 0 (-1) = 18446744073709551615 by decide +kernel], hb⟩

end Go.Proofs.Ythlfbakndbjhoaa
