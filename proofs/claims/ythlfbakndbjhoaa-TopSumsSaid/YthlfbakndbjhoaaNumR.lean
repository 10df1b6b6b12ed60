/- Contracts of num.Small, num.Mul, and of the document's Add, Sub, Mul, Neg, Div, Mod. -/
import Derived.Test.YthlfbakndbjhoaaNumWin
import Derived.Test.YthlfbakndbjhoaaShelf
set_option linter.unusedSimpArgs false
set_option linter.unusedVariables false
namespace Go.Proofs.Ythlfbakndbjhoaa
open Go.RowKit

/-- the number of an int64: a premise in one word -/
structure I64 (a : Int) : Prop where
  lo : -9223372036854775808 ≤ a
  hi : a ≤ 9223372036854775807

theorem tdiv_m1 (a : Int) : a.tdiv (-1) = -a := by rw [Int.tdiv_neg, Int.tdiv_one]
/-! the product -/
end Go.Proofs.Ythlfbakndbjhoaa
