/- Contracts of the document's Window and of both Logs, and the walk of the statement NumWindows. Condition: errors.errorType holds the handle of the type error. -/
import Derived.Test.YthlfbakndbjhoaaNumReck
set_option linter.unusedSimpArgs false
set_option linter.unusedVariables false
namespace Go.Proofs.Ythlfbakndbjhoaa
open Go.RowKit

def winOk (e o : Int) : Prop := 1 ≤ e ∧ 0 ≤ o ∧ o < e
open Classical in
noncomputable def winN (t e o : Int) : Int := if winOk e o then fitN (t - winBack t e o) else 0
open Classical in
noncomputable def winC (t e o : Int) : Int := if winOk e o then fitC (t - winBack t e o) else 2
theorem winC_nn (t e o : Int) : 0 ≤ winC t e o := by unfold winC; split; exact fitC_nn _; omega
/-! the logarithm -/
def logZ (n : Int) : Int := if n < 1 then 0 else (Lib.bitLen n.toNat : Int) - 1
theorem bitLen_pos (n : Int) (h : 1 ≤ n) (h1 : n ≤ 9223372036854775807) : 1 ≤ Lib.bitLen n.toNat ∧ Lib.bitLen n.toNat ≤ 63 := by
  have h2 := Lib.bitLen_half n.toNat (by omega) (by show n.toNat < 18446744073709551616; omega)
  have h3 := Lib.bitLen_le n.toNat 63 (by decide) (by show n.toNat < 9223372036854775808; omega)
  omega
end Go.Proofs.Ythlfbakndbjhoaa
