/- The walk of the statement NumDivides. Condition: errors.errorType holds the handle of the type error. -/
import Derived.Test.YthlfbakndbjhoaaNumC
set_option linter.unusedSimpArgs false
set_option linter.unusedVariables false
namespace Go.Proofs.Ythlfbakndbjhoaa
open Go.RowKit

theorem divmod (a b : Int) : divN a b * b + modN a b = a := by
  have h := Int.tdiv_mul_add_tmod a b
  unfold divN modN
  split
  · rw [Int.sub_mul]; omega
  · exact h
theorem mod_pos (a b : Int) (hb : 0 < b) : 0 ≤ modN a b ∧ modN a b < b := by
  obtain ⟨t0, t1⟩ := tmod_bound a b (by omega)
  obtain ⟨g0, g1⟩ := tmod_sign a b
  unfold modN
  split
  · rename_i h; obtain ⟨h1, h2⟩ := h; omega
  · rename_i h
    by_cases hm : a.tmod b = 0
    · omega
    · have : a < 0 ↔ b < 0 := by
        by_cases hx : (a < 0 ↔ b < 0)
        · exact hx
        · exact absurd ⟨hm, hx⟩ h
      omega
theorem mod_neg (a b : Int) (hb : b < 0) : b < modN a b ∧ modN a b ≤ 0 := by
  obtain ⟨t0, t1⟩ := tmod_bound a b (by omega)
  obtain ⟨g0, g1⟩ := tmod_sign a b
  unfold modN
  split
  · rename_i h; obtain ⟨h1, h2⟩ := h; omega
  · rename_i h
    by_cases hm : a.tmod b = 0
    · omega
    · have : a < 0 ↔ b < 0 := by
        by_cases hx : (a < 0 ↔ b < 0)
        · exact hx
        · exact absurd ⟨hm, hx⟩ h
      omega

end Go.Proofs.Ythlfbakndbjhoaa
