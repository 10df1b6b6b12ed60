/- Contracts of num.Window, and the walk of the statement NumWindow. Condition: errors.errorType holds the handle of the type error. -/
import Derived.Test.YthlfbakndbjhoaaNumDiv
set_option linter.unusedSimpArgs false
set_option linter.unusedVariables false
namespace Go.Proofs.Ythlfbakndbjhoaa
open Go.RowKit

theorem modN_emod (t e : Int) (he : 1 ≤ e) : modN t e = t % e := by
  have h := divmod t e
  obtain ⟨m0, m1⟩ := mod_pos t e (by omega)
  generalize divN t e = q at h
  generalize modN t e = m at *
  subst h
  rw [Int.add_comm, Int.add_mul_emod_self_right, Int.emod_eq_of_lt m0 m1]
/-- how far the beginning lies behind the time -/
def winBack (t e o : Int) : Int := (t - o) % e
theorem winBack_eq (t e o : Int) (he : 1 ≤ e) (ho0 : 0 ≤ o) (ho1 : o < e) : winBack t e o = if t % e - o < 0 then t % e - o + e else t % e - o := by
  unfold winBack
  rw [Int.sub_emod, Int.emod_eq_of_lt ho0 ho1]
  have h0 := Int.emod_nonneg t (show e ≠ 0 by omega)
  have h1 := Int.emod_lt_of_pos t (show 0 < e by omega)
  generalize t % e = m at *
  split
  · rw [← Int.add_emod_right, Int.emod_eq_of_lt (by omega) (by omega)]
  · exact Int.emod_eq_of_lt (by omega) (by omega)
theorem winBack_range (t e o : Int) (he : 1 ≤ e) : 0 ≤ winBack t e o ∧ winBack t e o < e :=
  ⟨Int.emod_nonneg _ (by omega), Int.emod_lt_of_pos _ (by omega)⟩
theorem winBack_more (t e o k : Int) (he : 1 ≤ e) (hk0 : 0 ≤ k) (hk1 : k < e) : winBack (t - winBack t e o + k) e o = k := by
  have h := Int.mul_ediv_add_emod (t - o) e
  unfold winBack
  generalize (t - o) / e = q at h
  generalize (t - o) % e = r at *
  have e1 : t - r + k - o = k + e * q := by omega
  rw [e1, Int.add_mul_emod_self_left, Int.emod_eq_of_lt hk0 hk1]

end Go.Proofs.Ythlfbakndbjhoaa
