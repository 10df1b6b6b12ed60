/- Contracts of package num's functions over int64 (Add, Sub, Neg, Div, Mod, Window, Log), and of fault.New; and of the document's. -/
import Derived.Test.YthlfbakndbjhoaaSame
set_option linter.unusedSimpArgs false
set_option linter.unusedVariables false
namespace Go.Proofs.Ythlfbakndbjhoaa
open Go.RowKit

theorem new_any (c : Int) (w : World) (hc : 1 ≤ c) : Calls Try.prog 15 #[.int .i64 c] w fun e w' => e = .returned (errV c) ∧ w = w' := by
  have h : (c == 0) = false := by simp; omega
  go_enter Try.func15, Try.ntmps15
  go_wp2
  go_ret
  exact ⟨rfl, rfl⟩
/-- what Div tells of a divisor that is neither 0 nor -1 -/
def divN (a b : Int) : Int := if a.tmod b ≠ 0 ∧ ¬ (a < 0 ↔ b < 0) then a.tdiv b - 1 else a.tdiv b
def modN (a b : Int) : Int := if a.tmod b ≠ 0 ∧ ¬ (a < 0 ↔ b < 0) then a.tmod b + b else a.tmod b
theorem tdiv_half (a b : Int) (hb : b ≠ 0) (hb1 : b ≠ -1) (hb2 : b ≠ 1) (ha0 : -9223372036854775808 ≤ a) (ha1 : a ≤ 9223372036854775807) : -4611686018427387904 ≤ a.tdiv b ∧ a.tdiv b ≤ 4611686018427387904 := by
  have h : (a.tdiv b).natAbs = a.natAbs / b.natAbs := Int.natAbs_tdiv a b
  have h2 : a.natAbs / b.natAbs ≤ a.natAbs / 2 := Nat.div_le_div_left (by omega) (by omega)
  omega
theorem tdiv_bound (a b : Int) (hb : b ≠ 0) (hb1 : b ≠ -1) (ha0 : -9223372036854775808 ≤ a) (ha1 : a ≤ 9223372036854775807) : -9223372036854775808 ≤ a.tdiv b ∧ a.tdiv b ≤ 9223372036854775807 := by
  by_cases h : b = 1
  · subst h; simp; omega
  · have := tdiv_half a b hb hb1 h ha0 ha1; omega
theorem tmod_one_zero {a b : Int} (h : a.tmod b ≠ 0) : b ≠ 1 := by rintro rfl; simp at h

theorem tmod_bound (a b : Int) (hb : b ≠ 0) : -(b.natAbs : Int) < a.tmod b ∧ a.tmod b < b.natAbs := by
  have h : (a.tmod b).natAbs = a.natAbs % b.natAbs := Int.natAbs_tmod a b
  have h2 := Nat.mod_lt a.natAbs (show b.natAbs > 0 by omega)
  omega
theorem tmod_sign (a b : Int) : (0 ≤ a → 0 ≤ a.tmod b) ∧ (a ≤ 0 → a.tmod b ≤ 0) := ⟨fun h => Int.tmod_nonneg b h, fun h => by have := Int.tmod_nonneg b (a := -a) (by omega); rw [Int.neg_tmod] at this; omega⟩

end Go.Proofs.Ythlfbakndbjhoaa
