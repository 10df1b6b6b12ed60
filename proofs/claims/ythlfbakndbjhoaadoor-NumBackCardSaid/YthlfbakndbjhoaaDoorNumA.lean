/- Contracts of package num's functions over int64 (Add, Sub, Neg, Div, Mod, Window, Log), and of fault.New; and of the document's. -/
import Derived.Test.YthlfbakndbjhoaaDoorSame
set_option linter.unusedSimpArgs false
set_option linter.unusedVariables false
namespace Go.Proofs.YthlfbakndbjhoaaDoor
open Go.RowKit

theorem new_any (c : Int) (w : World) (hc : 1 ≤ c) : Calls Tryd.prog 46 #[.int .i64 c] w fun e w' => e = .returned (errV c) ∧ w = w' := by
  have h : (c == 0) = false := by simp; omega
  go_enter Tryd.func46, Tryd.ntmps46
  go_wp2
  go_ret
  exact ⟨rfl, rfl⟩
theorem badnew_any (c : Int) (w : World) : Calls Tryd.prog 51 #[.int .i64 c] w fun e w' => e = .returned (badV c) ∧ Below w.heap.size w w' := by
  go_enter Tryd.func51, Tryd.ntmps51
  go_wp2
  refine bodyPost_ret (v := badV c) (by simp [results, Tryd.results51, go_sem]) rfl ⟨rfl, (Below.refl _ _).alloc (Nat.le_refl _) _⟩

theorem add_ok (a b : Int) (w : World) (h0 : -9223372036854775808 ≤ a + b) (h1 : a + b ≤ 9223372036854775807) :
    Calls Tryd.prog 20 #[.int .i64 a, .int .i64 b] w fun e w' => e = .returned (.tuple #[.int .i64 (a + b), .nilIface]) ∧ w = w' := by
  have ht : (decide (a < a + b) == decide (0 < b)) = true := by rw [beq_iff_eq, decide_eq_decide]; omega
  go_enter Tryd.func20, Tryd.ntmps20
  go_wp2
  go_ret2
  exact ⟨rfl, rfl⟩
theorem add_over (a b : Int) (w : World) (ha0 : -9223372036854775808 ≤ a) (ha1 : a ≤ 9223372036854775807) (hb0 : -9223372036854775808 ≤ b) (hb1 : b ≤ 9223372036854775807) (h : ¬ (-9223372036854775808 ≤ a + b ∧ a + b ≤ 9223372036854775807)) :
    Calls Tryd.prog 20 #[.int .i64 a, .int .i64 b] w fun e w' => e = .returned (.tuple #[.int .i64 0, errV 20]) ∧ w = w' := by
  have ht : (decide (a < wrap64 (a + b)) == decide (0 < b)) = false := by rw [beq_eq_false_iff_ne, ne_eq, decide_eq_decide]; unfold wrap64; omega
  clear h
  go_enter Tryd.func20, Tryd.ntmps20
  go_wp2_with (go_at_call 46; refine (new_any _ _ (by decide)).mono ?_; rintro e w' ⟨rfl, rfl⟩)
  go_ret2
  exact ⟨rfl, rfl⟩
theorem sub_ok (a b : Int) (w : World) (h0 : -9223372036854775808 ≤ a - b) (h1 : a - b ≤ 9223372036854775807) :
    Calls Tryd.prog 23 #[.int .i64 a, .int .i64 b] w fun e w' => e = .returned (.tuple #[.int .i64 (a - b), .nilIface]) ∧ w = w' := by
  have ht : (decide (a - b < a) == decide (0 < b)) = true := by rw [beq_iff_eq, decide_eq_decide]; omega
  go_enter Tryd.func23, Tryd.ntmps23
  go_wp2
  go_ret2
  exact ⟨rfl, rfl⟩
theorem sub_over (a b : Int) (w : World) (ha0 : -9223372036854775808 ≤ a) (ha1 : a ≤ 9223372036854775807) (hb0 : -9223372036854775808 ≤ b) (hb1 : b ≤ 9223372036854775807) (h : ¬ (-9223372036854775808 ≤ a - b ∧ a - b ≤ 9223372036854775807)) :
    Calls Tryd.prog 23 #[.int .i64 a, .int .i64 b] w fun e w' => e = .returned (.tuple #[.int .i64 0, errV 20]) ∧ w = w' := by
  have ht : (decide (wrap64 (a - b) < a) == decide (0 < b)) = false := by rw [beq_eq_false_iff_ne, ne_eq, decide_eq_decide]; unfold wrap64; omega
  clear h
  go_enter Tryd.func23, Tryd.ntmps23
  go_wp2_with (go_at_call 46; refine (new_any _ _ (by decide)).mono ?_; rintro e w' ⟨rfl, rfl⟩)
  go_ret2
  exact ⟨rfl, rfl⟩
theorem neg_ok (a : Int) (w : World) (h0 : -9223372036854775807 ≤ a) (h1 : a ≤ 9223372036854775808) :
    Calls Tryd.prog 27 #[.int .i64 a] w fun e w' => e = .returned (.tuple #[.int .i64 (-a), .nilIface]) ∧ w = w' := by
  go_enter Tryd.func27, Tryd.ntmps27
  go_wp2_with (go_at_call 23; refine (sub_ok _ _ _ (by omega) (by omega)).mono ?_; rintro e w' ⟨rfl, rfl⟩)
  go_ret2
  exact ⟨by simp, rfl⟩
theorem neg_over (w : World) :
    Calls Tryd.prog 27 #[.int .i64 (-9223372036854775808)] w fun e w' => e = .returned (.tuple #[.int .i64 0, errV 20]) ∧ w = w' := by
  go_enter Tryd.func27, Tryd.ntmps27
  go_wp2_with (go_at_call 23; refine (sub_over _ _ _ (by omega) (by omega) (by omega) (by omega) (by omega)).mono ?_; rintro e w' ⟨rfl, rfl⟩)
  go_ret2
  exact ⟨rfl, rfl⟩

/-- what Div tells of a divisor that is neither 0 nor -1 -/
def divN (a b : Int) : Int := if a.tmod b ≠ 0 ∧ ¬ (a < 0 ↔ b < 0) then a.tdiv b - 1 else a.tdiv b
def modN (a b : Int) : Int := if a.tmod b ≠ 0 ∧ ¬ (a < 0 ↔ b < 0) then a.tmod b + b else a.tmod b
theorem tdiv_half (a b : Int) (hb : b ≠ 0) (hb1 : b ≠ -1) (hb2 : b ≠ 1) (ha0 : -9223372036854775808 ≤ a) (ha1 : a ≤ 9223372036854775807) : -4611686018427387904 ≤ a.tdiv b ∧ a.tdiv b ≤ 4611686018427387904 := by
  have h : (a.tdiv b).natAbs = a.natAbs / b.natAbs := Int.natAbs_tdiv a b
  have h2 : a.natAbs / b.natAbs ≤ a.natAbs / 2 := Nat.div_le_div_left (by omega) (by omega)
  omega
theorem tdiv_bound (a b : Int) (hb : b ≠ 0) (hb1 : b ≠ -1) (ha0 : -9223372036854775808 ≤ a) (ha1 : a ≤ 9223372036854775807) : -9223372036854775808 ≤ a.tdiv b ∧ a.tdiv b ≤ 9223372036854775807 := by
  by_cases h : b = 1
  · subst h; simp; omega
  · have := tdiv_half a b hb hb1 h ha0 ha1; omega
theorem tmod_one_zero {a b : Int} (h : a.tmod b ≠ 0) : b ≠ 1 := by rintro rfl; simp at h

theorem div_zero (a : Int) (w : World) :
    Calls Tryd.prog 13 #[.int .i64 a, .int .i64 0] w fun e w' => e = .returned (.tuple #[.int .i64 0, errV 21]) ∧ w = w' := by
  go_enter Tryd.func13, Tryd.ntmps13
  go_wp2_with (go_at_call 46; refine (new_any _ _ (by decide)).mono ?_; rintro e w' ⟨rfl, rfl⟩)
  go_ret2
  exact ⟨rfl, rfl⟩
theorem div_m1 (a : Int) (w : World) (h0 : -9223372036854775807 ≤ a) (h1 : a ≤ 9223372036854775807) :
    Calls Tryd.prog 13 #[.int .i64 a, .int .i64 (-1)] w fun e w' => e = .returned (.tuple #[.int .i64 (-a), .nilIface]) ∧ w = w' := by
  go_enter Tryd.func13, Tryd.ntmps13
  go_wp2_with (go_at_call 27; refine (neg_ok _ _ (by omega) (by omega)).mono ?_; rintro e w' ⟨rfl, rfl⟩)
  go_ret2
  exact ⟨rfl, rfl⟩
theorem div_m1_over (w : World) :
    Calls Tryd.prog 13 #[.int .i64 (-9223372036854775808), .int .i64 (-1)] w fun e w' => e = .returned (.tuple #[.int .i64 0, errV 20]) ∧ w = w' := by
  go_enter Tryd.func13, Tryd.ntmps13
  go_wp2_with (go_at_call 27; refine (neg_over _).mono ?_; rintro e w' ⟨rfl, rfl⟩)
  go_ret2
  exact ⟨rfl, rfl⟩
theorem div_any (a b : Int) (w : World) (ha0 : -9223372036854775808 ≤ a) (ha1 : a ≤ 9223372036854775807) (hb : b ≠ 0) (hbm : b ≠ -1) :
    Calls Tryd.prog 13 #[.int .i64 a, .int .i64 b] w fun e w' => e = .returned (.tuple #[.int .i64 (divN a b), .nilIface]) ∧ w = w' := by
  have h0 : (b == 0) = false := by simpa using hb
  have h1 : (b == -1) = false := by simpa using hbm
  obtain ⟨t0, t1⟩ := tdiv_bound a b hb hbm ha0 ha1
  by_cases hm : a.tmod b = 0
  · have e : divN a b = a.tdiv b := by unfold divN; rw [if_neg (by simp [hm])]
    rw [e]
    have m0 : (a.tmod b != 0) = false := by simpa using hm
    clear e hm hbm
    go_enter Tryd.func13, Tryd.ntmps13
    go_wp2
    go_ret2
    exact ⟨rfl, rfl⟩
  · obtain ⟨u0, u1⟩ := tdiv_half a b hb hbm (tmod_one_zero hm) ha0 ha1
    have m0 : (a.tmod b != 0) = true := by simpa using hm
    by_cases hs : (a < 0 ↔ b < 0)
    · have e : divN a b = a.tdiv b := by unfold divN; rw [if_neg (by simp [hs])]
      have s0 : (!decide (a < 0) == decide (b < 0)) = false := by by_cases h1 : a < 0 <;> by_cases h2 : b < 0 <;> first | (simp [h1, h2]; done) | (exfalso; omega)
      rw [e]
      clear e hs hbm
      go_enter Tryd.func13, Tryd.ntmps13
      go_wp2
      go_ret2
      exact ⟨rfl, rfl⟩
    · have e : divN a b = a.tdiv b - 1 := by unfold divN; rw [if_pos ⟨hm, hs⟩]
      have s0 : (!decide (a < 0) == decide (b < 0)) = true := by by_cases h1 : a < 0 <;> by_cases h2 : b < 0 <;> first | (simp [h1, h2]; done) | (exfalso; omega)
      rw [e]
      clear e hs hbm
      go_enter Tryd.func13, Tryd.ntmps13
      go_wp2
      go_ret2
      exact ⟨rfl, rfl⟩

theorem tmod_bound (a b : Int) (hb : b ≠ 0) : -(b.natAbs : Int) < a.tmod b ∧ a.tmod b < b.natAbs := by
  have h : (a.tmod b).natAbs = a.natAbs % b.natAbs := Int.natAbs_tmod a b
  have h2 := Nat.mod_lt a.natAbs (show b.natAbs > 0 by omega)
  omega
theorem tmod_sign (a b : Int) : (0 ≤ a → 0 ≤ a.tmod b) ∧ (a ≤ 0 → a.tmod b ≤ 0) := ⟨fun h => Int.tmod_nonneg b h, fun h => by have := Int.tmod_nonneg b (a := -a) (by omega); rw [Int.neg_tmod] at this; omega⟩

theorem mod_zero (a : Int) (w : World) :
    Calls Tryd.prog 14 #[.int .i64 a, .int .i64 0] w fun e w' => e = .returned (.tuple #[.int .i64 0, errV 21]) ∧ w = w' := by
  go_enter Tryd.func14, Tryd.ntmps14
  go_wp2_with (go_at_call 46; refine (new_any _ _ (by decide)).mono ?_; rintro e w' ⟨rfl, rfl⟩)
  go_ret2
  exact ⟨rfl, rfl⟩
theorem mod_m1 (a : Int) (w : World) :
    Calls Tryd.prog 14 #[.int .i64 a, .int .i64 (-1)] w fun e w' => e = .returned (.tuple #[.int .i64 0, .nilIface]) ∧ w = w' := by
  go_enter Tryd.func14, Tryd.ntmps14
  go_wp2
  go_ret2
  exact ⟨rfl, rfl⟩
theorem mod_any (a b : Int) (w : World) (hb0 : -9223372036854775808 ≤ b) (hb1 : b ≤ 9223372036854775807) (hb : b ≠ 0) (hbm : b ≠ -1) :
    Calls Tryd.prog 14 #[.int .i64 a, .int .i64 b] w fun e w' => e = .returned (.tuple #[.int .i64 (modN a b), .nilIface]) ∧ w = w' := by
  have h0 : (b == 0) = false := by simpa using hb
  have h1 : (b == -1) = false := by simpa using hbm
  obtain ⟨t0, t1⟩ := tmod_bound a b hb
  obtain ⟨g0, g1⟩ := tmod_sign a b
  by_cases hm : a.tmod b = 0
  · have e : modN a b = a.tmod b := by unfold modN; rw [if_neg (by simp [hm])]
    rw [e]
    have m0 : (a.tmod b != 0) = false := by simpa using hm
    clear e hm hbm t0 t1 g0 g1
    go_enter Tryd.func14, Tryd.ntmps14
    go_wp2
    go_ret2
    exact ⟨rfl, rfl⟩
  · have m0 : (a.tmod b != 0) = true := by simpa using hm
    by_cases hs : (a < 0 ↔ b < 0)
    · have e : modN a b = a.tmod b := by unfold modN; rw [if_neg (by simp [hs])]
      have s1 : (!decide (a.tmod b < 0) == decide (b < 0)) = false := by by_cases h1 : a.tmod b < 0 <;> by_cases h2 : b < 0 <;> first | (simp [h1, h2]; done) | (exfalso; omega)
      rw [e]
      clear e hs hbm t0 t1 g0 g1
      go_enter Tryd.func14, Tryd.ntmps14
      go_wp2
      go_ret2
      exact ⟨rfl, rfl⟩
    · have e : modN a b = a.tmod b + b := by unfold modN; rw [if_pos ⟨hm, hs⟩]
      have s1 : (!decide (a.tmod b < 0) == decide (b < 0)) = true := by by_cases h1 : a.tmod b < 0 <;> by_cases h2 : b < 0 <;> first | (simp [h1, h2]; done) | (exfalso; omega)
      have u0 : -9223372036854775808 ≤ a.tmod b + b := by omega
      have u1 : a.tmod b + b ≤ 9223372036854775807 := by omega
      rw [e]
      clear e hs hbm t0 t1 g0 g1
      go_enter Tryd.func14, Tryd.ntmps14
      go_wp2
      go_ret2
      exact ⟨rfl, rfl⟩
end Go.Proofs.YthlfbakndbjhoaaDoor
