/- The walk of the statement NumDivides. Condition: errors.errorType holds the handle of the type error. -/
import Derived.Test.YthlfbakndbjhoaaDoorNumC
set_option linter.unusedSimpArgs false
set_option linter.unusedVariables false
namespace Go.Proofs.YthlfbakndbjhoaaDoor
open Go.RowKit

theorem divmod (a b : Int) : divN a b * b + modN a b = a := by
  have h := Int.tdiv_mul_add_tmod a b
  unfold divN modN
  split
  · rw [Int.sub_mul]; omega
  · exact h
theorem mod_pos (a b : Int) (hb : 0 < b) : 0 ≤ modN a b ∧ modN a b < b := by
  obtain ⟨t0, t1⟩ := tmod_bound a b (by omega)
  obtain ⟨g0, g1⟩ := tmod_sign a b
  unfold modN
  split
  · rename_i h; obtain ⟨h1, h2⟩ := h; omega
  · rename_i h
    by_cases hm : a.tmod b = 0
    · omega
    · have : a < 0 ↔ b < 0 := by
        by_cases hx : (a < 0 ↔ b < 0)
        · exact hx
        · exact absurd ⟨hm, hx⟩ h
      omega
theorem mod_neg (a b : Int) (hb : b < 0) : b < modN a b ∧ modN a b ≤ 0 := by
  obtain ⟨t0, t1⟩ := tmod_bound a b (by omega)
  obtain ⟨g0, g1⟩ := tmod_sign a b
  unfold modN
  split
  · rename_i h; obtain ⟨h1, h2⟩ := h; omega
  · rename_i h
    by_cases hm : a.tmod b = 0
    · omega
    · have : a < 0 ↔ b < 0 := by
        by_cases hx : (a < 0 ↔ b < 0)
        · exact hx
        · exact absurd ⟨hm, hx⟩ h
      omega

set_option maxHeartbeats 1000000 in
theorem divides_any (a b : Int) (w : World) (hG : Glob w) (ha0 : -9223372036854775808 ≤ a) (ha1 : a ≤ 9223372036854775807) (hb0 : -9223372036854775808 ≤ b) (hb1 : b ≤ 9223372036854775807) :
    Calls Tryd.prog 3 #[.int .i64 a, .int .i64 b] w fun e w' => e = .returned (.bool true) ∧ Below w.heap.size w w' := by
  have hlt := hG.lt
  by_cases hz : b = 0
  · subst hz
    go_enter Tryd.func3, Tryd.ntmps3
    go_wp2_with fail
    refine (live_any _ hG).mono ?_; rintro e w1 ⟨rfl, hb⟩
    have hG1 : Glob w1 := hG.below hb hlt
    go_wp2_with fail
    refine (div_zero _ _).mono ?_; rintro e w' ⟨rfl, rfl⟩
    go_wp2_with fail
    refine (mod_zero _ _).mono ?_; rintro e w' ⟨rfl, rfl⟩
    go_wp2_with fail
    refine (is_E 21 21 _ hG1 (by decide) (by decide)).mono ?_; rintro e w2 ⟨rfl, hb2⟩
    have hG2 : Glob w2 := hG1.below hb2 hG1.lt
    go_wp2_with fail
    refine (is_E 21 21 _ hG2 (by decide) (by decide)).mono ?_; rintro e w3 ⟨rfl, hb3⟩
    go_wp2
    go_ret
    exact ⟨rfl, (hb.trans (hb2.mono hb.size)).trans (hb3.mono (Nat.le_trans hb.size hb2.size))⟩
  · by_cases hm : b = -1
    · subst hm
      by_cases hmin : a = -9223372036854775808
      · subst hmin
        go_enter Tryd.func3, Tryd.ntmps3
        go_wp2_with fail
        refine (live_any _ hG).mono ?_; rintro e w1 ⟨rfl, hb⟩
        have hG1 : Glob w1 := hG.below hb hlt
        go_wp2_with fail
        refine (div_m1_over _).mono ?_; rintro e w' ⟨rfl, rfl⟩
        go_wp2_with fail
        refine (mod_m1 _ _).mono ?_; rintro e w' ⟨rfl, rfl⟩
        go_wp2_with fail
        refine (is_E 20 20 _ hG1 (by decide) (by decide)).mono ?_; rintro e w2 ⟨rfl, hb2⟩
        go_wp2
        go_ret
        exact ⟨rfl, hb.trans (hb2.mono hb.size)⟩
      · go_enter Tryd.func3, Tryd.ntmps3
        go_wp2_with fail
        refine (live_any _ hG).mono ?_; rintro e w1 ⟨rfl, hb⟩
        go_wp2_with fail
        refine (div_m1 _ _ (by omega) (by omega)).mono ?_; rintro e w' ⟨rfl, rfl⟩
        go_wp2_with fail
        refine (mod_m1 _ _).mono ?_; rintro e w' ⟨rfl, rfl⟩
        go_wp2
        go_ret
        exact ⟨by simp, hb⟩
    · have hdm := divmod a b
      have hfin : (wrap64 (wrap64 (divN a b * b) + modN a b) == a) = true := by rw [beq_iff_eq]; unfold wrap64; omega
      have HF := Lib.hid hfin
      clear hdm hfin
      by_cases hp : 0 < b
      · obtain ⟨m0, m1⟩ := mod_pos a b hp
        go_enter Tryd.func3, Tryd.ntmps3
        go_wp2_with fail
        refine (live_any _ hG).mono ?_; rintro e w1 ⟨rfl, hb⟩
        go_wp2_with fail
        refine (div_any _ _ _ ha0 ha1 hz hm).mono ?_; rintro e w' ⟨rfl, rfl⟩
        go_wp2_with fail
        refine (mod_any _ _ _ hb0 hb1 hz hm).mono ?_; rintro e w' ⟨rfl, rfl⟩
        go_wp2
        go_ret
        exact ⟨by rw [HF.out]; rfl, hb⟩
      · obtain ⟨m0, m1⟩ := mod_neg a b (by omega)
        go_enter Tryd.func3, Tryd.ntmps3
        go_wp2_with fail
        refine (live_any _ hG).mono ?_; rintro e w1 ⟨rfl, hb⟩
        go_wp2_with fail
        refine (div_any _ _ _ ha0 ha1 hz hm).mono ?_; rintro e w' ⟨rfl, rfl⟩
        go_wp2_with fail
        refine (mod_any _ _ _ hb0 hb1 hz hm).mono ?_; rintro e w' ⟨rfl, rfl⟩
        go_wp2
        go_ret
        exact ⟨by rw [HF.out]; rfl, hb⟩
end Go.Proofs.YthlfbakndbjhoaaDoor
