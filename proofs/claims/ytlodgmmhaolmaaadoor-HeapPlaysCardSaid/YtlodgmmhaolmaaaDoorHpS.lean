/- The heap: List, Sorted. -/
import Derived.Test.YtlodgmmhaolmaaaDoorHpK
import Derived.Test.YtlodgmmhaolmaaaDoorHpP
set_option linter.unusedSimpArgs false
set_option linter.unusedVariables false
namespace Go.Proofs.YtlodgmmhaolmaaaDoor
open Go.RowKit
open Go.Sort (grow)
def encE (x : Ent) : List Value := [.int .i64 x.1, strV x.2]
set_option maxHeartbeats 2000000 in
theorem least_g (r1 r2 : Int) (s1 s2 : List UInt8) (w : World) : Calls Tryd.prog 38 #[.agg #[.int .i64 r1, strV s1], .agg #[.int .i64 r2, strV s2]] w fun e w' => e = .returned (.bool (ltE (r1, s1) (r2, s2))) ∧ ∃ os, w' = grow w os := by
  unfold ltE
  simp only
  obtain ⟨X, hX⟩ : ∃ X, decide (r1 < r2) = X := ⟨_, rfl⟩
  obtain ⟨Y, hY⟩ : ∃ Y, decide (r1 = r2) = Y := ⟨_, rfl⟩
  obtain ⟨Z, hZ⟩ : ∃ Z, Op.bytesLess s1 s2 = Z := ⟨_, rfl⟩
  have hY' : (r1 == r2) = Y := by rw [← hY]; by_cases h : r1 = r2 <;> simp [h]
  rw [hX, hY, hZ]
  clear hY
  cases X <;> cases Y <;> cases Z <;>
  · go_enter Tryd.func38, Tryd.ntmps38
    go_wp2
    go_ret
    exact ⟨rfl, _, by rw [Go.Sort.alloc_eq_grow, Go.Sort.alloc_eq_grow, Go.Sort.grow_grow]⟩
set_option maxHeartbeats 2000000 in
theorem most_g (r1 r2 : Int) (s1 s2 : List UInt8) (w : World) : Calls Tryd.prog 39 #[.agg #[.int .i64 r1, strV s1], .agg #[.int .i64 r2, strV s2]] w fun e w' => e = .returned (.bool (ltE (r2, s2) (r1, s1))) ∧ ∃ os, w' = grow w os := by
  go_enter Tryd.func39, Tryd.ntmps39
  go_wp2_with fail
  refine (least_g r2 r1 s2 s1 _).mono ?_
  rintro e w' ⟨rfl, os, rfl⟩
  go_wp2
  go_ret
  exact ⟨rfl, _, by rw [Go.Sort.alloc_eq_grow, Go.Sort.alloc_eq_grow, Go.Sort.grow_grow, Go.Sort.grow_grow]⟩
theorem cf_pos {mo : Bool} {a b : Ent} (h : ahE mo a b = true) : cfE mo a b = -1 := by unfold cfE; rw [if_pos h]
theorem cf_neg {mo : Bool} {a b : Ent} (h : ahE mo a b = false) : cfE mo a b = 1 := by unfold cfE; rw [h]; rfl
set_option maxHeartbeats 2000000 in
set_option maxRecDepth 100000 in
theorem scmp_any (mo : Bool) (x y : Ent) (B0 hb : Nat) (W : World) (h0 : W.cell? ⟨B0, 0, none⟩ = some (.pointer (some ⟨hb, 0, none⟩))) (h2 : W.cell? ⟨hb, 2, none⟩ = some (aheadV mo)) :
    Calls Tryd.prog 30 #[.agg #[.int .i64 x.1, strV x.2], .agg #[.int .i64 y.1, strV y.2], .pointer (some ⟨B0, 0, none⟩)] W fun e w' => e = .returned (.int .i64 (cfE mo x y)) ∧ ∃ q os', w' = grow (W.drewN q) os' := by
  have l0 := cell_lt h0
  have l2 := cell_lt h2
  obtain ⟨r1, s1⟩ := x
  obtain ⟨r2, s2⟩ := y
  cases hc : ahE mo (r1, s1) (r2, s2)
  all_goals
    first | rw [cf_pos hc] | rw [cf_neg hc]
    have HC : Bx _ := ⟨hc⟩
    clear hc
    cases mo
    case' false =>
      have ka : ∀ w, Calls Tryd.prog 38 #[.agg #[.int .i64 r1, strV s1], .agg #[.int .i64 r2, strV s2]] w fun e w' => e = .returned (.bool (ltE (r1, s1) (r2, s2))) ∧ ∃ os, w' = grow w os := fun w => least_g r1 r2 s1 s2 w
      rw [show ltE (r1, s1) (r2, s2) = _ from HC.out] at ka
      replace h2 : W.cell? ⟨hb, 2, none⟩ = some (.func (.func 38) #[] #[]) := h2
    case' true =>
      have ka := fun w => most_g r1 r2 s1 s2 w
      rw [show ltE (r2, s2) (r1, s1) = _ from HC.out] at ka
      replace h2 : W.cell? ⟨hb, 2, none⟩ = some (.func (.func 39) #[] #[]) := h2
    all_goals
      go_enter Tryd.func30, Tryd.ntmps30
      go_wp2_with fail
      have hb2 := below2 W (.cells #[.int .i64 r1, strV s1] 27) (.cells #[.int .i64 r2, strV s2] 27)
      have x1 := heap_alloc_new W (.cells #[.int .i64 r1, strV s1] 27)
      rw [← (below1 (W.alloc (.cells #[.int .i64 r1, strV s1] 27)) (.cells #[.int .i64 r2, strV s2] 27)).block W.heap.size (by simp)] at x1
      have x2 := heap_alloc_new (W.alloc (.cells #[.int .i64 r1, strV s1] 27)) (.cells #[.int .i64 r2, strV s2] 27)
      rw [show (W.alloc (.cells #[.int .i64 r1, strV s1] 27)).heap.size = W.heap.size + 1 by simp] at x2
      have HW2 : Bx ((W.alloc (.cells #[.int .i64 r1, strV s1] 27)).alloc (.cells #[.int .i64 r2, strV s2] 27) = grow W (#[.cells #[.int .i64 r1, strV s1] 27 (0, 0)] ++ #[.cells #[.int .i64 r2, strV s2] 27 (0, 0)])) := ⟨by rw [Go.Sort.alloc_eq_grow, Go.Sort.alloc_eq_grow, Go.Sort.grow_grow]⟩
      change Code.wp _ _ _ _ ((W.alloc (.cells #[.int .i64 r1, strV s1] 27)).alloc (.cells #[.int .i64 r2, strV s2] 27))
      generalize (W.alloc (.cells #[.int .i64 r1, strV s1] 27)).alloc (.cells #[.int .i64 r2, strV s2] 27) = W2 at *
      have y0 : W2.cell? ⟨B0, 0, none⟩ = some (.pointer (some ⟨hb, 0, none⟩)) := by rw [hb2.cell l0]; exact h0
      have y2 := (hb2.cell (p := ⟨hb, 2, none⟩) l2).trans h2
      have z0 : W2.cell? ⟨W.heap.size, 0, none⟩ = some (.int .i64 r1) := cells_at x1 0 _ rfl
      have z1 : W2.cell? ⟨W.heap.size, 1, none⟩ = some (strV s1) := cells_at x1 1 _ rfl
      have z2 : W2.cell? ⟨W.heap.size + 1, 0, none⟩ = some (.int .i64 r2) := cells_at x2 0 _ rfl
      have z3 : W2.cell? ⟨W.heap.size + 1, 1, none⟩ = some (strV s2) := cells_at x2 1 _ rfl
      clear x1 x2 hb2 h0 h2 l0 l2
      go_still_tail 6, (by kernel_rfl)
      change wpList _ _ _ _ _ W2.drew
      go_wp2_with (first | (go_at_call 38; refine (ka _).mono ?_; rintro e w' ⟨rfl, os, rfl⟩) | (go_at_call 39; refine (ka _).mono ?_; rintro e w' ⟨rfl, os, rfl⟩))
      go_ret
      exact ⟨rfl, 1, _, by rw [HW2.out]; exact (Go.Sort.grow_grow (W.drewN 1) _ _)⟩
end Go.Proofs.YtlodgmmhaolmaaaDoor
