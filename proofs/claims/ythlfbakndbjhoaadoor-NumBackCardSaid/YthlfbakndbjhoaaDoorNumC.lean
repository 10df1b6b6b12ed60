/- The statements' 'live' of layer num. Condition: errors.errorType holds the handle of the type error. -/
import Derived.Test.YthlfbakndbjhoaaDoorNumB
set_option linter.unusedSimpArgs false
set_option linter.unusedVariables false
namespace Go.Proofs.YthlfbakndbjhoaaDoor
open Go.RowKit

theorem plus_live (w : World) : Calls Tryd.prog 17 #[.agg #[.int .i64 0, .int .u64 0], .int .i64 (-1)] w fun e w' => e = .returned (.agg #[.int .i64 (-1), .int .u64 18446744073709551615]) ∧ Below w.heap.size w w' :=
  (plus_any 0 0 (-1) (by decide) (by decide) w).mono fun e w' ⟨he, hb⟩ => ⟨by rw [he, show plusHi 0 0 (-1) = -1 by decide +kernel, show plusLo 0 (-1) = 18446744073709551615 by decide +kernel], hb⟩

theorem live_any (w : World) (hG : Glob w) : Calls Tryd.prog 12 #[] w fun e w' => e = .returned (.bool true) ∧ Below w.heap.size w w' := by
  go_enter Tryd.func12, Tryd.ntmps12
  go_wp2_with (first
    | (go_at_call 20; refine (add_ok _ _ _ (by decide) (by decide)).mono ?_; rintro e w' ⟨rfl, rfl⟩)
    | (go_at_call 13; refine (div_any (-7) 2 _ (by decide) (by decide) (by decide) (by decide)).mono ?_; rintro e w' ⟨rfl, rfl⟩; rw [show divN (-7) 2 = -4 by decide])
    | (go_at_call 14; refine (mod_zero _ _).mono ?_; rintro e w' ⟨rfl, rfl⟩)
    | (go_at_call 15; refine (is_E 21 21 _ hG (by decide) (by decide)).mono ?_; rintro e w1 ⟨rfl, hb⟩)
    | (go_at_call 17; refine (plus_live _).mono ?_; rintro e w2 ⟨rfl, hb2⟩))
  go_ret
  exact ⟨rfl, hb.trans (hb2.mono hb.size)⟩
end Go.Proofs.YthlfbakndbjhoaaDoor
