/- cmp.Compare at texts, cmp.Or, the program's comparison of tags. The program's comparison of tags, handed to slices.CompareFunc. slices.CompareFunc at tags; key.Compare. -/
import Derived.Test.YtbaopcpmmdmomaaGreatDoorKeyP
import Derived.StillTailTactics
import Derived.RegionTactic
import Derived.Deep.RegionHeld3
set_option linter.unusedSimpArgs false
set_option linter.unusedVariables false
namespace Go.Proofs.YtbaopcpmmdmomaaGreatDoor
section
open Go.RowKit
theorem nan_any (a : List UInt8) (w : World) :
    Calls Tryz.prog 71 #[strV a] w fun e w' => e = .returned (.bool false) ∧ w = w' := by
  go_enter Tryz.func71, Tryz.ntmps71
  go_wp2
  go_ret
  exact ⟨by simp, rfl⟩
theorem ccmp_any (a b : List UInt8) (w : World) :
    Calls Tryz.prog 55 #[strV a, strV b] w fun e w' => e = .returned (.int .i64 (cmpL a b)) ∧ w = w' := by
  have kn := fun a w => nan_any a w
  unfold cmpL
  obtain ⟨L, hL⟩ : ∃ L, Op.bytesLess a b = L := ⟨_, rfl⟩
  obtain ⟨E, hE⟩ : ∃ E, (a == b) = E := ⟨_, rfl⟩
  rw [hL, hE]
  cases L <;> cases E <;>
  · go_enter Tryz.func55, Tryz.ntmps55
    go_wp2_with (go_at_call 71; refine (kn _ _).mono ?_; rintro e w' ⟨rfl, rfl⟩)
    go_ret
    exact ⟨rfl, rfl⟩
/-- the first of them that is not 0 -/
def orL : List Int → Int
  | [] => 0
  | x :: r => if x = 0 then orL r else x
end
section
open Go.RowKit
def tagCmp (a b a' b' : List UInt8) : Int := if cmpL a a' = 0 then cmpL b b' else cmpL a a'
end
section
open Go.RowKit
theorem cmpFrom_step (k1 v1 k2 v2 : Nat → List UInt8) (n1 n2 f i : Nat) : cmpFrom k1 v1 k2 v2 n1 n2 (f + 1) i = if tagCmp (k1 i) (v1 i) (k2 i) (v2 i) = 0 then cmpFrom k1 v1 k2 v2 n1 n2 f (i + 1) else tagCmp (k1 i) (v1 i) (k2 i) (v2 i) := by
  simp only [cmpFrom]
  unfold tagCmp
  by_cases h1 : cmpL (k1 i) (k2 i) = 0
  · simp only [h1, if_true]
  · simp only [h1, if_false]
end
end Go.Proofs.YtbaopcpmmdmomaaGreatDoor
