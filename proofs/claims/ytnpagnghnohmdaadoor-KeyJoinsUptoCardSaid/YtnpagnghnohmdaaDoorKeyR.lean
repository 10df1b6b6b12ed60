/- The program's comparison of tags, handed to slices.CompareFunc. -/
import Derived.Test.YtnpagnghnohmdaaDoorKeyQ
import Derived.RegionTactic
import Derived.Deep.RegionHeld3
set_option linter.unusedSimpArgs false
set_option linter.unusedVariables false
namespace Go.Proofs.YtnpagnghnohmdaaDoor
open Go.RowKit
def tagCmp (a b a' b' : List UInt8) : Int := if cmpL a a' = 0 then cmpL b b' else cmpL a a'
set_option maxHeartbeats 2000000 in
set_option maxRecDepth 100000 in
theorem tagcmp_any (a b a' b' : List UInt8) (w : World) :
    Calls Tryd.prog 61 #[.agg #[strV a, strV b], .agg #[strV a', strV b']] w fun e w' => e = .returned (.int .i64 (tagCmp a b a' b')) ∧ Below w.heap.size w w' := by
  have hb0 := below2 w (.cells #[strV a, strV b] 67) (.cells #[strV a', strV b'] 67)
  have c0 : ((w.alloc (.cells #[strV a, strV b] 67)).alloc (.cells #[strV a', strV b'] 67)).cell? ⟨w.heap.size, 0, none⟩ = some (strV a) := by
    rw [World.cell?_alloc_lt _ _ _ (by simp only [heap_push, Array.size_push]; omega), World.cell?_alloc_at _ _ _ _ rfl]; rfl
  have c1 : ((w.alloc (.cells #[strV a, strV b] 67)).alloc (.cells #[strV a', strV b'] 67)).cell? ⟨w.heap.size, 1, none⟩ = some (strV b) := by
    rw [World.cell?_alloc_lt _ _ _ (by simp only [heap_push, Array.size_push]; omega), World.cell?_alloc_at _ _ _ _ rfl]; rfl
  have c2 : ((w.alloc (.cells #[strV a, strV b] 67)).alloc (.cells #[strV a', strV b'] 67)).cell? ⟨w.heap.size + 1, 0, none⟩ = some (strV a') := by
    rw [World.cell?_alloc_at _ _ _ _ (by simp only [heap_push, Array.size_push])]; rfl
  have c3 : ((w.alloc (.cells #[strV a, strV b] 67)).alloc (.cells #[strV a', strV b'] 67)).cell? ⟨w.heap.size + 1, 1, none⟩ = some (strV b') := by
    rw [World.cell?_alloc_at _ _ _ _ (by simp only [heap_push, Array.size_push])]; rfl
  have k1 : ∀ w, Calls Tryd.prog 63 #[strV a, strV a'] w fun e w' => e = .returned (.int .i64 (cmpL a a')) ∧ w' = w := fun w => (ccmp_any a a' w).mono fun e w' ⟨h1, h2⟩ => ⟨h1, h2.symm⟩
  have k2 : ∀ w, Calls Tryd.prog 63 #[strV b, strV b'] w fun e w' => e = .returned (.int .i64 (cmpL b b')) ∧ w' = w := fun w => (ccmp_any b b' w).mono fun e w' ⟨h1, h2⟩ => ⟨h1, h2.symm⟩
  obtain ⟨x, hx⟩ : ∃ x, cmpL a a' = x := ⟨_, rfl⟩
  obtain ⟨y, hy⟩ : ∃ y, cmpL b b' = y := ⟨_, rfl⟩
  have HE : Bx (tagCmp a b a' b' = orL [x, y]) := ⟨by unfold tagCmp orL orL orL; rw [hx, hy]; repeat' split <;> simp_all⟩
  rw [hx] at k1
  rw [hy] at k2
  clear hx hy
  go_enter Tryd.func61, Tryd.ntmps61
  go_wp2_with fail
  have HB : Bx _ := ⟨hb0⟩
  clear hb0
  generalize ((w.alloc (.cells #[strV a, strV b] 67)).alloc (.cells #[strV a', strV b'] 67)) = w0 at *
  go_still_tail 10, (by kernel_rfl)
  still_call (k1 _)
  repeat still_step
  still_call (k2 _)
  repeat still_step
  refine wpStill_nil ?_
  change wpList _ _ _ _ _ w0.drew
  have HC : Bx (Below w.heap.size w w0.drew) := ⟨HB.out.trans (Below.mono ⟨rfl, rfl, rfl, Nat.le_refl _, fun _ _ => rfl⟩ HB.out.size)⟩
  clear HB c0 c1 c2 c3 k1 k2
  generalize w0.drew = w1 at *
  have hr : ∀ i (h : i < [x, y].length), (w1.alloc (.cells #[.int .i64 x, .int .i64 y] 3)).cell? ⟨w1.heap.size, i, none⟩ = some (.int .i64 [x, y][i]) := fun i h => by
    rw [World.cell?_alloc_at _ _ _ _ rfl]
    match i, h with
    | 0, _ => rfl
    | 1, _ => rfl
  have ko := or_any w1.heap.size [x, y] 2 _ (by simp) hr
  clear hr
  go_wp2_with fail
  refine ko.mono ?_
  rintro e w2 ⟨rfl, rfl⟩
  clear ko
  go_wp2
  go_ret
  exact ⟨by rw [HE.out]; rfl, HC.out.trans ((below1 _ _).mono HC.out.size)⟩
end Go.Proofs.YtnpagnghnohmdaaDoor
