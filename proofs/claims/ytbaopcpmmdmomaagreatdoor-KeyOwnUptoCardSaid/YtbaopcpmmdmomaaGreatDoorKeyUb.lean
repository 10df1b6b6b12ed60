/- The walks of the statements KeyEscapes, KeyUnescapes. -/
import Derived.Test.YtbaopcpmmdmomaaGreatDoorKeyUa
import Derived.Test.YtbaopcpmmdmomaaGreatDoorSameA
set_option linter.unusedSimpArgs false
set_option linter.unusedVariables false
namespace Go.Proofs.YtbaopcpmmdmomaaGreatDoor
open Go.RowKit
/-- a box of the call's own with these cells -/
structure VB (w0 w : World) (R : Nat) (xs : List Value) : Prop where
  below : Below R w0 w
  lt : R < w.heap.size
  c : ∀ (i : Nat) (v : Value), xs[i]? = some v → w.cell? ⟨R, i, none⟩ = some v
theorem VB.alloc {w0 w : World} (xs : List Value) (T : Nat) (hb : Below w.heap.size w0 w) : VB w0 (w.alloc (.cells xs.toArray T)) w.heap.size xs where
  below := hb.trans (below1 _ _)
  lt := by simp only [heap_push, Array.size_push]; omega
  c := fun i v h => by rw [World.cell?_alloc_at _ _ _ _ rfl]; simpa using h
theorem VB.step {w0 w w' : World} {R : Nat} {xs : List Value} (g : VB w0 w R xs) (hb : Below w.heap.size w w') : VB w0 w' R xs where
  below := g.below.trans (hb.mono (Nat.le_of_lt g.lt))
  lt := Nat.lt_of_lt_of_le g.lt hb.size
  c := fun i v h => by rw [hb.cell (p := ⟨R, i, none⟩) g.lt]; exact g.c i v h
end Go.Proofs.YtbaopcpmmdmomaaGreatDoor
