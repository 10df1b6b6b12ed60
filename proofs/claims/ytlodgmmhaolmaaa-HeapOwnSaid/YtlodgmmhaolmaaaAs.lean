/- errors.As of an error of a number (api.Errno), at a target of each of this program's three types of errors. Condition: errors.errorType holds the handle of the type error. -/
import Derived.Test.YtlodgmmhaolmaaaErr
import Derived.Below
namespace Go.Proofs.Ytlodgmmhaolmaaa
open Go.RowKit Go.Extern.Stop Go.Stop Go.Extern

theorem heap_push (w : World) (o : Obj) : (w.alloc o).heap = w.heap.push o := rfl
theorem grown_alloc {a w : World} {row : Option Nat} (h : a.grownBy w row) (o : Obj) : a.grownBy (w.alloc o) row :=
  ⟨h.os, h.tape, h.output, Nat.le_trans h.size (by simp), fun i hi hne => (Below.heap_alloc w o i (Nat.lt_of_lt_of_le hi h.size)).trans (h.block i hi hne)⟩
theorem grown_setCell {a w : World} {g : Nat} (h : a.grownBy w (some g)) {p : Addr} (hp : p.block = g) (u : Value) : a.grownBy (w.setCell p u) (some g) :=
  ⟨h.os, h.tape, h.output, by simpa [World.setCell] using h.size, fun i hi hne => (Below.heap_setCell w p u i (by rintro rfl; exact hne (by rw [hp]))).trans (h.block i hi hne)⟩
theorem grown_refl (a : World) (row : Option Nat) : a.grownBy a row := ⟨rfl, rfl, rfl, Nat.le_refl _, fun _ _ _ => rfl⟩
theorem below_step {w a : World} (h : Below w.heap.size w a) (o : Obj) : Below w.heap.size w (a.alloc o) := h.alloc h.size o
theorem below1 (w : World) (o1 : Obj) : Below w.heap.size w (w.alloc o1) := (below_step (Below.refl _ _) _)
theorem below2 (w : World) (o1 o2 : Obj) : Below w.heap.size w ((w.alloc o1).alloc o2) := (below_step (below_step (Below.refl _ _) _) _)
theorem below3 (w : World) (o1 o2 o3 : Obj) : Below w.heap.size w (((w.alloc o1).alloc o2).alloc o3) := (below_step (below_step (below_step (Below.refl _ _) _) _) _)
theorem below4 (w : World) (o1 o2 o3 o4 : Obj) : Below w.heap.size w ((((w.alloc o1).alloc o2).alloc o3).alloc o4) := (below_step (below_step (below_step (below_step (Below.refl _ _) _) _) _) _)
theorem below5 (w : World) (o1 o2 o3 o4 o5 : Obj) : Below w.heap.size w (((((w.alloc o1).alloc o2).alloc o3).alloc o4).alloc o5) := (below_step (below_step (below_step (below_step (below_step (Below.refl _ _) _) _) _) _) _)
theorem below6 (w : World) (o1 o2 o3 o4 o5 o6 : Obj) : Below w.heap.size w ((((((w.alloc o1).alloc o2).alloc o3).alloc o4).alloc o5).alloc o6) := (below_step (below_step (below_step (below_step (below_step (below_step (Below.refl _ _) _) _) _) _) _) _)
theorem below7 (w : World) (o1 o2 o3 o4 o5 o6 o7 : Obj) : Below w.heap.size w (((((((w.alloc o1).alloc o2).alloc o3).alloc o4).alloc o5).alloc o6).alloc o7) := (below_step (below_step (below_step (below_step (below_step (below_step (below_step (Below.refl _ _) _) _) _) _) _) _) _)
theorem below8 (w : World) (o1 o2 o3 o4 o5 o6 o7 o8 : Obj) : Below w.heap.size w ((((((((w.alloc o1).alloc o2).alloc o3).alloc o4).alloc o5).alloc o6).alloc o7).alloc o8) := (below_step (below_step (below_step (below_step (below_step (below_step (below_step (below_step (Below.refl _ _) _) _) _) _) _) _) _) _)
theorem cell_lt {w : World} {t : Addr} {v : Value} (h : w.cell? t = some v) : t.block < w.heap.size := by
  rcases Nat.lt_or_ge t.block w.heap.size with h0 | h0
  · exact h0
  · simp [World.cell?, Array.getElem?_eq_none h0] at h

end Go.Proofs.Ytlodgmmhaolmaaa
