/- The document's Name, Text, Tags, Right, Escape. The document's Tags and Right. The document's Right and Escape. The document's Print; the walk of the statement KeyPrints. Conditions: the two tables of unicode/utf8 and errors.errorType hold what the program's text lays in them. -/
import Derived.Test.YtbaopcpmmdmomaaGreatDoorKeyI
import Derived.BigQuiet
import Derived.Laws.Concat
import Derived.Test.YtbaopcpmmdmomaaGreatDoorKeyJ
set_option linter.unusedSimpArgs false
set_option linter.unusedVariables false
namespace Go.Proofs.YtbaopcpmmdmomaaGreatDoor
section
open Go.RowKit
theorem cell_set_ne {w : World} {B i j : Nat} {u v : Value} (h : w.cell? ⟨B, j, none⟩ = some v) (hij : i ≠ j) : (w.setCell ⟨B, i, none⟩ u).cell? ⟨B, j, none⟩ = some v := by
  rw [World.cell?_setCell_other]; exact h
  intro e; injection e; omega
theorem cell_set_eq {w : World} {B i : Nat} {u v : Value} (h : w.cell? ⟨B, i, none⟩ = some v) : (w.setCell ⟨B, i, none⟩ u).cell? ⟨B, i, none⟩ = some u :=
  World.cell?_setCell_same' _ _ _ (by rw [h]; rfl)
theorem size_set {w : World} (a : Addr) (u : Value) : (w.setCell a u).heap.size = w.heap.size := by simp [World.setCell]
/-- the box of a result that is an error of the document's -/
structure BB (w0 w : World) (R : Nat) : Prop where
  below : Below R w0 w
  lt : R < w.heap.size
  c0 : w.cell? ⟨R, 0, none⟩ = some (.int .i64 0)
  c1 : w.cell? ⟨R, 1, none⟩ = some (.int .i64 0)
  c2 : w.cell? ⟨R, 2, none⟩ = some (.int .i64 0)
  c3 : w.cell? ⟨R, 3, none⟩ = some (.bool false)
  c4 : w.cell? ⟨R, 4, none⟩ = some (.bool false)
  f : ∀ i, w.frozen? ⟨R, i, none⟩ = false
theorem BB.alloc {w0 w : World} (T : Nat) (hb : Below w.heap.size w0 w) : BB w0 (w.alloc (.cells #[.int .i64 0, .int .i64 0, .int .i64 0, .bool false, .bool false] T)) w.heap.size where
  below := hb.trans (below1 _ _)
  lt := by simp only [heap_push, Array.size_push]; omega
  c0 := by rw [World.cell?_alloc_at _ _ _ _ rfl]; rfl
  c1 := by rw [World.cell?_alloc_at _ _ _ _ rfl]; rfl
  c2 := by rw [World.cell?_alloc_at _ _ _ _ rfl]; rfl
  c3 := by rw [World.cell?_alloc_at _ _ _ _ rfl]; rfl
  c4 := by rw [World.cell?_alloc_at _ _ _ _ rfl]; rfl
  f := fun i => by simp
theorem BB.step {w0 w w' : World} {R : Nat} (g : BB w0 w R) (hb : Below w.heap.size w w') : BB w0 w' R where
  below := g.below.trans (hb.mono (Nat.le_of_lt g.lt))
  lt := Nat.lt_of_lt_of_le g.lt hb.size
  c0 := by rw [hb.cell (p := ⟨R, 0, none⟩) g.lt]; exact g.c0
  c1 := by rw [hb.cell (p := ⟨R, 1, none⟩) g.lt]; exact g.c1
  c2 := by rw [hb.cell (p := ⟨R, 2, none⟩) g.lt]; exact g.c2
  c3 := by rw [hb.cell (p := ⟨R, 3, none⟩) g.lt]; exact g.c3
  c4 := by rw [hb.cell (p := ⟨R, 4, none⟩) g.lt]; exact g.c4
  f := fun i => by rw [hb.frozen (p := ⟨R, i, none⟩) g.lt]; exact g.f i
theorem BB.fin {w0 w : World} {R : Nat} (g : BB w0 w R) (c : Int) :
    (((((w.setCell ⟨R, 0, none⟩ (.int .i64 c)).setCell ⟨R, 1, none⟩ (.int .i64 0)).setCell ⟨R, 2, none⟩ (.int .i64 0)).setCell ⟨R, 3, none⟩ (.bool false)).setCell ⟨R, 4, none⟩ (.bool false)).cell? ⟨R, 0, none⟩ = some (.int .i64 c) ∧
    (((((w.setCell ⟨R, 0, none⟩ (.int .i64 c)).setCell ⟨R, 1, none⟩ (.int .i64 0)).setCell ⟨R, 2, none⟩ (.int .i64 0)).setCell ⟨R, 3, none⟩ (.bool false)).setCell ⟨R, 4, none⟩ (.bool false)).cell? ⟨R, 1, none⟩ = some (.int .i64 0) ∧
    (((((w.setCell ⟨R, 0, none⟩ (.int .i64 c)).setCell ⟨R, 1, none⟩ (.int .i64 0)).setCell ⟨R, 2, none⟩ (.int .i64 0)).setCell ⟨R, 3, none⟩ (.bool false)).setCell ⟨R, 4, none⟩ (.bool false)).cell? ⟨R, 2, none⟩ = some (.int .i64 0) ∧
    (((((w.setCell ⟨R, 0, none⟩ (.int .i64 c)).setCell ⟨R, 1, none⟩ (.int .i64 0)).setCell ⟨R, 2, none⟩ (.int .i64 0)).setCell ⟨R, 3, none⟩ (.bool false)).setCell ⟨R, 4, none⟩ (.bool false)).cell? ⟨R, 3, none⟩ = some (.bool false) ∧
    (((((w.setCell ⟨R, 0, none⟩ (.int .i64 c)).setCell ⟨R, 1, none⟩ (.int .i64 0)).setCell ⟨R, 2, none⟩ (.int .i64 0)).setCell ⟨R, 3, none⟩ (.bool false)).setCell ⟨R, 4, none⟩ (.bool false)).cell? ⟨R, 4, none⟩ = some (.bool false) ∧
    Below R w0 (((((w.setCell ⟨R, 0, none⟩ (.int .i64 c)).setCell ⟨R, 1, none⟩ (.int .i64 0)).setCell ⟨R, 2, none⟩ (.int .i64 0)).setCell ⟨R, 3, none⟩ (.bool false)).setCell ⟨R, 4, none⟩ (.bool false)) := by
  have hR : R ≤ R := Nat.le_refl _
  refine ⟨?_, ?_, ?_, ?_, ?_, ?_⟩
  · repeat refine cell_set_ne ?_ (by omega)
    exact cell_set_eq g.c0
  · repeat refine cell_set_ne ?_ (by omega)
    exact cell_set_eq (cell_set_ne g.c1 (by omega))
  · refine cell_set_ne (cell_set_ne (cell_set_eq (v := .int .i64 0) ?_) (by omega)) (by omega)
    repeat refine cell_set_ne ?_ (by omega)
    exact g.c2
  · refine cell_set_ne (cell_set_eq (v := .bool false) ?_) (by omega)
    repeat refine cell_set_ne ?_ (by omega)
    exact g.c3
  · refine cell_set_eq (v := .bool false) ?_
    repeat refine cell_set_ne ?_ (by omega)
    exact g.c4
  · exact ((((g.below.setCell (p := ⟨R, 0, none⟩) hR _).setCell (p := ⟨R, 1, none⟩) hR _).setCell (p := ⟨R, 2, none⟩) hR _).setCell (p := ⟨R, 3, none⟩) hR _).setCell (p := ⟨R, 4, none⟩) hR _
theorem BB.fin2 {w0 w : World} {R : Nat} (g : BB w0 w R) (c : Int) (cs : Array Value) (T : Nat) : ∃ w', w' = (((((w.setCell ⟨R, 0, none⟩ (.int .i64 c)).setCell ⟨R, 1, none⟩ (.int .i64 0)).setCell ⟨R, 2, none⟩ (.int .i64 0)).setCell ⟨R, 3, none⟩ (.bool false)).setCell ⟨R, 4, none⟩ (.bool false)).alloc (.cells cs T) ∧
    w'.cell? ⟨R, 0, none⟩ = some (.int .i64 c) ∧ w'.cell? ⟨R, 1, none⟩ = some (.int .i64 0) ∧ w'.cell? ⟨R, 2, none⟩ = some (.int .i64 0) ∧ w'.cell? ⟨R, 3, none⟩ = some (.bool false) ∧ w'.cell? ⟨R, 4, none⟩ = some (.bool false) ∧ Below R w0 w' := by
  obtain ⟨z0, z1, z2, z3, z4, zb⟩ := g.fin c
  have hl := g.lt
  refine ⟨_, rfl, ?_⟩
  generalize hW : ((((w.setCell ⟨R, 0, none⟩ (.int .i64 c)).setCell ⟨R, 1, none⟩ (.int .i64 0)).setCell ⟨R, 2, none⟩ (.int .i64 0)).setCell ⟨R, 3, none⟩ (.bool false)).setCell ⟨R, 4, none⟩ (.bool false) = W at *
  have hs : W.heap.size = w.heap.size := by rw [← hW]; simp only [size_set]
  refine ⟨?_, ?_, ?_, ?_, ?_, zb.trans ((below1 _ _).mono (by omega))⟩
  all_goals (rw [World.cell?_alloc_lt _ _ _ (by rw [hs]; exact hl)]; assumption)
end
section
open Go.RowKit
end
section
open Go.RowKit
end
section
open Go.RowKit
end
end Go.Proofs.YtbaopcpmmdmomaaGreatDoor
