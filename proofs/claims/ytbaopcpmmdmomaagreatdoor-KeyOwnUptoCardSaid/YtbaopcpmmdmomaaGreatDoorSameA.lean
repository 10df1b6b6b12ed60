/- weirboth.Same at an error with a place. Condition: errors.errorType holds the handle of the type error. -/
import Derived.Test.YtbaopcpmmdmomaaGreatDoorAsA
import Derived.Deep.AppendLies
set_option linter.unusedSimpArgs false
set_option linter.unusedVariables false
namespace Go.Proofs.YtbaopcpmmdmomaaGreatDoor
open Go.RowKit
/-- what the walk of Same keeps: the document's error's cells, the place's box -/
def SAK (w1 : World) (B : Nat) (p : Int) (x : World) : Prop :=
  x.cell? ⟨B, 1, none⟩ = some (.int .i64 p) ∧ x.cell? ⟨B, 3, none⟩ = some (.bool true) ∧ x.cell? ⟨B, 4, none⟩ = some (.bool false) ∧ Glob x ∧ Below B w1 x ∧ B + 1 + 1 < x.heap.size
theorem SAK.grown {w1 x y : World} {B : Nat} {p : Int} (h : SAK w1 B p x) (hg : x.grownBy y (some (B + 1 + 1))) (hE : 0 < B) : SAK w1 B p y := by
  obtain ⟨h1, h3, h4, hG, hb, hl⟩ := h
  refine ⟨hg.cell h1 (by simp; omega), hg.cell h3 (by simp; omega), hg.cell h4 (by simp; omega), ?_, hb.trans (below_of_grown hg (by omega) (by omega)), Nat.lt_of_lt_of_le hl hg.size⟩
  exact hG.below (below_of_grown hg (by omega) (by omega) : Below B x y) hE
theorem SAK.step {w1 x y : World} {B : Nat} {p : Int} (h : SAK w1 B p x) (hb : Below x.heap.size x y) : SAK w1 B p y := by
  obtain ⟨h1, h3, h4, hG, hb0, hl⟩ := h
  refine ⟨?_, ?_, ?_, hG.below hb hG.lt, hb0.trans (hb.mono (by omega)), Nat.lt_of_lt_of_le hl hb.size⟩
  · rw [hb.cell (by show B < _; omega)]; exact h1
  · rw [hb.cell (by show B < _; omega)]; exact h3
  · rw [hb.cell (by show B < _; omega)]; exact h4
end Go.Proofs.YtbaopcpmmdmomaaGreatDoor
