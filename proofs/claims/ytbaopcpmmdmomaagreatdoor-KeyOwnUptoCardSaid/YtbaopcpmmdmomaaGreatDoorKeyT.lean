/- key.Compare; the reference's Compare and Same. -/
import Derived.Test.YtbaopcpmmdmomaaGreatDoorKeyQ
import Derived.Test.YtbaopcpmmdmomaaGreatDoorKeyH
import Derived.Deep.RegionHeld3
set_option linter.unusedSimpArgs false
set_option linter.unusedVariables false
namespace Go.Proofs.YtbaopcpmmdmomaaGreatDoor
open Go.RowKit
/-- the order of two series -/
def cmpS (m : List UInt8) (n : Nat) (tk tv : Nat → List UInt8) (f : List UInt8) (m' : List UInt8) (n' : Nat) (tk' tv' : Nat → List UInt8) (f' : List UInt8) : Int := orL [cmpL m m', cmpT tk tv tk' tv' n n', cmpL f f']
/-- two series' boxes -/
def PBX (w : World) (S : Nat) (m : List UInt8) (t : Value) (f : List UInt8) (m' : List UInt8) (t' : Value) (f' : List UInt8) (x : World) : Prop :=
  x.cell? ⟨S, 0, none⟩ = some (strV m) ∧ x.cell? ⟨S, 1, none⟩ = some t ∧ x.cell? ⟨S, 2, none⟩ = some (strV f) ∧ x.cell? ⟨S + 1, 0, none⟩ = some (strV m') ∧ x.cell? ⟨S + 1, 1, none⟩ = some t' ∧ x.cell? ⟨S + 1, 2, none⟩ = some (strV f') ∧ Below S w x
theorem PBX.step {w x y : World} {S : Nat} {m f m' f' : List UInt8} {t t' : Value} (h : PBX w S m t f m' t' f' x) (hb : Below x.heap.size x y) : PBX w S m t f m' t' f' y := by
  obtain ⟨a0, a1, a2, b0, b1, b2, hB⟩ := h
  have l0 := block_lt_of_cell a0
  have l1 := block_lt_of_cell b0
  refine ⟨?_, ?_, ?_, ?_, ?_, ?_, ?_⟩
  · rw [hb.cell (block_lt_of_cell a0)]; exact a0
  · rw [hb.cell (block_lt_of_cell a1)]; exact a1
  · rw [hb.cell (block_lt_of_cell a2)]; exact a2
  · rw [hb.cell (block_lt_of_cell b0)]; exact b0
  · rw [hb.cell (block_lt_of_cell b1)]; exact b1
  · rw [hb.cell (block_lt_of_cell b2)]; exact b2
  · exact hB.trans (hb.mono (Nat.le_of_lt l0))
theorem PBX.alloc {w x : World} {S : Nat} {m f m' f' : List UInt8} {t t' : Value} (h : PBX w S m t f m' t' f' x) (o : Obj) : PBX w S m t f m' t' f' (x.alloc o) := h.step (below1 _ _)
theorem PBX.fresh (w : World) (m f m' f' : List UInt8) (t t' : Value) (T : Nat) : PBX w w.heap.size m t f m' t' f' ((w.alloc (.cells #[strV m, t, strV f] T)).alloc (.cells #[strV m', t', strV f'] T)) := by
  refine ⟨?_, ?_, ?_, ?_, ?_, ?_, below2 _ _ _⟩
  · rw [(below1 _ _).cell (by simp only [heap_push, Array.size_push]; omega), World.cell?_alloc_at _ _ _ _ rfl]; rfl
  · rw [(below1 _ _).cell (by simp only [heap_push, Array.size_push]; omega), World.cell?_alloc_at _ _ _ _ rfl]; rfl
  · rw [(below1 _ _).cell (by simp only [heap_push, Array.size_push]; omega), World.cell?_alloc_at _ _ _ _ rfl]; rfl
  · rw [World.cell?_alloc_at _ _ _ _ (by simp)]; rfl
  · rw [World.cell?_alloc_at _ _ _ _ (by simp)]; rfl
  · rw [World.cell?_alloc_at _ _ _ _ (by simp)]; rfl
end Go.Proofs.YtbaopcpmmdmomaaGreatDoor
