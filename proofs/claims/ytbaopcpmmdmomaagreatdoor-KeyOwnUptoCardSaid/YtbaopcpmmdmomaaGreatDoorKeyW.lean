/- The reference's Same; the walk of the statement KeyOrder. -/
import Derived.Test.YtbaopcpmmdmomaaGreatDoorKeyV
set_option linter.unusedSimpArgs false
set_option linter.unusedVariables false
namespace Go.Proofs.YtbaopcpmmdmomaaGreatDoor
open Go.RowKit
/-- three series' boxes -/
def PBY (w : World) (S : Nat) (m : List UInt8) (t : Value) (f : List UInt8) (m' : List UInt8) (t' : Value) (f' : List UInt8) (m'' : List UInt8) (t'' : Value) (f'' : List UInt8) (x : World) : Prop :=
  PBX w S m t f m' t' f' x ∧ x.cell? ⟨S + 2, 0, none⟩ = some (strV m'') ∧ x.cell? ⟨S + 2, 1, none⟩ = some t'' ∧ x.cell? ⟨S + 2, 2, none⟩ = some (strV f'')
theorem PBY.step {w x y : World} {S : Nat} {m f m' f' m'' f'' : List UInt8} {t t' t'' : Value} (h : PBY w S m t f m' t' f' m'' t'' f'' x) (hb : Below x.heap.size x y) : PBY w S m t f m' t' f' m'' t'' f'' y := by
  obtain ⟨h, a0, a1, a2⟩ := h
  refine ⟨h.step hb, ?_, ?_, ?_⟩
  · rw [hb.cell (block_lt_of_cell a0)]; exact a0
  · rw [hb.cell (block_lt_of_cell a1)]; exact a1
  · rw [hb.cell (block_lt_of_cell a2)]; exact a2
theorem PBY.fresh (w : World) (m f m' f' m'' f'' : List UInt8) (t t' t'' : Value) (T : Nat) : PBY w w.heap.size m t f m' t' f' m'' t'' f'' (((w.alloc (.cells #[strV m, t, strV f] T)).alloc (.cells #[strV m', t', strV f'] T)).alloc (.cells #[strV m'', t'', strV f''] T)) := by
  refine ⟨(PBX.fresh w m f m' f' t t' T).alloc _, ?_, ?_, ?_⟩
  · rw [World.cell?_alloc_at _ _ _ _ (by simp)]; rfl
  · rw [World.cell?_alloc_at _ _ _ _ (by simp)]; rfl
  · rw [World.cell?_alloc_at _ _ _ _ (by simp)]; rfl
theorem sgn_cases {x : Int} (h : Sgn x) : x = -1 ∨ x = 0 ∨ x = 1 := by unfold Sgn at h; omega
end Go.Proofs.YtbaopcpmmdmomaaGreatDoor
