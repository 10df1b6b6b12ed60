/- Rows of a script's calls; a heap's blocks. -/
import Derived.Test.YtlodgmmhaolmaaaDoorHpK
set_option linter.unusedSimpArgs false
set_option linter.unusedVariables false
namespace Go.Proofs.YtlodgmmhaolmaaaDoor
open Go.RowKit
/-- a row of a script's calls -/
structure OpRow (w : World) (A : Option Addr) (n : Nat) (kd : Nat → Int) (en : Nat → Ent) (x1 : Nat → Int) (x2 : Nat → Bool) (x5 : Nat → Option Addr × Nat × Nat) : Prop where
  row : 0 < n → ∃ b off, A = some ⟨b, off, none⟩ ∧ ∀ i, i < n → w.cell? ⟨b, off + i * 6, none⟩ = some (.int .i64 (kd i)) ∧ w.cell? ⟨b, off + i * 6 + 1, none⟩ = some (.int .i64 (x1 i)) ∧ w.cell? ⟨b, off + i * 6 + 2, none⟩ = some (.bool (x2 i)) ∧
    w.cell? ⟨b, off + i * 6 + 3, none⟩ = some (.int .i64 (en i).1) ∧ w.cell? ⟨b, off + i * 6 + 4, none⟩ = some (strV (en i).2) ∧ w.cell? ⟨b, off + i * 6 + 5, none⟩ = some (.slice (x5 i).1 (x5 i).2.1 (x5 i).2.2)
  txt : ∀ i, i < n → (en i).2.length ≤ 9223372036854775807
theorem OpRow.below {w w' : World} {A : Option Addr} {n : Nat} {kd : Nat → Int} {en : Nat → Ent} {x1 : Nat → Int} {x2 : Nat → Bool} {x5 : Nat → Option Addr × Nat × Nat} (h : OpRow w A n kd en x1 x2 x5) (hb : Below w.heap.size w w') : OpRow w' A n kd en x1 x2 x5 where
  row := fun hn => by
    obtain ⟨b, off, e, hr⟩ := h.row hn
    refine ⟨b, off, e, fun i hi => ?_⟩
    obtain ⟨a0, a1, a2, a3, a4, a5⟩ := hr i hi
    exact ⟨by rw [hb.cell (cell_lt a0)]; exact a0, by rw [hb.cell (cell_lt a1)]; exact a1, by rw [hb.cell (cell_lt a2)]; exact a2, by rw [hb.cell (cell_lt a3)]; exact a3, by rw [hb.cell (cell_lt a4)]; exact a4, by rw [hb.cell (cell_lt a5)]; exact a5⟩
  txt := h.txt
theorem HeapAt.footLt {w : World} {hb mb : Nat} {v : Value} {L : List Ent} {mo : Bool} {mv : Nat} (h : HeapAt w hb mb v L mo mv) : ∀ x ∈ foot hb mb v, x < w.heap.size := by
  intro x hx
  simp only [foot, List.mem_cons, Option.mem_toList] at hx
  rcases hx with rfl | rfl | hx
  · exact block_lt h.blk
  · exact h.map.lt
  · rcases h.row with ⟨g, cap, h0, rfl, ho⟩ | ⟨_, A, rfl⟩
    · rw [rowB_pos h0] at hx
      injection hx with hx
      rw [← hx]; exact (own_cap ho).2.2
    · cases A <;> cases hx
theorem foot_nil {hb mb S : Nat} (h1 : S ≤ hb) (h2 : S ≤ mb) : ∀ x ∈ foot hb mb (.slice none 0 0), S ≤ x := by
  intro x hx
  simp only [foot, List.mem_cons, Option.mem_toList] at hx
  rcases hx with rfl | rfl | hx
  · exact h1
  · exact h2
  · cases hx
end Go.Proofs.YtlodgmmhaolmaaaDoor
