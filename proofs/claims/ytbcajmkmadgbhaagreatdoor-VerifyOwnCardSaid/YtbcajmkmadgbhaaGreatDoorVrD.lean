/- Verify: rows, machine.of. -/
import Derived.Test.YtbcajmkmadgbhaaGreatDoorVrC
import Derived.Laws.Rows
set_option linter.unusedSimpArgs false
set_option linter.unusedVariables false
namespace Go.Proofs.YtbcajmkmadgbhaaGreatDoor
open Go.RowKit
/-- an instruction's row, as cells -/
def rowV (c : Nat) : List Value := [.int .i64 (if c = 0 ∨ 25 ≤ c then 0 else takesC c), .int .i64 (if c = 0 ∨ 25 ≤ c then 0 else putsC c), .bool (okC true c), .bool (okC false c)]
def rowsC : List Value := (List.range 25).flatMap rowV
theorem rowsC_at : ∀ c : Nat, c < 25 → rowsC[c * 4]? = some (.int .i64 (if c = 0 ∨ 25 ≤ c then 0 else takesC c)) ∧ rowsC[c * 4 + 1]? = some (.int .i64 (if c = 0 ∨ 25 ≤ c then 0 else putsC c)) ∧ rowsC[c * 4 + 2]? = some (.bool (okC true c)) ∧ rowsC[c * 4 + 3]? = some (.bool (okC false c)) := by
  have h : ∀ c : Fin 25, rowsC[c.val * 4]? = some (.int .i64 (if c.val = 0 ∨ 25 ≤ c.val then 0 else takesC c.val)) ∧ rowsC[c.val * 4 + 1]? = some (.int .i64 (if c.val = 0 ∨ 25 ≤ c.val then 0 else putsC c.val)) ∧ rowsC[c.val * 4 + 2]? = some (.bool (okC true c.val)) ∧ rowsC[c.val * 4 + 3]? = some (.bool (okC false c.val)) := by
    intro c
    rcases c with ⟨c, hc⟩
    have : c = 0 ∨ c = 1 ∨ c = 2 ∨ c = 3 ∨ c = 4 ∨ c = 5 ∨ c = 6 ∨ c = 7 ∨ c = 8 ∨ c = 9 ∨ c = 10 ∨ c = 11 ∨ c = 12 ∨ c = 13 ∨ c = 14 ∨ c = 15 ∨ c = 16 ∨ c = 17 ∨ c = 18 ∨ c = 19 ∨ c = 20 ∨ c = 21 ∨ c = 22 ∨ c = 23 ∨ c = 24 := by omega
    rcases this with rfl|rfl|rfl|rfl|rfl|rfl|rfl|rfl|rfl|rfl|rfl|rfl|rfl|rfl|rfl|rfl|rfl|rfl|rfl|rfl|rfl|rfl|rfl|rfl|rfl <;> exact ⟨rfl, rfl, rfl, rfl⟩
  exact fun c hc => h ⟨c, hc⟩
set_option maxHeartbeats 4000000 in
set_option maxRecDepth 100000 in
theorem rows_any (w : World) : Calls Tryz.prog 102 #[] w fun e w' => ∃ b, e = .returned (.slice (some ⟨b, 0, none⟩) 25 25) ∧ w.heap.size ≤ b ∧ w'.heap[b]? = some (.cells rowsC.toArray 126 (0, 0)) ∧ Below w.heap.size w w' := by
  have H : Bx (Below w.heap.size w w) := ⟨Below.refl _ _⟩
  go_enter Tryz.func102, Tryz.ntmps102
  go_wp2_with fail
  refine (rows1_any 0 1 _).mono ?_
  rintro e x0 ⟨rfl, h1⟩
  replace H : Bx (Below w.heap.size w x0) := ⟨H.out.trans (h1.mono H.out.size)⟩
  clear h1
  go_wp2_with fail
  refine (rows1_any 0 1 _).mono ?_
  rintro e x1 ⟨rfl, h1⟩
  replace H : Bx (Below w.heap.size w x1) := ⟨H.out.trans (h1.mono H.out.size)⟩
  clear h1
  go_wp2_with fail
  refine (rows1_any 0 1 _).mono ?_
  rintro e x2 ⟨rfl, h1⟩
  replace H : Bx (Below w.heap.size w x2) := ⟨H.out.trans (h1.mono H.out.size)⟩
  clear h1
  go_wp2_with fail
  refine (rows1_any 0 1 _).mono ?_
  rintro e x3 ⟨rfl, h1⟩
  replace H : Bx (Below w.heap.size w x3) := ⟨H.out.trans (h1.mono H.out.size)⟩
  clear h1
  go_wp2_with fail
  refine (rows1_any 0 1 _).mono ?_
  rintro e x4 ⟨rfl, h1⟩
  replace H : Bx (Below w.heap.size w x4) := ⟨H.out.trans (h1.mono H.out.size)⟩
  clear h1
  go_wp2_with fail
  refine (rows1_any 0 1 _).mono ?_
  rintro e x5 ⟨rfl, h1⟩
  replace H : Bx (Below w.heap.size w x5) := ⟨H.out.trans (h1.mono H.out.size)⟩
  clear h1
  go_wp2_with fail
  refine (rows1_any 1 1 _).mono ?_
  rintro e x6 ⟨rfl, h1⟩
  replace H : Bx (Below w.heap.size w x6) := ⟨H.out.trans (h1.mono H.out.size)⟩
  clear h1
  go_wp2_with fail
  refine (rows1_any 2 1 _).mono ?_
  rintro e x7 ⟨rfl, h1⟩
  replace H : Bx (Below w.heap.size w x7) := ⟨H.out.trans (h1.mono H.out.size)⟩
  clear h1
  go_wp2_with fail
  refine (rows1_any 2 1 _).mono ?_
  rintro e x8 ⟨rfl, h1⟩
  replace H : Bx (Below w.heap.size w x8) := ⟨H.out.trans (h1.mono H.out.size)⟩
  clear h1
  go_wp2_with fail
  refine (rows1_any 1 1 _).mono ?_
  rintro e x9 ⟨rfl, h1⟩
  replace H : Bx (Below w.heap.size w x9) := ⟨H.out.trans (h1.mono H.out.size)⟩
  clear h1
  go_wp2_with fail
  refine (rows1_any 1 1 _).mono ?_
  rintro e x10 ⟨rfl, h1⟩
  replace H : Bx (Below w.heap.size w x10) := ⟨H.out.trans (h1.mono H.out.size)⟩
  clear h1
  go_wp2_with fail
  refine (rows1_any 1 0 _).mono ?_
  rintro e x11 ⟨rfl, h1⟩
  replace H : Bx (Below w.heap.size w x11) := ⟨H.out.trans (h1.mono H.out.size)⟩
  clear h1
  go_wp2_with fail
  refine (rows1_any 1 0 _).mono ?_
  rintro e x12 ⟨rfl, h1⟩
  replace H : Bx (Below w.heap.size w x12) := ⟨H.out.trans (h1.mono H.out.size)⟩
  clear h1
  go_wp2_with fail
  refine (rows2_any 0 1 _).mono ?_
  rintro e x13 ⟨rfl, h1⟩
  replace H : Bx (Below w.heap.size w x13) := ⟨H.out.trans (h1.mono H.out.size)⟩
  clear h1
  go_wp2_with fail
  refine (rows2_any 0 1 _).mono ?_
  rintro e x14 ⟨rfl, h1⟩
  replace H : Bx (Below w.heap.size w x14) := ⟨H.out.trans (h1.mono H.out.size)⟩
  clear h1
  go_wp2_with fail
  refine (rows2_any 0 1 _).mono ?_
  rintro e x15 ⟨rfl, h1⟩
  replace H : Bx (Below w.heap.size w x15) := ⟨H.out.trans (h1.mono H.out.size)⟩
  clear h1
  go_wp2_with fail
  refine (rows2_any 1 1 _).mono ?_
  rintro e x16 ⟨rfl, h1⟩
  replace H : Bx (Below w.heap.size w x16) := ⟨H.out.trans (h1.mono H.out.size)⟩
  clear h1
  go_wp2_with fail
  refine (rows2_any 2 1 _).mono ?_
  rintro e x17 ⟨rfl, h1⟩
  replace H : Bx (Below w.heap.size w x17) := ⟨H.out.trans (h1.mono H.out.size)⟩
  clear h1
  go_wp2_with fail
  refine (rows2_any 2 1 _).mono ?_
  rintro e x18 ⟨rfl, h1⟩
  replace H : Bx (Below w.heap.size w x18) := ⟨H.out.trans (h1.mono H.out.size)⟩
  clear h1
  go_wp2_with fail
  refine (rows2_any 2 1 _).mono ?_
  rintro e x19 ⟨rfl, h1⟩
  replace H : Bx (Below w.heap.size w x19) := ⟨H.out.trans (h1.mono H.out.size)⟩
  clear h1
  go_wp2_with fail
  refine (rows2_any 2 1 _).mono ?_
  rintro e x20 ⟨rfl, h1⟩
  replace H : Bx (Below w.heap.size w x20) := ⟨H.out.trans (h1.mono H.out.size)⟩
  clear h1
  go_wp2_with fail
  refine (rows2_any 2 1 _).mono ?_
  rintro e x21 ⟨rfl, h1⟩
  replace H : Bx (Below w.heap.size w x21) := ⟨H.out.trans (h1.mono H.out.size)⟩
  clear h1
  go_wp2_with fail
  refine (rows2_any 1 0 _).mono ?_
  rintro e x22 ⟨rfl, h1⟩
  replace H : Bx (Below w.heap.size w x22) := ⟨H.out.trans (h1.mono H.out.size)⟩
  clear h1
  go_wp2_with fail
  refine (rows2_any 0 0 _).mono ?_
  rintro e x23 ⟨rfl, h1⟩
  replace H : Bx (Below w.heap.size w x23) := ⟨H.out.trans (h1.mono H.out.size)⟩
  clear h1
  go_wp2
  go_ret
  exact ⟨_, rfl, H.out.size, (heap_alloc_new _ _).trans (by kernel_rfl), H.out.alloc H.out.size _⟩
end Go.Proofs.YtbcajmkmadgbhaaGreatDoor
