/- Verify: machine.of. -/
import Derived.Test.YtbcajmkmadgbhaaGreatDoorVrD
set_option linter.unusedSimpArgs false
set_option linter.unusedVariables false
namespace Go.Proofs.YtbcajmkmadgbhaaGreatDoor
open Go.RowKit
theorem codes_cases {c : Nat} (h : c < 25) : c = 0 ∨ okC true c = true ∧ okC false c = false ∨ okC true c = false ∧ okC false c = true := by
  unfold okC
  simp
  omega
theorem set4 {S : Nat} {w w1 : World} (h : Below S w w1) (hS : w.heap.size = S) (a b c d : Value) : Below w.heap.size w ((((w1.setCell ⟨S + 1, 0, none⟩ a).setCell ⟨S + 1, 1, none⟩ b).setCell ⟨S + 1, 2, none⟩ c).setCell ⟨S + 1, 3, none⟩ d) := by
  rw [hS]
  exact (((h.setCell (Nat.le_succ _) _).setCell (Nat.le_succ _) _).setCell (Nat.le_succ _) _).setCell (Nat.le_succ _) _
/-- an instruction's row as a value, if it is one of the machine's -/
def ofV (fi : Bool) (c : Nat) : Value := if okC fi c then .agg #[.int .i64 (takesC c), .int .i64 (putsC c), .bool (okC true c), .bool (okC false c)] else .agg #[.int .i64 0, .int .i64 0, .bool false, .bool false]
set_option maxHeartbeats 4000000 in
set_option maxRecDepth 100000 in
theorem of_any (A : Option Addr) (n cap : Nat) (fi : Bool) (k : Int) (c : Nat) (hc : c < 256) (w : World) : Calls Tryz.prog 79 #[machV A n cap fi k, .int .u8 c] w fun e w' => e = .returned (.tuple #[ofV fi c, .bool (okC fi c)]) ∧ Below w.heap.size w w' := by
  have hb0 := below2 w (.cells #[.slice A n cap, .bool fi, .int .i64 k] 84) (.cells #[.int .i64 0, .int .i64 0, .bool false, .bool false] 126)
  have HB0 : Bx _ := ⟨hb0⟩
  clear hb0
  obtain ⟨V, hV⟩ : ∃ V, V = ofV fi c := ⟨_, rfl⟩
  obtain ⟨O, hO⟩ : ∃ O, O = okC fi c := ⟨_, rfl⟩
  rw [← hV, ← hO]
  have HV : Bx _ := ⟨And.intro hV hO⟩
  clear hV hO
  go_enter Tryz.func79, Tryz.ntmps79
  go_wp2_with fail
  refine (rows_any _).mono ?_
  rintro e w1 ⟨b, rfl, hb1, hr, hb⟩
  have m1 : w1.cell? ⟨w.heap.size, 1, none⟩ = some (.bool fi) := by
    rw [hb.cell (p := ⟨w.heap.size, 1, none⟩) (by simp only [heap_push, Array.size_push]; omega)]
    rw [(below1 (w.alloc _) _).cell (p := ⟨w.heap.size, 1, none⟩) (by simp only [heap_push, Array.size_push]; omega)]
    exact cells_at (heap_alloc_new w _) 1 _ rfl
  have hB1 : w1.heap[w.heap.size + 1]? = some (.cells #[.int .i64 0, .int .i64 0, .bool false, .bool false] 126 (0, 0)) := by
    rw [hb.block (w.heap.size + 1) (by simp only [heap_push, Array.size_push]; omega)]
    have := heap_alloc_new (w.alloc (.cells #[.slice A n cap, .bool fi, .int .i64 k] 84)) (.cells #[.int .i64 0, .int .i64 0, .bool false, .bool false] 126)
    simpa only [heap_push, Array.size_push] using this
  have z0 : w1.cell? ⟨w.heap.size + 1, 0, none⟩ = some (.int .i64 0) := cells_at hB1 0 _ rfl
  have z1 : w1.cell? ⟨w.heap.size + 1, 1, none⟩ = some (.int .i64 0) := cells_at hB1 1 _ rfl
  have z2 : w1.cell? ⟨w.heap.size + 1, 2, none⟩ = some (.bool false) := cells_at hB1 2 _ rfl
  have z3 : w1.cell? ⟨w.heap.size + 1, 3, none⟩ = some (.bool false) := cells_at hB1 3 _ rfl
  have y0 := cells_free hB1 0
  have y1 := cells_free hB1 1
  have y2 := cells_free hB1 2
  have y3 := cells_free hB1 3
  have HB1 : Bx (Below w.heap.size w w1 ∧ w.heap.size + 1 < w1.heap.size) := ⟨HB0.out.trans (hb.mono HB0.out.size), Nat.lt_of_lt_of_le (by simp only [heap_push, Array.size_push]; omega) hb.size⟩
  have hbs : w.heap.size + 1 < b := Nat.lt_of_lt_of_le (by simp only [heap_push, Array.size_push]; omega) hb1
  generalize hS : w.heap.size = S at *
  have HS : Bx (w.heap.size = S) := ⟨hS⟩
  clear hS
  clear hB1 hb1 hb HB0
  by_cases hlt : c < 25
  · obtain ⟨q0, q1, q2, q3⟩ := rowsC_at c hlt
    have p0 := cells_at hr (c * 4) _ (by simpa using q0)
    have p1 := cells_at hr (c * 4 + 1) _ (by simpa using q1)
    have p2 := cells_at hr (c * 4 + 2) _ (by simpa using q2)
    have p3 := cells_at hr (c * 4 + 3) _ (by simpa using q3)
    have hb0 : decide ((25 : Int) ≤ (c : Int)) = false := by simp; omega
    clear q0 q1 q2 q3 hr
    have hq := codes_cases hlt
    rcases hq with rfl | ⟨hx, hy⟩ | ⟨hx, hy⟩
    · have o1 : okC true 0 = false := by decide
      have o2 : okC false 0 = false := by decide
      rw [o1] at p2
      rw [o2] at p3
      cases fi
      all_goals
        go_wp2
        refine bodyPost_ret (by simp [results, Tryz.results79, go_sem, z0, z1, z2, z3, y0, y1, y2, y3]; rfl) rfl ?_
        exact ⟨by rw [HV.out.1, HV.out.2]; rfl, set4 HB1.out.1 HS.out _ _ _ _⟩
    all_goals
      have hz : ¬(c = 0 ∨ 25 ≤ c) := by
        rintro (h | h)
        · subst h; revert hx hy; decide
        · omega
      rw [if_neg hz] at p0 p1
      have HX : Bx _ := ⟨And.intro hx hy⟩
      rw [hx] at p2
      rw [hy] at p3
      have HT : Bx (takesC c = takesC c ∧ putsC c = putsC c) := ⟨rfl, rfl⟩
      generalize hT : takesC c = T at p0 HT
      generalize hU : putsC c = U at p1 HT
      have HTU : Bx _ := ⟨And.intro hT hU⟩
      clear hx hy hT hU HT
      cases fi
      all_goals
        go_wp2
        refine bodyPost_ret (by simp [results, Tryz.results79, go_sem, z0, z1, z2, z3, y0, y1, y2, y3]; rfl) rfl ?_
        refine ⟨?_, set4 HB1.out.1 HS.out _ _ _ _⟩
        rw [HV.out.1, HV.out.2]
        simp only [ofV, HX.out.1, HX.out.2, HTU.out.1, HTU.out.2]
        rfl
  · have hb0 : decide ((25 : Int) ≤ (c : Int)) = true := by simp; omega
    have ho : okC fi c = false := by unfold okC; cases fi <;> simp <;> omega
    have HO : Bx _ := ⟨ho⟩
    clear hr ho
    go_wp2
    refine bodyPost_ret (by simp [results, Tryz.results79, go_sem, z0, z1, z2, z3, y0, y1, y2, y3]; rfl) rfl ?_
    refine ⟨?_, set4 HB1.out.1 HS.out _ _ _ _⟩
    rw [HV.out.1, HV.out.2]
    simp only [ofV, HO.out]
    rfl
end Go.Proofs.YtbcajmkmadgbhaaGreatDoor
