/- The document's heap: what it tells; nil heaps of both sides. -/
import Derived.Test.YtlodgmmhaolmaaaDoorRfB
import Derived.Test.YtlodgmmhaolmaaaDoorRsw
import Derived.Test.YtlodgmmhaolmaaaDoorHpL
set_option linter.unusedSimpArgs false
set_option linter.unusedVariables false
namespace Go.Proofs.YtlodgmmhaolmaaaDoor
open Go.RowKit
/-- the entry of a name, or none -/
def getE (L : List Ent) (s : List UInt8) : Ent := match findE L s with
  | some i => atE L i
  | none => (0, [])
/-- an entry and whether it is there -/
abbrev entB (r : Int) (s : List UInt8) (b : Bool) : Value := .tuple #[.agg #[.int .i64 r, strV s], .bool b]
set_option maxHeartbeats 2000000 in
set_option maxRecDepth 100000 in
theorem rtop_any (mb : Nat) (v : Value) (L : List Ent) (mo : Bool) (mv : Nat) (w : World) (h : RefAt w mb v L mo mv) :
    Calls Tryd.prog 53 #[.pointer (some ⟨mb, 0, none⟩)] w fun e w' => e = .returned (entB (atE L 0).1 (atE L 0).2 (decide (0 < L.length))) ∧ Below w.heap.size w w' := by
  have h1 := h.below (below1 w (.cells #[.int .i64 0, .string ⟨#[]⟩] 27))
  clear h
  cases L with
  | nil =>
    obtain ⟨A, cap, rfl, _⟩ := h1.row.form
    have c0 := h1.cell0
    simp only [List.length_nil] at c0
    clear h1
    go_enter Tryd.func53, Tryd.ntmps53
    go_wp2
    exact bodyPost_ret (results_ent rfl _ _ w.heap.size 0 [] (.bool false) rfl rfl (box_cells w _ _ _).1 (box_cells w _ _ _).2) rfl ⟨rfl, below1 _ _⟩
  | cons x L =>
    obtain ⟨g, cap, rfl, ho⟩ := h1.row.some (by simp)
    have c0 := h1.cell0
    obtain ⟨e0, e1⟩ := ent_cells ho rfl (i := 0) (by simp)
    rw [List.length_cons] at c0
    have z1 : ((L.length : Int) + 1 == 0) = false := by simp; omega
    have z0 : (0 : Int) < (L.length : Int) + 1 := by omega
    rw [Nat.zero_mul] at e0 e1
    rw [show decide (0 < (x :: L).length) = true by simp]
    generalize (atE (x :: L) 0).1 = r at *
    generalize (atE (x :: L) 0).2 = s at *
    generalize L.length = n at *
    clear h1 ho
    go_enter Tryd.func53, Tryd.ntmps53
    go_wp2
    exact bodyPost_ret (results_ent rfl _ _ w.heap.size r s (.bool true) rfl rfl (box_cells w _ _ _).1 (box_cells w _ _ _).2) rfl ⟨rfl, below1 _ _⟩
set_option maxHeartbeats 2000000 in
set_option maxRecDepth 100000 in
theorem rget_any (mb : Nat) (v : Value) (L : List Ent) (mo : Bool) (mv : Nat) (s : List UInt8) (w : World) (h : RefAt w mb v L mo mv) (hL : L.length ≤ 1152921504606846976) :
    Calls Tryd.prog 54 #[.pointer (some ⟨mb, 0, none⟩), strV s] w fun e w' => e = .returned (entB (getE L s).1 (getE L s).2 (findE L s).isSome) ∧ Below w.heap.size w w' := by
  have h1 := h.below (below1 w (.cells #[.int .i64 0, .string ⟨#[]⟩] 27))
  have kf := rfind_any mb v L mo mv s _ h1 hL
  unfold getE
  cases hf : findE L s with
  | none =>
    rw [hf] at kf
    simp only [posI] at kf
    clear h h1 hf
    go_enter Tryd.func54, Tryd.ntmps54
    go_wp2_with (go_at_call 44; refine kf.mono ?_; rintro e w' ⟨rfl, rfl⟩)
    exact bodyPost_ret (results_ent rfl _ _ w.heap.size 0 [] (.bool false) rfl rfl (box_cells w _ _ _).1 (box_cells w _ _ _).2) rfl ⟨rfl, below1 _ _⟩
  | some i =>
    rw [hf] at kf
    simp only [posI] at kf
    have hi := (findE_some hf).1
    obtain ⟨g, cap, rfl, ho⟩ := h1.row.some (by omega)
    have c0 := h1.cell0
    obtain ⟨e0, e1⟩ := ent_cells ho rfl hi
    have hi0 : ¬ ((i : Int) < 0) := by omega
    simp only [Option.isSome_some]
    generalize L.length = N at *
    generalize (atE L i).1 = r at *
    generalize (atE L i).2 = t at *
    clear h h1 hf ho
    go_enter Tryd.func54, Tryd.ntmps54
    go_wp2_with (go_at_call 44; refine kf.mono ?_; rintro e w' ⟨rfl, rfl⟩)
    exact bodyPost_ret (results_ent rfl _ _ w.heap.size r t (.bool true) rfl rfl (box_cells w _ _ _).1 (box_cells w _ _ _).2) rfl ⟨rfl, below1 _ _⟩
set_option maxHeartbeats 1000000 in
theorem rlist_any (mb : Nat) (v : Value) (L : List Ent) (mo : Bool) (mv : Nat) (w : World) (h : RefAt w mb v L mo mv) : Calls Tryd.prog 55 #[.pointer (some ⟨mb, 0, none⟩)] w fun e w' => e = .returned v ∧ w' = w := by
  have c0 := h.cell0
  clear h
  go_enter Tryd.func55, Tryd.ntmps55
  go_wp2
  go_ret
  exact ⟨rfl, rfl⟩
set_option maxHeartbeats 1000000 in
theorem rmoves_any (mb : Nat) (v : Value) (L : List Ent) (mo : Bool) (mv : Nat) (w : World) (h : RefAt w mb v L mo mv) : Calls Tryd.prog 57 #[.pointer (some ⟨mb, 0, none⟩)] w fun e w' => e = .returned (.int .i64 mv) ∧ w' = w := by
  have c0 := h.cell2
  clear h
  go_enter Tryd.func57, Tryd.ntmps57
  go_wp2
  go_ret
  exact ⟨rfl, rfl⟩
end Go.Proofs.YtlodgmmhaolmaaaDoor
