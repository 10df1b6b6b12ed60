/- The document's Name, Text, Tags, Right, Escape. -/
import Derived.Test.YtnpagnghnohmdaaDoorKeyI
set_option linter.unusedSimpArgs false
set_option linter.unusedVariables false
namespace Go.Proofs.YtnpagnghnohmdaaDoor
open Go.RowKit
theorem badnew_x (c : Int) (w : World) : Calls Tryd.prog 51 #[.int .i64 c] w fun e w' => e = .returned (badV c) ∧ w.alloc (.cells #[.int .i64 c, .int .i64 0, .int .i64 0, .bool false, .bool false] 35) = w' := by
  go_enter Tryd.func51, Tryd.ntmps51
  go_wp2
  exact bodyPost_ret (v := badV c) (by simp [results, Tryd.results51, go_sem]) rfl ⟨rfl, rfl⟩
theorem cell_set_ne {w : World} {B i j : Nat} {u v : Value} (h : w.cell? ⟨B, j, none⟩ = some v) (hij : i ≠ j) : (w.setCell ⟨B, i, none⟩ u).cell? ⟨B, j, none⟩ = some v := by
  rw [World.cell?_setCell_other]; exact h
  intro e; injection e; omega
theorem cell_set_eq {w : World} {B i : Nat} {u v : Value} (h : w.cell? ⟨B, i, none⟩ = some v) : (w.setCell ⟨B, i, none⟩ u).cell? ⟨B, i, none⟩ = some u :=
  World.cell?_setCell_same' _ _ _ (by rw [h]; rfl)
theorem size_set {w : World} (a : Addr) (u : Value) : (w.setCell a u).heap.size = w.heap.size := by simp [World.setCell]
/-- the box of a result that is an error of the document's -/
structure BB (w0 w : World) (R : Nat) : Prop where
  below : Below R w0 w
  lt : R < w.heap.size
  c0 : w.cell? ⟨R, 0, none⟩ = some (.int .i64 0)
  c1 : w.cell? ⟨R, 1, none⟩ = some (.int .i64 0)
  c2 : w.cell? ⟨R, 2, none⟩ = some (.int .i64 0)
  c3 : w.cell? ⟨R, 3, none⟩ = some (.bool false)
  c4 : w.cell? ⟨R, 4, none⟩ = some (.bool false)
  f : ∀ i, w.frozen? ⟨R, i, none⟩ = false
theorem BB.alloc {w0 w : World} (T : Nat) (hb : Below w.heap.size w0 w) : BB w0 (w.alloc (.cells #[.int .i64 0, .int .i64 0, .int .i64 0, .bool false, .bool false] T)) w.heap.size where
  below := hb.trans (below1 _ _)
  lt := by simp only [heap_push, Array.size_push]; omega
  c0 := by rw [World.cell?_alloc_at _ _ _ _ rfl]; rfl
  c1 := by rw [World.cell?_alloc_at _ _ _ _ rfl]; rfl
  c2 := by rw [World.cell?_alloc_at _ _ _ _ rfl]; rfl
  c3 := by rw [World.cell?_alloc_at _ _ _ _ rfl]; rfl
  c4 := by rw [World.cell?_alloc_at _ _ _ _ rfl]; rfl
  f := fun i => by simp
theorem BB.step {w0 w w' : World} {R : Nat} (g : BB w0 w R) (hb : Below w.heap.size w w') : BB w0 w' R where
  below := g.below.trans (hb.mono (Nat.le_of_lt g.lt))
  lt := Nat.lt_of_lt_of_le g.lt hb.size
  c0 := by rw [hb.cell (p := ⟨R, 0, none⟩) g.lt]; exact g.c0
  c1 := by rw [hb.cell (p := ⟨R, 1, none⟩) g.lt]; exact g.c1
  c2 := by rw [hb.cell (p := ⟨R, 2, none⟩) g.lt]; exact g.c2
  c3 := by rw [hb.cell (p := ⟨R, 3, none⟩) g.lt]; exact g.c3
  c4 := by rw [hb.cell (p := ⟨R, 4, none⟩) g.lt]; exact g.c4
  f := fun i => by rw [hb.frozen (p := ⟨R, i, none⟩) g.lt]; exact g.f i
theorem BB.fin {w0 w : World} {R : Nat} (g : BB w0 w R) (c : Int) :
    (((((w.setCell ⟨R, 0, none⟩ (.int .i64 c)).setCell ⟨R, 1, none⟩ (.int .i64 0)).setCell ⟨R, 2, none⟩ (.int .i64 0)).setCell ⟨R, 3, none⟩ (.bool false)).setCell ⟨R, 4, none⟩ (.bool false)).cell? ⟨R, 0, none⟩ = some (.int .i64 c) ∧
    (((((w.setCell ⟨R, 0, none⟩ (.int .i64 c)).setCell ⟨R, 1, none⟩ (.int .i64 0)).setCell ⟨R, 2, none⟩ (.int .i64 0)).setCell ⟨R, 3, none⟩ (.bool false)).setCell ⟨R, 4, none⟩ (.bool false)).cell? ⟨R, 1, none⟩ = some (.int .i64 0) ∧
    (((((w.setCell ⟨R, 0, none⟩ (.int .i64 c)).setCell ⟨R, 1, none⟩ (.int .i64 0)).setCell ⟨R, 2, none⟩ (.int .i64 0)).setCell ⟨R, 3, none⟩ (.bool false)).setCell ⟨R, 4, none⟩ (.bool false)).cell? ⟨R, 2, none⟩ = some (.int .i64 0) ∧
    (((((w.setCell ⟨R, 0, none⟩ (.int .i64 c)).setCell ⟨R, 1, none⟩ (.int .i64 0)).setCell ⟨R, 2, none⟩ (.int .i64 0)).setCell ⟨R, 3, none⟩ (.bool false)).setCell ⟨R, 4, none⟩ (.bool false)).cell? ⟨R, 3, none⟩ = some (.bool false) ∧
    (((((w.setCell ⟨R, 0, none⟩ (.int .i64 c)).setCell ⟨R, 1, none⟩ (.int .i64 0)).setCell ⟨R, 2, none⟩ (.int .i64 0)).setCell ⟨R, 3, none⟩ (.bool false)).setCell ⟨R, 4, none⟩ (.bool false)).cell? ⟨R, 4, none⟩ = some (.bool false) ∧
    Below R w0 (((((w.setCell ⟨R, 0, none⟩ (.int .i64 c)).setCell ⟨R, 1, none⟩ (.int .i64 0)).setCell ⟨R, 2, none⟩ (.int .i64 0)).setCell ⟨R, 3, none⟩ (.bool false)).setCell ⟨R, 4, none⟩ (.bool false)) := by
  have hR : R ≤ R := Nat.le_refl _
  refine ⟨?_, ?_, ?_, ?_, ?_, ?_⟩
  · repeat refine cell_set_ne ?_ (by omega)
    exact cell_set_eq g.c0
  · repeat refine cell_set_ne ?_ (by omega)
    exact cell_set_eq (cell_set_ne g.c1 (by omega))
  · refine cell_set_ne (cell_set_ne (cell_set_eq (v := .int .i64 0) ?_) (by omega)) (by omega)
    repeat refine cell_set_ne ?_ (by omega)
    exact g.c2
  · refine cell_set_ne (cell_set_eq (v := .bool false) ?_) (by omega)
    repeat refine cell_set_ne ?_ (by omega)
    exact g.c3
  · refine cell_set_eq (v := .bool false) ?_
    repeat refine cell_set_ne ?_ (by omega)
    exact g.c4
  · exact ((((g.below.setCell (p := ⟨R, 0, none⟩) hR _).setCell (p := ⟨R, 1, none⟩) hR _).setCell (p := ⟨R, 2, none⟩) hR _).setCell (p := ⟨R, 3, none⟩) hR _).setCell (p := ⟨R, 4, none⟩) hR _
theorem BB.fin2 {w0 w : World} {R : Nat} (g : BB w0 w R) (c : Int) (cs : Array Value) (T : Nat) : ∃ w', w' = (((((w.setCell ⟨R, 0, none⟩ (.int .i64 c)).setCell ⟨R, 1, none⟩ (.int .i64 0)).setCell ⟨R, 2, none⟩ (.int .i64 0)).setCell ⟨R, 3, none⟩ (.bool false)).setCell ⟨R, 4, none⟩ (.bool false)).alloc (.cells cs T) ∧
    w'.cell? ⟨R, 0, none⟩ = some (.int .i64 c) ∧ w'.cell? ⟨R, 1, none⟩ = some (.int .i64 0) ∧ w'.cell? ⟨R, 2, none⟩ = some (.int .i64 0) ∧ w'.cell? ⟨R, 3, none⟩ = some (.bool false) ∧ w'.cell? ⟨R, 4, none⟩ = some (.bool false) ∧ Below R w0 w' := by
  obtain ⟨z0, z1, z2, z3, z4, zb⟩ := g.fin c
  have hl := g.lt
  refine ⟨_, rfl, ?_⟩
  generalize hW : ((((w.setCell ⟨R, 0, none⟩ (.int .i64 c)).setCell ⟨R, 1, none⟩ (.int .i64 0)).setCell ⟨R, 2, none⟩ (.int .i64 0)).setCell ⟨R, 3, none⟩ (.bool false)).setCell ⟨R, 4, none⟩ (.bool false) = W at *
  have hs : W.heap.size = w.heap.size := by rw [← hW]; simp only [size_set]
  refine ⟨?_, ?_, ?_, ?_, ?_, zb.trans ((below1 _ _).mono (by omega))⟩
  all_goals (rw [World.cell?_alloc_lt _ _ _ (by rw [hs]; exact hl)]; assumption)
theorem results_bad1 {fn : Func} {p : Tmp} (h : fn.results = #[.cell p 35]) (tmps : Array Value) (w : World) (R : Nat) (c : Int) (hp : tmps[p]?.getD undef = .pointer (some ⟨R, 0, none⟩))
    (z0 : w.cell? ⟨R, 0, none⟩ = some (.int .i64 c)) (z1 : w.cell? ⟨R, 1, none⟩ = some (.int .i64 0)) (z2 : w.cell? ⟨R, 2, none⟩ = some (.int .i64 0)) (z3 : w.cell? ⟨R, 3, none⟩ = some (.bool false)) (z4 : w.cell? ⟨R, 4, none⟩ = some (.bool false)) :
    (results fn tmps).run Tryd.prog w = .ok (badV c) w := by
  simp [results, h, go_sem, hp, z0, z1, z2, z3, z4, badV]
theorem rname_any (l : List UInt8) (w : World) (hl : l.length ≤ 9223372036854775807) :
    Calls Tryd.prog 19 #[strV l] w fun e w' => e = .returned (badV (nameC l)) ∧ Below w.heap.size w w' := by
  have kr := fun w => isName_any l w hl
  have HB : Bx _ := ⟨BB.alloc 35 (Below.refl w.heap.size w)⟩
  obtain ⟨R, hR⟩ : ∃ R, rightB l 64 = R := ⟨_, rfl⟩
  rw [hR] at kr
  have HE : Bx (nameC l = if R then 0 else 50) := ⟨by unfold nameC; rw [hR]⟩
  clear hl hR
  go_enter Tryd.func19, Tryd.ntmps19
  go_wp2_with fail
  refine (kr _).mono ?_
  rintro e w1 ⟨rfl, rfl⟩
  clear kr
  cases R
  · go_wp2_with (go_at_call 51; refine (badnew_x _ _).mono ?_; rintro e w' ⟨rfl, rfl⟩)
    all_goals exact bodyPost_ret (v := badV 50) (by simp [results, Tryd.results19, go_sem]) rfl ⟨by rw [HE.out]; rfl, below2 _ _ _⟩
  · go_wp2_with fail
    all_goals exact bodyPost_ret (v := badV 0) (by simp [results, Tryd.results19, go_sem]) rfl ⟨by rw [HE.out]; rfl, below1 _ _⟩
end Go.Proofs.YtnpagnghnohmdaaDoor
