/- Nil heaps, of both sides. -/
import Derived.Test.YtlodgmmhaolmaaaDoorRfC
import Derived.Test.YtlodgmmhaolmaaaDoorHpT
set_option linter.unusedSimpArgs false
set_option linter.unusedVariables false
namespace Go.Proofs.YtlodgmmhaolmaaaDoor
open Go.RowKit
theorem bnew_any (c : Int) (w : World) : Calls Tryd.prog 46 #[.int .i64 c] w fun e w' => e = .returned (badV c) ∧ w' = w.alloc (.cells #[.int .i64 c, .int .i64 0, .int .i64 0, .bool false, .bool false] 55) := by
  go_enter Tryd.func46, Tryd.ntmps46
  go_wp2
  exact bodyPost_ret (v := badV c) (by simp [results, Tryd.results46, go_sem]) rfl ⟨rfl, rfl⟩
theorem results_bad {fn : Func} {p : Tmp} (h : fn.results = #[.cell p 55]) (tmps : Array Value) (w : World) (R : Nat) (c a i : Int) (x y : Bool) (hp : tmps[p]?.getD undef = .pointer (some ⟨R, 0, none⟩))
    (hb : w.heap[R]? = some (.cells #[.int .i64 c, .int .i64 a, .int .i64 i, .bool x, .bool y] 55 (0, 0))) :
    (results fn tmps).run Tryd.prog w = .ok (.agg #[.int .i64 c, .int .i64 a, .int .i64 i, .bool x, .bool y]) w := by
  have z0 := cells_at hb 0 _ rfl
  have z1 := cells_at hb 1 _ rfl
  have z2 := cells_at hb 2 _ rfl
  have z3 := cells_at hb 3 _ rfl
  have z4 := cells_at hb 4 _ rfl
  simp [results, h, go_sem, hp, z0, z1, z2, z3, z4]
theorem results_entbad {fn : Func} {u p : Tmp} (h : fn.results = #[.cell p 27, .cell u 55]) (tmps : Array Value) (w : World) (R U : Nat) (r : Int) (s : List UInt8) (c a i : Int) (x y : Bool) (hp : tmps[p]?.getD undef = .pointer (some ⟨R, 0, none⟩)) (hu : tmps[u]?.getD undef = .pointer (some ⟨U, 0, none⟩))
    (hr : w.heap[R]? = some (.cells #[.int .i64 r, strV s] 27 (0, 0))) (hb : w.heap[U]? = some (.cells #[.int .i64 c, .int .i64 a, .int .i64 i, .bool x, .bool y] 55 (0, 0))) :
    (results fn tmps).run Tryd.prog w = .ok (.tuple #[.agg #[.int .i64 r, strV s], .agg #[.int .i64 c, .int .i64 a, .int .i64 i, .bool x, .bool y]]) w := by
  have y0 := cells_at hr 0 _ rfl
  have y1 := cells_at hr 1 _ rfl
  have z0 := cells_at hb 0 _ rfl
  have z1 := cells_at hb 1 _ rfl
  have z2 := cells_at hb 2 _ rfl
  have z3 := cells_at hb 3 _ rfl
  have z4 := cells_at hb 4 _ rfl
  simp [results, h, go_sem, hp, hu, y0, y1, z0, z1, z2, z3, z4]
/-- an error's value -/
abbrev hErr (c : Int) : Value := .iface 23 (.int .i64 c)
theorem top_nil (w : World) : Calls Tryd.prog 33 #[.pointer none] w fun e w' => e = .returned (entB 0 [] false) ∧ Below w.heap.size w w' := by
  go_enter Tryd.func33, Tryd.ntmps33
  go_wp2
  exact bodyPost_ret (results_ent rfl _ _ w.heap.size 0 [] (.bool false) rfl rfl (box_cells w _ _ _).1 (box_cells w _ _ _).2) rfl ⟨rfl, below1 _ _⟩
theorem rtop_nil (w : World) : Calls Tryd.prog 53 #[.pointer none] w fun e w' => e = .returned (entB 0 [] false) ∧ Below w.heap.size w w' := by
  go_enter Tryd.func53, Tryd.ntmps53
  go_wp2
  exact bodyPost_ret (results_ent rfl _ _ w.heap.size 0 [] (.bool false) rfl rfl (box_cells w _ _ _).1 (box_cells w _ _ _).2) rfl ⟨rfl, below1 _ _⟩
theorem get_nil (s : List UInt8) (w : World) : Calls Tryd.prog 10 #[.pointer none, strV s] w fun e w' => e = .returned (entB 0 [] false) ∧ Below w.heap.size w w' := by
  go_enter Tryd.func10, Tryd.ntmps10
  go_wp2
  exact bodyPost_ret (results_ent rfl _ _ w.heap.size 0 [] (.bool false) rfl rfl (box_cells w _ _ _).1 (box_cells w _ _ _).2) rfl ⟨rfl, below1 _ _⟩
theorem rfind_nil (s : List UInt8) (w : World) : Calls Tryd.prog 44 #[.pointer none, strV s] w fun e w' => e = .returned (.int .i64 (-1)) ∧ w' = w := by
  go_enter Tryd.func44, Tryd.ntmps44
  go_wp2_with fail
  go_loopw [5] (fun i wr => i = .int .i64 0 ∧ wr = w) (fun _ _ => 0)
  case atStart => exact ⟨rfl, rfl⟩
  case round =>
    obtain ⟨rfl, rfl⟩ := hrel
    go_wp2
    go_ret
    exact ⟨rfl, rfl⟩
theorem rget_nil (s : List UInt8) (w : World) : Calls Tryd.prog 54 #[.pointer none, strV s] w fun e w' => e = .returned (entB 0 [] false) ∧ Below w.heap.size w w' := by
  have kf := fun w => rfind_nil s w
  go_enter Tryd.func54, Tryd.ntmps54
  go_wp2_with (go_at_call 44; refine (kf _).mono ?_; rintro e w' ⟨rfl, rfl⟩)
  exact bodyPost_ret (results_ent rfl _ _ w.heap.size 0 [] (.bool false) rfl rfl (box_cells w _ _ _).1 (box_cells w _ _ _).2) rfl ⟨rfl, below1 _ _⟩
theorem list_nil (w : World) : Calls Tryd.prog 28 #[.pointer none] w fun e w' => e = .returned (.slice none 0 0) ∧ w' = w := by
  go_enter Tryd.func28, Tryd.ntmps28
  go_wp2
  go_ret
  exact ⟨rfl, rfl⟩
theorem rlist_nil (w : World) : Calls Tryd.prog 55 #[.pointer none] w fun e w' => e = .returned (.slice none 0 0) ∧ w' = w := by
  go_enter Tryd.func55, Tryd.ntmps55
  go_wp2
  go_ret
  exact ⟨rfl, rfl⟩
theorem len_nil (w : World) : Calls Tryd.prog 34 #[.pointer none] w fun e w' => e = .returned (.int .i64 0) ∧ w' = w := by
  go_enter Tryd.func34, Tryd.ntmps34
  go_wp2
  go_ret
  exact ⟨rfl, rfl⟩
theorem moves_nil (w : World) : Calls Tryd.prog 35 #[.pointer none] w fun e w' => e = .returned (.int .i64 0) ∧ w' = w := by
  go_enter Tryd.func35, Tryd.ntmps35
  go_wp2
  go_ret
  exact ⟨rfl, rfl⟩
theorem rmoves_nil (w : World) : Calls Tryd.prog 57 #[.pointer none] w fun e w' => e = .returned (.int .i64 0) ∧ w' = w := by
  go_enter Tryd.func57, Tryd.ntmps57
  go_wp2
  go_ret
  exact ⟨rfl, rfl⟩
theorem rsortedm_nil (w : World) : Calls Tryd.prog 56 #[.pointer none] w fun e w' => e = .returned (.slice none 0 0) ∧ w' = w := by
  go_enter Tryd.func56, Tryd.ntmps56
  go_wp2
  go_ret
  exact ⟨rfl, rfl⟩
set_option maxHeartbeats 1000000 in
theorem sorted_nil (w : World) : Calls Tryd.prog 8 #[.pointer none] w fun e w' => e = .returned (.slice none 0 0) ∧ Below w.heap.size w w' := by
  have kl := fun w => list_nil w
  have hcon := fun w1 => AnyF.slices_SortFunc_none Tryd.sortEnt none 0 (.func (.func 30) #[] #[.pointer (some ⟨w.heap.size, 0, none⟩)]) w1
  change ∀ w1, Calls Tryd.prog 29 _ _ _ at hcon
  go_enter Tryd.func8, Tryd.ntmps8
  go_wp2_with (first | (go_at_call 28; refine (kl _).mono ?_; rintro e w' ⟨rfl, rfl⟩) | (go_at_call 29; refine (hcon _).mono ?_; rintro e w' ⟨rfl, rfl⟩))
  go_ret
  exact ⟨rfl, below1 _ _⟩
theorem fork_nil (w : World) : Calls Tryd.prog 18 #[.pointer none] w fun e w' => e = .returned (.pointer none) ∧ w' = w := by
  go_enter Tryd.func18, Tryd.ntmps18
  go_wp2
  go_ret
  exact ⟨rfl, rfl⟩
theorem rfork_nil (w : World) : Calls Tryd.prog 19 #[.pointer none] w fun e w' => e = .returned (.pointer none) ∧ w' = w := by
  go_enter Tryd.func19, Tryd.ntmps19
  go_wp2
  go_ret
  exact ⟨rfl, rfl⟩
theorem put_nil (r : Int) (s : List UInt8) (w : World) : Calls Tryd.prog 9 #[.pointer none, .agg #[.int .i64 r, strV s]] w fun e w' => e = .returned (hErr 1) ∧ Below w.heap.size w w' := by
  have kn := fun w => fnew_any 1 w (by decide)
  go_enter Tryd.func9, Tryd.ntmps9
  go_wp2_with (go_at_call 31; refine (kn _).mono ?_; rintro e w' ⟨rfl, rfl⟩)
  go_ret
  exact ⟨rfl, below1 _ _⟩
theorem turn_nil (s : List UInt8) (r : Int) (w : World) : Calls Tryd.prog 27 #[.pointer none, strV s, .int .i64 r] w fun e w' => e = .returned (hErr 1) ∧ w' = w := by
  have kn := fun w => fnew_any 1 w (by decide)
  go_enter Tryd.func27, Tryd.ntmps27
  go_wp2_with (go_at_call 31; refine (kn _).mono ?_; rintro e w' ⟨rfl, rfl⟩)
  go_ret
  exact ⟨rfl, rfl⟩
theorem take_nil (s : List UInt8) (w : World) : Calls Tryd.prog 14 #[.pointer none, strV s] w fun e w' => e = .returned (.tuple #[.agg #[.int .i64 0, strV []], hErr 1]) ∧ Below w.heap.size w w' := by
  have kn := fun w => fnew_any 1 w (by decide)
  go_enter Tryd.func14, Tryd.ntmps14
  go_wp2_with (go_at_call 31; refine (kn _).mono ?_; rintro e w' ⟨rfl, rfl⟩)
  exact bodyPost_ret (results_ent rfl _ _ w.heap.size 0 [] (hErr 1) rfl rfl (box_cells w _ _ _).1 (box_cells w _ _ _).2) rfl ⟨rfl, below1 _ _⟩
set_option maxHeartbeats 1000000 in
theorem pop_nil (w : World) : Calls Tryd.prog 51 #[.pointer none] w fun e w' => e = .returned (.tuple #[.agg #[.int .i64 0, strV []], hErr 1]) ∧ Below w.heap.size w w' := by
  have kt := top_nil (w.alloc (.cells #[.int .i64 0, .string ⟨#[]⟩] 27))
  go_enter Tryd.func51, Tryd.ntmps51
  go_wp2_with fail
  refine kt.mono ?_
  rintro e w1 ⟨rfl, h1⟩
  have hk1 := (h1.block w.heap.size (by simp)).trans (heap_alloc_new w _)
  have hb2 := below1 w1 (.cells #[.int .i64 0, strV []] 27)
  have hk2 := (hb2.block w.heap.size (block_lt hk1)).trans hk1
  have hx := box_cells w1 0 [] 27
  have ks := take_nil [] (w1.alloc (.cells #[.int .i64 0, strV []] 27))
  have HK := Bx.mk (And.intro hk2 (((below1 w (.cells #[.int .i64 0, .string ⟨#[]⟩] 27)).trans (h1.mono (by simp))).trans (hb2.mono (by have := h1.size; simp at this; omega))))
  obtain ⟨hx0, hx1⟩ := hx
  clear kt h1 hk1 hb2 hk2
  go_wp2_with fail
  refine ks.mono ?_
  rintro e w2 ⟨rfl, h2⟩
  have hk3 := (h2.block w.heap.size (block_lt HK.out.1)).trans HK.out.1
  have z0 : w2.cell? ⟨w.heap.size, 0, none⟩ = some (.int .i64 0) := cells_at hk3 0 _ rfl
  have z1 : w2.cell? ⟨w.heap.size, 1, none⟩ = some (.string ⟨#[]⟩) := cells_at hk3 1 _ rfl
  have zf0 := cells_free hk3 0
  have zf1 := cells_free hk3 1
  have hs2 := set2_cells hk3 (.int .i64 0) (strV [])
  have HF := Bx.mk (And.intro hs2 (set2_below w2 w.heap.size (.int .i64 0) (strV []) (HK.out.2.trans (h2.mono HK.out.2.size)) (Nat.le_refl _)))
  clear ks h2 hk3 hs2 hx0 hx1
  go_wp2
  exact bodyPost_ret (results_ent rfl _ _ w.heap.size 0 [] (hErr 1) rfl rfl HF.out.1.1 HF.out.1.2) rfl ⟨rfl, HF.out.2⟩
end Go.Proofs.YtlodgmmhaolmaaaDoor
