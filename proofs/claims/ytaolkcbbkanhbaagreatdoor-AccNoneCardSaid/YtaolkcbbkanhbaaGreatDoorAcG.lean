/- Accumulators of the least and of the greatest: Slot; Add where one is in. -/
import Derived.Test.YtaolkcbbkanhbaaGreatDoorAcF
set_option linter.unusedSimpArgs false
set_option linter.unusedVariables false
namespace Go.Proofs.YtaolkcbbkanhbaaGreatDoor
open Go.RowKit
open Go.Maps (Keyed)
/-- the cells of a slot -/
theorem results_slot {fn : Func} {p : Tmp} (h : fn.results = #[.cell p 40]) (tmps : Array Value) (w : World) (R : Nat) (a b c d : Value) (hp : tmps[p]?.getD undef = .pointer (some ⟨R, 0, none⟩)) (h0 : w.cell? ⟨R, 0, none⟩ = some a) (h1 : w.cell? ⟨R, 1, none⟩ = some b) (h2 : w.cell? ⟨R, 2, none⟩ = some c) (h3 : w.cell? ⟨R, 3, none⟩ = some d) :
    (results fn tmps).run Tryz.prog w = .ok (.agg #[a, b, c, d]) w := by
  simp [results, h, go_sem, hp, h0, h1, h2, h3]
theorem set4_cells {w : World} {R : Nat} {T : TypeId} {a b c d : Value} (h : w.heap[R]? = some (.cells #[a, b, c, d] T (0, 0))) (x y z u : Value) :
    ((((w.setCell ⟨R, 0, none⟩ x).setCell ⟨R, 1, none⟩ y).setCell ⟨R, 2, none⟩ z).setCell ⟨R, 3, none⟩ u).heap[R]? = some (.cells #[x, y, z, u] T (0, 0)) := by
  have h1 := cells_set (cells_set (cells_set (cells_set h 0 x) 1 y) 2 z) 3 u
  exact h1
set_option maxHeartbeats 4000000 in
set_option maxRecDepth 100000 in
theorem edge_slot (kb hb pm : Nat) (v : Value) (H : List Ent) (mo : Bool) (mv : Nat) (N : Int) (w : World) (hk : w.heap[kb]? = some (.cells #[.pointer (some ⟨hb, 0, none⟩)] 82 (0, 0))) (hH : HeapAt w hb pm v H mo mv) (hL : 0 < H.length) :
    Calls Tryz.prog 120 #[.pointer (some ⟨kb, 0, none⟩), .int .i64 N] w fun e w' => e = .returned (.agg #[.bool true, .int .i64 (atE H 0).1, .int .i64 0, .int .u64 0]) ∧ Below w.heap.size w w' := by
  have hbk := heap_alloc_new w (.cells #[.bool false, .int .i64 0, .int .i64 0, .int .u64 0] 40)
  have hb1 := below1 w (.cells #[.bool false, .int .i64 0, .int .i64 0, .int .u64 0] 40)
  have kt := top_some hb pm v H mo mv _ (hH.below hb1) hL
  have c0 := cells_at (show (w.alloc (.cells #[.bool false, .int .i64 0, .int .i64 0, .int .u64 0] 40)).heap[kb]? = _ from (hb1.block kb (block_lt hk)).trans hk) 0 _ rfl
  have HB : Bx _ := ⟨And.intro hb1 (And.intro hbk (show w.heap.size < (w.alloc (.cells #[.bool false, .int .i64 0, .int .i64 0, .int .u64 0] 40)).heap.size by simp))⟩
  generalize (atE H 0).1 = r at *
  generalize (atE H 0).2 = s at *
  clear hk hH hL hbk hb1
  go_enter Tryz.func120, Tryz.ntmps120
  go_upto_region 1 with (fail)
  change Code.wp _ _ _ _ (w.alloc (.cells #[.bool false, .int .i64 0, .int .i64 0, .int .u64 0] 40))
  generalize (w.alloc (.cells #[.bool false, .int .i64 0, .int .i64 0, .int .u64 0] 40)) = w1 at *
  go_wp2_with fail
  refine kt.mono ?_
  rintro e w2 ⟨rfl, hb2⟩
  have h2 : (w2.alloc (.cells #[.int .i64 r, strV s] 117)).heap[w.heap.size]? = some (.cells #[.bool false, .int .i64 0, .int .i64 0, .int .u64 0] 40 (0, 0)) := by
    rw [(hb2.trans ((below1 w2 _).mono hb2.size)).block _ HB.out.2.2]; exact HB.out.2.1
  have e0 := cells_at h2 0 _ rfl
  have e1 := cells_at h2 1 _ rfl
  have e2 := cells_at h2 2 _ rfl
  have e3 := cells_at h2 3 _ rfl
  have f0 := cells_free h2 0
  have f1 := cells_free h2 1
  have f2 := cells_free h2 2
  have f3 := cells_free h2 3
  have g0 := (box_cells w2 r s 117).1
  have H2 : Bx _ := ⟨And.intro hb2 h2⟩
  clear h2 hb2 kt c0
  go_upto_region 2 with (fail)
  change Code.wp _ _ _ _ (w2.alloc (.cells #[.int .i64 r, strV s] 117))
  have HS : Bx (w2.heap.size < (w2.alloc (.cells #[.int .i64 r, strV s] 117)).heap.size ∧ Below w2.heap.size w2 (w2.alloc (.cells #[.int .i64 r, strV s] 117))) := ⟨by simp, below1 _ _⟩
  generalize (w2.alloc (.cells #[.int .i64 r, strV s] 117)) = w3 at *
  go_wp2
  have h4 := set4_cells H2.out.2 (.bool true) (.int .i64 r) (.int .i64 0) (.int .u64 0)
  have hb3 : Below w.heap.size w w3 := HB.out.1.trans ((H2.out.1.mono HB.out.1.size).trans (HS.out.2.mono (Nat.le_trans HB.out.1.size H2.out.1.size)))
  exact bodyPost_ret (results_slot rfl _ _ w.heap.size _ _ _ _ rfl (cells_at h4 0 _ rfl) (cells_at h4 1 _ rfl) (cells_at h4 2 _ rfl) (cells_at h4 3 _ rfl)) rfl ⟨rfl, (((hb3.setCell (Nat.le_refl _) _).setCell (Nat.le_refl _) _).setCell (Nat.le_refl _) _).setCell (Nat.le_refl _) _⟩
set_option maxHeartbeats 4000000 in
set_option maxRecDepth 100000 in
theorem aslot_edge (ab mb kb hb pm f : Nat) (v : Value) (H : List Ent) (mo : Bool) (mv : Nat) (L : List NumI) (w : World) (hC : AccC w ab mb f (edgeK kb) L) (hE : EdgeAt w kb hb pm v mo L H mv) (hL : 0 < L.length) (hLN : L.length ≤ 1048576) :
    Calls Tryz.prog 14 #[.pointer (some ⟨ab, 0, none⟩)] w fun e w' => e = .returned (.agg #[.bool true, .int .i64 (atE H 0).1, .int .i64 0, .int .u64 0]) ∧ Below w.heap.size w w' := by
  have hbk := heap_alloc_new w (.cells #[.bool false, .int .i64 0, .int .i64 0, .int .u64 0] 40)
  have hb1 := below1 w (.cells #[.bool false, .int .i64 0, .int .i64 0, .int .u64 0] 40)
  have hC1 := hC.below hb1
  have hE1 := hE.below hb1
  have hH0 : 0 < H.length := (hE.inh.top hE.ok (by intro e; subst e; simp at hL)).1
  have hl := fun ty => (show AccC (w.alloc (.cells #[.bool false, .int .i64 0, .int .i64 0, .int .u64 0] 40)).drew ab mb f (edgeK kb) L from hC1.below (Below.refl _ _).drew).len ty
  have kl := alen_any ab mb f _ L _ hC1
  have ks := edge_slot kb hb pm v H mo mv L.length (w.alloc (.cells #[.bool false, .int .i64 0, .int .i64 0, .int .u64 0] 40)).drew hE1.knd (hE1.heap.below (Below.refl _ _).drew) hH0
  have c1 := cells_at hC1.acc 1 _ rfl
  have c2 := cells_at hC1.acc 2 _ rfl
  have e0 := cells_at hbk 0 _ rfl
  have e1 := cells_at hbk 1 _ rfl
  have e2 := cells_at hbk 2 _ rfl
  have e3 := cells_at hbk 3 _ rfl
  have f0 := cells_free hbk 0
  have f1 := cells_free hbk 1
  have f2 := cells_free hbk 2
  have f3 := cells_free hbk 3
  have hn := fun w => n_edge_slot ⟨kb, 0, none⟩ w
  have hm := fun w => m_edge_slot ⟨kb, 0, none⟩ w
  have z1 : (((L.length : Int)) == 0) = false := by rw [beq_eq_false_iff_ne]; omega
  generalize (L.length : Int) = N at *
  have HB : Bx _ := ⟨And.intro hb1 (And.intro hbk (show w.heap.size < (w.alloc (.cells #[.bool false, .int .i64 0, .int .i64 0, .int .u64 0] 40)).heap.size by simp))⟩
  generalize (atE H 0).1 = r at *
  clear hC hE hC1 hE1 hH0 hL hLN hbk hb1
  go_enter Tryz.func14, Tryz.ntmps14
  go_upto_region 1 with (fail)
  change Code.wp _ _ _ _ (w.alloc (.cells #[.bool false, .int .i64 0, .int .i64 0, .int .u64 0] 40))
  generalize (w.alloc (.cells #[.bool false, .int .i64 0, .int .i64 0, .int .u64 0] 40)) = w1 at *
  go_wp2_with fail
  refine kl.mono ?_
  rintro e w2 ⟨rfl, rfl⟩
  clear kl
  go_upto_region 3 with (fail)
  go_region_with (go_at_call 120; refine ks.mono ?_; rintro e w3 ⟨rfl, hb3⟩; have k0 : w3.cell? ⟨w.heap.size, 0, none⟩ = _ := (hb3.cell (cell_lt (show w1.drew.cell? ⟨w.heap.size, 0, none⟩ = _ from e0))).trans e0; have k1 : w3.cell? ⟨w.heap.size, 1, none⟩ = _ := (hb3.cell (cell_lt (show w1.drew.cell? ⟨w.heap.size, 1, none⟩ = _ from e1))).trans e1; have k2 : w3.cell? ⟨w.heap.size, 2, none⟩ = _ := (hb3.cell (cell_lt (show w1.drew.cell? ⟨w.heap.size, 2, none⟩ = _ from e2))).trans e2; have k3 : w3.cell? ⟨w.heap.size, 3, none⟩ = _ := (hb3.cell (cell_lt (show w1.drew.cell? ⟨w.heap.size, 3, none⟩ = _ from e3))).trans e3; have h0 : w3.frozen? ⟨w.heap.size, 0, none⟩ = false := (hb3.frozen (cell_lt (show w1.drew.cell? ⟨w.heap.size, 0, none⟩ = _ from e0))).trans f0; have h1 : w3.frozen? ⟨w.heap.size, 1, none⟩ = false := (hb3.frozen (cell_lt (show w1.drew.cell? ⟨w.heap.size, 1, none⟩ = _ from e1))).trans f1; have h2 : w3.frozen? ⟨w.heap.size, 2, none⟩ = false := (hb3.frozen (cell_lt (show w1.drew.cell? ⟨w.heap.size, 2, none⟩ = _ from e2))).trans f2; have h3 : w3.frozen? ⟨w.heap.size, 3, none⟩ = false := (hb3.frozen (cell_lt (show w1.drew.cell? ⟨w.heap.size, 3, none⟩ = _ from e3))).trans f3)
  all_goals go_wp2_with fail
  all_goals (
    have hbk3 := (hb3.block w.heap.size HB.out.2.2).trans (show w1.drew.heap[w.heap.size]? = _ from HB.out.2.1)
    have h4 := set4_cells hbk3 (.bool true) (.int .i64 r) (.int .i64 0) (.int .u64 0)
    have hb4 : Below w.heap.size w w3 := HB.out.1.drew.trans (hb3.mono (show w.heap.size ≤ w1.drew.heap.size from HB.out.1.size))
    exact bodyPost_ret (results_slot rfl _ _ w.heap.size _ _ _ _ rfl (cells_at h4 0 _ rfl) (cells_at h4 1 _ rfl) (cells_at h4 2 _ rfl) (cells_at h4 3 _ rfl)) rfl ⟨rfl, (((hb4.setCell (Nat.le_refl _) _).setCell (Nat.le_refl _) _).setCell (Nat.le_refl _) _).setCell (Nat.le_refl _) _⟩)
set_option maxHeartbeats 4000000 in
set_option maxRecDepth 100000 in
theorem aslot_nil (w : World) : Calls Tryz.prog 14 #[.pointer none] w fun e w' => e = .returned (.agg #[.bool false, .int .i64 0, .int .i64 0, .int .u64 0]) ∧ Below w.heap.size w w' := by
  have hbk := heap_alloc_new w (.cells #[.bool false, .int .i64 0, .int .i64 0, .int .u64 0] 40)
  have hb1 := below1 w (.cells #[.bool false, .int .i64 0, .int .i64 0, .int .u64 0] 40)
  have kl := alen_nil (w.alloc (.cells #[.bool false, .int .i64 0, .int .i64 0, .int .u64 0] 40))
  have e0 := cells_at hbk 0 _ rfl
  have e1 := cells_at hbk 1 _ rfl
  have e2 := cells_at hbk 2 _ rfl
  have e3 := cells_at hbk 3 _ rfl
  have f0 := cells_free hbk 0
  have f1 := cells_free hbk 1
  have f2 := cells_free hbk 2
  have f3 := cells_free hbk 3
  have HB : Bx _ := ⟨And.intro hb1 hbk⟩
  clear hbk hb1
  go_enter Tryz.func14, Tryz.ntmps14
  go_upto_region 1 with (fail)
  change Code.wp _ _ _ _ (w.alloc (.cells #[.bool false, .int .i64 0, .int .i64 0, .int .u64 0] 40))
  generalize (w.alloc (.cells #[.bool false, .int .i64 0, .int .i64 0, .int .u64 0] 40)) = w1 at *
  go_wp2_with fail
  refine kl.mono ?_
  rintro e w2 ⟨rfl, rfl⟩
  clear kl
  go_wp2
  have h4 := set4_cells HB.out.2 (.bool false) (.int .i64 0) (.int .i64 0) (.int .u64 0)
  exact bodyPost_ret (results_slot rfl _ _ w.heap.size _ _ _ _ rfl (cells_at h4 0 _ rfl) (cells_at h4 1 _ rfl) (cells_at h4 2 _ rfl) (cells_at h4 3 _ rfl)) rfl ⟨rfl, (((HB.out.1.setCell (Nat.le_refl _) _).setCell (Nat.le_refl _) _).setCell (Nat.le_refl _) _).setCell (Nat.le_refl _) _⟩
end Go.Proofs.YtaolkcbbkanhbaaGreatDoor
