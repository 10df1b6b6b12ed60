/- call, alike: the rest of kinds; nil heaps. Condition: errors.errorType holds the handle of the type error. -/
import Derived.Test.YtlodgmmhaolmaaaDoorCal
set_option linter.unusedSimpArgs false
set_option linter.unusedVariables false
namespace Go.Proofs.YtlodgmmhaolmaaaDoor
open Go.RowKit
set_option maxHeartbeats 4000000 in
set_option maxRecDepth 100000 in
theorem alike_nil (s : List UInt8) (w : World) : Calls Tryd.prog 24 #[.pointer none, .pointer none, strV s] w fun e w' => e = .returned (.bool true) ∧ Below w.heap.size w w' := by
  have kt := fun w => top_nil w
  have krt := fun w => rtop_nil w
  have kg := fun w => get_nil s w
  have krg := fun w => rget_nil s w
  have hr0 : ∀ w, EntRow w none 0 [] := fun w => ⟨rfl, fun h => absurd h (by simp)⟩
  go_enter Tryd.func24, Tryd.ntmps24
  go_wp2_with fail
  refine (kt _).mono ?_
  rintro e w1 ⟨rfl, hb1⟩
  have hn1 := below1 w1 (.cells #[.int .i64 0, strV []] 27)
  have H1 := Bx.mk (And.intro (hb1.trans (hn1.mono hb1.size)) (Box2.new w1 0 []))
  clear hb1 hn1
  go_wp2_with fail
  refine (krt _).mono ?_
  rintro e w2 ⟨rfl, hb2⟩
  have hn2 := below1 w2 (.cells #[.int .i64 0, strV []] 27)
  have hb2' : Below w.heap.size w w2 := H1.out.1.trans (hb2.mono H1.out.1.size)
  have H2 := Bx.mk (And.intro (hb2'.trans (hn2.mono hb2'.size)) (And.intro ((H1.out.2.step hb2).step hn2) (Box2.new w2 0 [])))
  clear hb2 hn2 hb2' H1
  go_wp2_with fail
  refine (kg _).mono ?_
  rintro e w3 ⟨rfl, hb3⟩
  have hn3 := below1 w3 (.cells #[.int .i64 0, strV []] 27)
  have hb3' : Below w.heap.size w w3 := H2.out.1.trans (hb3.mono H2.out.1.size)
  have H3 := Bx.mk (And.intro (hb3'.trans (hn3.mono hb3'.size)) (And.intro ((H2.out.2.1.step hb3).step hn3) (And.intro ((H2.out.2.2.step hb3).step hn3) (Box2.new w3 0 []))))
  clear hb3 hn3 hb3' H2
  go_wp2_with fail
  refine (krg _).mono ?_
  rintro e w4 ⟨rfl, hb4⟩
  have hn4 := below1 w4 (.cells #[.int .i64 0, strV []] 27)
  have hb4' : Below w.heap.size w w4 := H3.out.1.trans (hb4.mono H3.out.1.size)
  have H4 := Bx.mk (And.intro (hb4'.trans (hn4.mono hb4'.size)) (And.intro ((H3.out.2.1.step hb4).step hn4) (And.intro ((H3.out.2.2.1.step hb4).step hn4) (And.intro ((H3.out.2.2.2.step hb4).step hn4) (Box2.new w4 0 [])))))
  clear hb4 hn4 hb4' H3
  go_upto_region 5 with (fail)
  change Code.wp _ _ _ _ (w4.alloc (.cells #[.int .i64 0, strV []] 27))
  generalize w4.alloc (.cells #[.int .i64 0, strV []] 27) = wz at *
  generalize w1.heap.size = B1 at *
  generalize w2.heap.size = B2 at *
  generalize w3.heap.size = B3 at *
  generalize w4.heap.size = B4 at *
  go_wp2_with (first
    | (go_at_call 34; refine (len_nil _).mono ?_; rintro e w5 ⟨rfl, rfl⟩)
    | (go_at_call 55; refine (rlist_nil _).mono ?_; rintro e w5 ⟨rfl, rfl⟩)
    | (go_at_call 28; refine (list_nil _).mono ?_; rintro e w5 ⟨rfl, rfl⟩)
    | (go_at_call 13; refine (hsame_any none none 0 0 0 [] _ (hr0 _) (hr0 _) (by omega)).mono ?_; rintro e w6 ⟨rfl, hb6⟩; have H6 := Bx.mk (And.intro (H4.out.1.trans (hb6.mono H4.out.1.size)) (And.intro (H4.out.2.1.step hb6) (And.intro (H4.out.2.2.1.step hb6) (And.intro (H4.out.2.2.2.1.step hb6) (H4.out.2.2.2.2.step hb6))))); clear hb6 H4)
    | (go_at_call 8; refine (sorted_nil _).mono ?_; rintro e w6 ⟨rfl, hb6⟩; have H7 := Bx.mk (And.intro (H6.out.1.trans (hb6.mono H6.out.1.size)) (And.intro (H6.out.2.1.step hb6) (And.intro (H6.out.2.2.1.step hb6) (And.intro (H6.out.2.2.2.1.step hb6) (H6.out.2.2.2.2.step hb6))))); clear hb6 H6)
    | (go_at_call 56; refine (rsortedm_nil _).mono ?_; rintro e w5 ⟨rfl, rfl⟩)
    | (go_at_call 13; refine (hsame_any none none 0 0 0 [] _ (hr0 _) (hr0 _) (by omega)).mono ?_; rintro e w9 ⟨rfl, hb6⟩; have H9 := Bx.mk (H7.out.1.trans (hb6.mono H7.out.1.size)); have q1 := cells_at (H7.out.2.1.step hb6) 0 _ rfl; have q2 := cells_at (H7.out.2.1.step hb6) 1 _ rfl; have q3 := cells_at (H7.out.2.2.1.step hb6) 0 _ rfl; have q4 := cells_at (H7.out.2.2.1.step hb6) 1 _ rfl; have q5 := cells_at (H7.out.2.2.2.1.step hb6) 0 _ rfl; have q6 := cells_at (H7.out.2.2.2.1.step hb6) 1 _ rfl; have q7 := cells_at (H7.out.2.2.2.2.step hb6) 0 _ rfl; have q8 := cells_at (H7.out.2.2.2.2.step hb6) 1 _ rfl; clear hb6 H7)
    | (go_at_call 35; refine (moves_nil _).mono ?_; rintro e w10 ⟨rfl, rfl⟩)
    | (go_at_call 57; refine (rmoves_nil _).mono ?_; rintro e w10 ⟨rfl, rfl⟩))
  go_ret
  exact ⟨rfl, H9.out⟩
set_option maxHeartbeats 4000000 in
set_option maxRecDepth 100000 in
theorem call_look (hb mb : Nat) (v : Value) (rb : Nat) (rv : Value) (L : List Ent) (mo : Bool) (mv : Nat) (K y1 : Int) (y2 : Bool) (r : Int) (s : List UInt8) (a5 : Option Addr) (n5 c5 : Nat) (w : World) (h : PrAt w hb mb v rb rv L mo mv) (hs : s.length ≤ 9223372036854775807) (hL : (L.length + 1) * 24 ≤ 225179981352000)
    (d0 : (K == 0) = false) (d1 : (K == 1) = false) (d2 : (K == 2) = false) (d3 : (K == 3) = false) :
    Calls Tryd.prog 23 #[.pointer (some ⟨hb, 0, none⟩), .pointer (some ⟨rb, 0, none⟩), .agg (opBox K y1 y2 r s a5 n5 c5)] w (CalTo w hb mb v rb rv L mo) := by
  have hb1 := below1 w (.cells (opBox K y1 y2 r s a5 n5 c5) 48)
  have h1 := h.below hb1
  have ka := alike_any hb mb v rb rv L mo mv s _ h1.h h1.m hs (by omega)
  have HH := Bx.mk (And.intro h (And.intro h1 hb1))
  clear h h1 hb1
  go_enter Tryd.func23, Tryd.ntmps23
  go_wp2_with fail
  refine ka.mono ?_
  rintro e w2 ⟨rfl, hb2⟩
  have HF := Bx.mk ((PrTo.refl HH.out.2.1 hb2).from HH.out.2.2)
  clear ka hb2
  go_wp2
  go_ret
  exact ⟨rfl, _, _, _, _, HF.out, Nat.le_succ _⟩
set_option maxHeartbeats 4000000 in
set_option maxRecDepth 100000 in
theorem call_nil_put (y1 : Int) (y2 : Bool) (r : Int) (s : List UInt8) (a5 : Option Addr) (n5 c5 : Nat) (w : World) (hG : Glob w) :
    Calls Tryd.prog 23 #[.pointer none, .pointer none, .agg (opBox 0 y1 y2 r s a5 n5 c5)] w fun e w' => e = .returned (.bool true) ∧ Below w.heap.size w w' := by
  have hb1 := below1 w (.cells (opBox 0 y1 y2 r s a5 n5 c5) 48)
  have hk := heap_alloc_new w (.cells (opBox 0 y1 y2 r s a5 n5 c5) 48)
  have HH := Bx.mk (And.intro hb1 (And.intro hk (hG.below hb1 hG.lt)))
  clear hb1 hk hG
  go_enter Tryd.func23, Tryd.ntmps23
  go_upto_region 3 with (fail)
  change Code.wp _ _ _ _ (w.alloc (.cells (opBox 0 y1 y2 r s a5 n5 c5) 48))
  generalize w.alloc (.cells (opBox 0 y1 y2 r s a5 n5 c5) 48) = w1 at *
  obtain ⟨B, hBB⟩ : ∃ B, w.heap.size = B := ⟨_, rfl⟩
  have HBB := Bx.mk hBB
  rw [hBB] at HH
  simp only [hBB]
  clear hBB
  have z3 : w1.cell? ⟨B, 3, none⟩ = some (.int .i64 r) := cells_at HH.out.2.1 3 _ rfl
  have z4 : w1.cell? ⟨B, 4, none⟩ = some (strV s) := cells_at HH.out.2.1 4 _ rfl
  have q3 := cell_regrown z3
  have q4 := cell_regrown z4
  have k1 := fun w => put_nil r s w
  have k2 := fun w => rput_nil r s w
  have ks : ∀ d os, Calls Tryd.prog 22 #[hErr 1, badV 1] (Go.Sort.grow (redrawn w1 d) os) fun e w' => e = .returned (.bool true) ∧ Below (Go.Sort.grow (redrawn w1 d) os).heap.size (Go.Sort.grow (redrawn w1 d) os) w' := fun d os => same_E 1 _ (HH.out.2.2.below (below_regrown w1 d os) HH.out.2.2.lt) (by decide)
  clear z3 z4
  go_wp2_with fail
  refine wp_region_quiet_below (by kernel_rfl) (by kernel_rfl) ?_
  repeat (go_big_quiet_step (first | (go_at_call 9; with_reducible exact Calls.regrown_of (k1 _)) | (go_at_call 48; with_reducible exact Calls.regrown_of (k2 _)) | (go_at_call 22; with_reducible exact Calls.regrown_of (ks _ _))))
  refine wpQuiet_nil ?_
  intro _ hw'
  obtain ⟨⟨dq, osq⟩, hw''⟩ := hw'
  subst hw''
  have HF : Bx (Below w.heap.size w (Go.Sort.grow (redrawn w1 dq) osq)) := ⟨by rw [HBB.out]; exact HH.out.1.trans ((below_regrown w1 dq osq).mono (by rw [← HBB.out]; exact HH.out.1.size))⟩
  generalize Go.Sort.grow (redrawn w1 dq) osq = w2 at *
  clear q3 q4 k1 k2 ks
  go_wp2
  go_ret
  exact ⟨rfl, HF.out⟩
set_option maxHeartbeats 4000000 in
set_option maxRecDepth 100000 in
theorem call_nil_turn (y1 : Int) (y2 : Bool) (r : Int) (s : List UInt8) (a5 : Option Addr) (n5 c5 : Nat) (w : World) (hG : Glob w) :
    Calls Tryd.prog 23 #[.pointer none, .pointer none, .agg (opBox 2 y1 y2 r s a5 n5 c5)] w fun e w' => e = .returned (.bool true) ∧ Below w.heap.size w w' := by
  have hb1 := below1 w (.cells (opBox 2 y1 y2 r s a5 n5 c5) 48)
  have hk := heap_alloc_new w (.cells (opBox 2 y1 y2 r s a5 n5 c5) 48)
  have HH := Bx.mk (And.intro hb1 (And.intro hk (hG.below hb1 hG.lt)))
  clear hb1 hk hG
  go_enter Tryd.func23, Tryd.ntmps23
  go_upto_region 9 with (fail)
  change Code.wp _ _ _ _ (w.alloc (.cells (opBox 2 y1 y2 r s a5 n5 c5) 48))
  generalize w.alloc (.cells (opBox 2 y1 y2 r s a5 n5 c5) 48) = w1 at *
  obtain ⟨B, hBB⟩ : ∃ B, w.heap.size = B := ⟨_, rfl⟩
  have HBB := Bx.mk hBB
  rw [hBB] at HH
  simp only [hBB]
  clear hBB
  have z3 : w1.cell? ⟨B, 3, none⟩ = some (.int .i64 r) := cells_at HH.out.2.1 3 _ rfl
  have z4 : w1.cell? ⟨B, 4, none⟩ = some (strV s) := cells_at HH.out.2.1 4 _ rfl
  have q3 := cell_regrown z3
  have q4 := cell_regrown z4
  have k1 := fun w => (show Calls Tryd.prog 27 #[.pointer none, strV s, .int .i64 r] w fun e w' => e = .returned (hErr 1) ∧ Below w.heap.size w w' from (turn_nil s r w).mono fun e w' ⟨he, hw⟩ => ⟨he, by rw [hw]; exact Below.refl _ _⟩)
  have k2 := fun w => rturn_nil s r w
  have ks : ∀ d os, Calls Tryd.prog 22 #[hErr 1, badV 1] (Go.Sort.grow (redrawn w1 d) os) fun e w' => e = .returned (.bool true) ∧ Below (Go.Sort.grow (redrawn w1 d) os).heap.size (Go.Sort.grow (redrawn w1 d) os) w' := fun d os => same_E 1 _ (HH.out.2.2.below (below_regrown w1 d os) HH.out.2.2.lt) (by decide)
  clear z3 z4
  go_wp2_with fail
  refine wp_region_quiet_below (by kernel_rfl) (by kernel_rfl) ?_
  repeat (go_big_quiet_step (first | (go_at_call 27; with_reducible exact Calls.regrown_of (k1 _)) | (go_at_call 50; with_reducible exact Calls.regrown_of (k2 _)) | (go_at_call 22; with_reducible exact Calls.regrown_of (ks _ _))))
  refine wpQuiet_nil ?_
  intro _ hw'
  obtain ⟨⟨dq, osq⟩, hw''⟩ := hw'
  subst hw''
  have HF : Bx (Below w.heap.size w (Go.Sort.grow (redrawn w1 dq) osq)) := ⟨by rw [HBB.out]; exact HH.out.1.trans ((below_regrown w1 dq osq).mono (by rw [← HBB.out]; exact HH.out.1.size))⟩
  generalize Go.Sort.grow (redrawn w1 dq) osq = w2 at *
  clear q3 q4 k1 k2 ks
  go_wp2
  go_ret
  exact ⟨rfl, HF.out⟩
set_option maxHeartbeats 4000000 in
set_option maxRecDepth 100000 in
theorem call_nil_take (y1 : Int) (y2 : Bool) (r : Int) (s : List UInt8) (a5 : Option Addr) (n5 c5 : Nat) (w : World) (hG : Glob w) :
    Calls Tryd.prog 23 #[.pointer none, .pointer none, .agg (opBox 1 y1 y2 r s a5 n5 c5)] w fun e w' => e = .returned (.bool true) ∧ Below w.heap.size w w' := by
  have hb1 := below1 w (.cells (opBox 1 y1 y2 r s a5 n5 c5) 48)
  have hk := heap_alloc_new w (.cells (opBox 1 y1 y2 r s a5 n5 c5) 48)
  have HH := Bx.mk (And.intro hb1 (And.intro hk (hG.below hb1 hG.lt)))
  clear hb1 hk hG
  go_enter Tryd.func23, Tryd.ntmps23
  go_upto_region 5 with (fail)
  change Code.wp _ _ _ _ (w.alloc (.cells (opBox 1 y1 y2 r s a5 n5 c5) 48))
  generalize w.alloc (.cells (opBox 1 y1 y2 r s a5 n5 c5) 48) = w1 at *
  obtain ⟨B, hBB⟩ : ∃ B, w.heap.size = B := ⟨_, rfl⟩
  have HBB := Bx.mk hBB
  rw [hBB] at HH
  simp only [hBB]
  clear hBB
  have z4 : w1.cell? ⟨B, 4, none⟩ = some (strV s) := cells_at HH.out.2.1 4 _ rfl
  have k1 := fun w => take_nil s w
  have k2 := fun w => rtake_nil s w
  go_upto_region 6 with (go_at_call 14; refine (k1 _).mono ?_; rintro e w2 ⟨rfl, hb2⟩)
  change Code.wp _ _ _ _ (w2.alloc (.cells #[.int .i64 0, strV []] 27))
  have hn2 := hb2.trans ((below1 w2 (.cells #[.int .i64 0, strV []] 27)).mono hb2.size)
  have z4' := (hn2.cell (cell_lt z4)).trans z4
  have hbx2 := Box2.new w2 0 []
  have H2 := Bx.mk (And.intro hn2 hbx2)
  clear z4 hn2 hbx2 hb2 k1
  obtain ⟨B2, hB2⟩ : ∃ B2, w2.heap.size = B2 := ⟨_, rfl⟩
  rw [hB2] at H2
  simp only [hB2]
  clear hB2
  generalize w2.alloc (.cells #[.int .i64 0, strV []] 27) = w2b at *
  go_upto_region 7 with (go_at_call 49; refine (k2 _).mono ?_; rintro e w3 ⟨rfl, hb3⟩)
  change Code.wp _ _ _ _ ((w3.alloc (.cells #[.int .i64 0, strV []] 27)).alloc (.cells #[.int .i64 1, .int .i64 0, .int .i64 0, .bool false, .bool false] 55))
  have hn3 := hb3.trans ((below2 w3 (.cells #[.int .i64 0, strV []] 27) (.cells #[.int .i64 1, .int .i64 0, .int .i64 0, .bool false, .bool false] 55)).mono hb3.size)
  have hx2 := H2.out.2.step hn3
  have hx3 : Box2 ((w3.alloc (.cells #[.int .i64 0, strV []] 27)).alloc (.cells #[.int .i64 1, .int .i64 0, .int .i64 0, .bool false, .bool false] 55)) w3.heap.size 0 [] := (Box2.new w3 0 []).step (below1 _ _)
  have hx4 := heap_alloc2_new w3 (.cells #[.int .i64 0, strV []] 27) (.cells #[.int .i64 1, .int .i64 0, .int .i64 0, .bool false, .bool false] 55)
  have H3 := Bx.mk (H2.out.1.trans (hn3.mono H2.out.1.size))
  have q1 := cells_at hx2 0 _ rfl
  have q2 := cells_at hx2 1 _ rfl
  have q3 := cells_at hx3 0 _ rfl
  have q4 := cells_at hx3 1 _ rfl
  have q5 := cells_at hx4 0 _ rfl
  have q6 := cells_at hx4 1 _ rfl
  have q7 := cells_at hx4 2 _ rfl
  have q8 := cells_at hx4 3 _ rfl
  have q9 := cells_at hx4 4 _ rfl
  clear hn3 hx2 hx3 hx4 hb3 z4' k2
  generalize (w3.alloc (.cells #[.int .i64 0, strV []] 27)).alloc (.cells #[.int .i64 1, .int .i64 0, .int .i64 0, .bool false, .bool false] 55) = w4 at *
  go_wp2_with (go_at_call 22; refine (same_E 1 _ (HH.out.2.2.below H3.out HH.out.2.2.lt) (by decide)).mono ?_; rintro e w5 ⟨rfl, hb5⟩; have H5 := Bx.mk (H3.out.trans (hb5.mono H3.out.size)); clear hb5)
  go_ret
  exact ⟨rfl, by rw [HBB.out]; exact HH.out.1.trans (H5.out.mono (by rw [← HBB.out]; exact HH.out.1.size))⟩
set_option maxHeartbeats 4000000 in
set_option maxRecDepth 100000 in
theorem call_nil_pop (y1 : Int) (y2 : Bool) (r : Int) (s : List UInt8) (a5 : Option Addr) (n5 c5 : Nat) (w : World) (hG : Glob w) :
    Calls Tryd.prog 23 #[.pointer none, .pointer none, .agg (opBox 3 y1 y2 r s a5 n5 c5)] w fun e w' => e = .returned (.bool true) ∧ Below w.heap.size w w' := by
  have hb1 := below1 w (.cells (opBox 3 y1 y2 r s a5 n5 c5) 48)
  have hk := heap_alloc_new w (.cells (opBox 3 y1 y2 r s a5 n5 c5) 48)
  have HH := Bx.mk (And.intro hb1 (And.intro hk (hG.below hb1 hG.lt)))
  clear hb1 hk hG
  go_enter Tryd.func23, Tryd.ntmps23
  go_upto_region 11 with (fail)
  change Code.wp _ _ _ _ (w.alloc (.cells (opBox 3 y1 y2 r s a5 n5 c5) 48))
  generalize w.alloc (.cells (opBox 3 y1 y2 r s a5 n5 c5) 48) = w1 at *
  obtain ⟨B, hBB⟩ : ∃ B, w.heap.size = B := ⟨_, rfl⟩
  have HBB := Bx.mk hBB
  rw [hBB] at HH
  simp only [hBB]
  clear hBB
  have z4 : w1.cell? ⟨B, 4, none⟩ = some (strV s) := cells_at HH.out.2.1 4 _ rfl
  have k1 := fun w => pop_nil w
  have k2 := fun w => rpop_nil w
  go_upto_region 12 with (go_at_call 51; refine (k1 _).mono ?_; rintro e w2 ⟨rfl, hb2⟩)
  change Code.wp _ _ _ _ (w2.alloc (.cells #[.int .i64 0, strV []] 27))
  have hn2 := hb2.trans ((below1 w2 (.cells #[.int .i64 0, strV []] 27)).mono hb2.size)
  have z4' := (hn2.cell (cell_lt z4)).trans z4
  have hbx2 := Box2.new w2 0 []
  have H2 := Bx.mk (And.intro hn2 hbx2)
  clear z4 hn2 hbx2 hb2 k1
  obtain ⟨B2, hB2⟩ : ∃ B2, w2.heap.size = B2 := ⟨_, rfl⟩
  rw [hB2] at H2
  simp only [hB2]
  clear hB2
  generalize w2.alloc (.cells #[.int .i64 0, strV []] 27) = w2b at *
  go_upto_region 13 with (go_at_call 52; refine (k2 _).mono ?_; rintro e w3 ⟨rfl, hb3⟩)
  change Code.wp _ _ _ _ ((w3.alloc (.cells #[.int .i64 0, strV []] 27)).alloc (.cells #[.int .i64 1, .int .i64 0, .int .i64 0, .bool false, .bool false] 55))
  have hn3 := hb3.trans ((below2 w3 (.cells #[.int .i64 0, strV []] 27) (.cells #[.int .i64 1, .int .i64 0, .int .i64 0, .bool false, .bool false] 55)).mono hb3.size)
  have hx2 := H2.out.2.step hn3
  have hx3 : Box2 ((w3.alloc (.cells #[.int .i64 0, strV []] 27)).alloc (.cells #[.int .i64 1, .int .i64 0, .int .i64 0, .bool false, .bool false] 55)) w3.heap.size 0 [] := (Box2.new w3 0 []).step (below1 _ _)
  have hx4 := heap_alloc2_new w3 (.cells #[.int .i64 0, strV []] 27) (.cells #[.int .i64 1, .int .i64 0, .int .i64 0, .bool false, .bool false] 55)
  have H3 := Bx.mk (H2.out.1.trans (hn3.mono H2.out.1.size))
  have q1 := cells_at hx2 0 _ rfl
  have q2 := cells_at hx2 1 _ rfl
  have q3 := cells_at hx3 0 _ rfl
  have q4 := cells_at hx3 1 _ rfl
  have q5 := cells_at hx4 0 _ rfl
  have q6 := cells_at hx4 1 _ rfl
  have q7 := cells_at hx4 2 _ rfl
  have q8 := cells_at hx4 3 _ rfl
  have q9 := cells_at hx4 4 _ rfl
  clear hn3 hx2 hx3 hx4 hb3 z4' k2
  generalize (w3.alloc (.cells #[.int .i64 0, strV []] 27)).alloc (.cells #[.int .i64 1, .int .i64 0, .int .i64 0, .bool false, .bool false] 55) = w4 at *
  go_wp2_with (go_at_call 22; refine (same_E 1 _ (HH.out.2.2.below H3.out HH.out.2.2.lt) (by decide)).mono ?_; rintro e w5 ⟨rfl, hb5⟩; have H5 := Bx.mk (H3.out.trans (hb5.mono H3.out.size)); clear hb5)
  go_ret
  exact ⟨rfl, by rw [HBB.out]; exact HH.out.1.trans (H5.out.mono (by rw [← HBB.out]; exact HH.out.1.size))⟩
set_option maxHeartbeats 4000000 in
set_option maxRecDepth 100000 in
theorem call_nil (K y1 : Int) (y2 : Bool) (r : Int) (s : List UInt8) (a5 : Option Addr) (n5 c5 : Nat) (w : World) (hG : Glob w) :
    Calls Tryd.prog 23 #[.pointer none, .pointer none, .agg (opBox K y1 y2 r s a5 n5 c5)] w fun e w' => e = .returned (.bool true) ∧ Below w.heap.size w w' := by
  by_cases h0 : K = 0
  · subst h0; exact call_nil_put y1 y2 r s a5 n5 c5 w hG
  by_cases h1 : K = 1
  · subst h1; exact call_nil_take y1 y2 r s a5 n5 c5 w hG
  by_cases h2 : K = 2
  · subst h2; exact call_nil_turn y1 y2 r s a5 n5 c5 w hG
  by_cases h3 : K = 3
  · subst h3; exact call_nil_pop y1 y2 r s a5 n5 c5 w hG
  have d0 : (K == 0) = false := by simpa using h0
  have d1 : (K == 1) = false := by simpa using h1
  have d2 : (K == 2) = false := by simpa using h2
  have d3 : (K == 3) = false := by simpa using h3
  have ka := fun w => alike_nil s w
  have hb1 := below1 w (.cells (opBox K y1 y2 r s a5 n5 c5) 48)
  have HH := Bx.mk hb1
  clear hb1 hG h0 h1 h2 h3
  go_enter Tryd.func23, Tryd.ntmps23
  go_wp2_with fail
  refine (ka _).mono ?_
  rintro e w2 ⟨rfl, hb2⟩
  have HF := Bx.mk (HH.out.trans (hb2.mono HH.out.size))
  clear hb2
  go_wp2
  go_ret
  exact ⟨rfl, HF.out⟩
/-- call, of any kind -/
theorem call_any (hb mb : Nat) (v : Value) (rb : Nat) (rv : Value) (L : List Ent) (mo : Bool) (mv : Nat) (K y1 : Int) (y2 : Bool) (r : Int) (s : List UInt8) (a5 : Option Addr) (n5 c5 : Nat) (w : World) (h : PrAt w hb mb v rb rv L mo mv) (hG : Glob w) (hE : ∀ x ∈ pfoot hb mb v rb rv, 0 < x) (hs : s.length ≤ 9223372036854775807) (hL : (L.length + 1) * 24 ≤ 225179981352000) :
    Calls Tryd.prog 23 #[.pointer (some ⟨hb, 0, none⟩), .pointer (some ⟨rb, 0, none⟩), .agg (opBox K y1 y2 r s a5 n5 c5)] w (CalTo w hb mb v rb rv L mo) := by
  by_cases h0 : K = 0
  · subst h0; exact call_put hb mb v rb rv L mo mv y1 y2 r s a5 n5 c5 w h hG hE hs hL
  by_cases h1 : K = 1
  · subst h1; exact call_take hb mb v rb rv L mo mv y1 y2 r s a5 n5 c5 w h hG hE hs hL
  by_cases h2 : K = 2
  · subst h2; exact call_turn hb mb v rb rv L mo mv y1 y2 r s a5 n5 c5 w h hG hE hs hL
  by_cases h3 : K = 3
  · subst h3; exact call_pop hb mb v rb rv L mo mv y1 y2 r s a5 n5 c5 w h hG hE hs hL
  exact call_look hb mb v rb rv L mo mv K y1 y2 r s a5 n5 c5 w h hs hL (by simpa using h0) (by simpa using h1) (by simpa using h2) (by simpa using h3)
end Go.Proofs.YtlodgmmhaolmaaaDoor
