/- call: one call of a heap and of the document's. Condition: errors.errorType holds the handle of the type error. -/
import Derived.Test.YtlodgmmhaolmaaaDoorUni
import Derived.Deep.RegionHeld3
set_option linter.unusedSimpArgs false
set_option linter.unusedVariables false
namespace Go.Proofs.YtlodgmmhaolmaaaDoor
open Go.RowKit
theorem Glob.turned {w w' : World} {S : List Nat} (h : Glob w) (ht : Turned S w w') (hS : 0 ∉ S) : Glob w' := by
  unfold Glob at *
  exact ht.cell h hS
/-- a call's box -/
abbrev opBox (K y1 : Int) (y2 : Bool) (r : Int) (s : List UInt8) (a5 : Option Addr) (n5 c5 : Nat) : Array Value := #[.int .i64 K, .int .i64 y1, .bool y2, .int .i64 r, strV s, .slice a5 n5 c5]
/-- what call leaves -/
def CalTo (w : World) (hb mb : Nat) (v : Value) (rb : Nat) (rv : Value) (L : List Ent) (mo : Bool) (e : Ending) (w' : World) : Prop := e = .returned (.bool true) ∧ ∃ v' rv' L' mv', PrTo w w' hb mb v v' rb rv rv' L' mo mv' ∧ L'.length ≤ L.length + 1
theorem PrTo.from {w0 w w' : World} {hb mb : Nat} {v v' : Value} {rb : Nat} {rv rv' : Value} {L' : List Ent} {mo : Bool} {mv' : Nat} (h : PrTo w w' hb mb v v' rb rv rv' L' mo mv') (hb' : Below w0.heap.size w0 w) : PrTo w0 w' hb mb v v' rb rv rv' L' mo mv' :=
  ⟨h.p, (Turned.ofBelow hb').trans h.t, fun x hx => by
    rcases h.f x hx with h1 | h1
    · exact Or.inl h1
    · exact Or.inr (Nat.le_trans hb'.size h1)⟩
set_option maxHeartbeats 8000000 in
set_option maxRecDepth 100000 in
theorem call_put (hb mb : Nat) (v : Value) (rb : Nat) (rv : Value) (L : List Ent) (mo : Bool) (mv : Nat) (y1 : Int) (y2 : Bool) (r : Int) (s : List UInt8) (a5 : Option Addr) (n5 c5 : Nat) (w : World) (h : PrAt w hb mb v rb rv L mo mv) (hG : Glob w) (hE : ∀ x ∈ pfoot hb mb v rb rv, 0 < x) (hs : s.length ≤ 9223372036854775807) (hL : (L.length + 1) * 24 ≤ 225179981352000) :
    Calls Tryd.prog 23 #[.pointer (some ⟨hb, 0, none⟩), .pointer (some ⟨rb, 0, none⟩), .agg (opBox 0 y1 y2 r s a5 n5 c5)] w (CalTo w hb mb v rb rv L mo) := by
  have hb1 := below1 w (.cells (opBox 0 y1 y2 r s a5 n5 c5) 48)
  have hk := heap_alloc_new w (.cells (opBox 0 y1 y2 r s a5 n5 c5) 48)
  have hB : w.heap.size ∉ pfoot hb mb v rb rv := fun hm => by have := h.lt _ hm; omega
  have HH := Bx.mk (And.intro (h.below hb1) (And.intro hb1 (And.intro hk (And.intro hB (And.intro (hG.below hb1 hG.lt) (show 0 ∉ pfoot hb mb v rb rv from fun hm => by have := hE _ hm; omega))))))
  clear h hb1 hk hB hG hE
  go_enter Tryd.func23, Tryd.ntmps23
  go_upto_region 3 with (fail)
  change Code.wp _ _ _ _ (w.alloc (.cells (opBox 0 y1 y2 r s a5 n5 c5) 48))
  generalize w.alloc (.cells (opBox 0 y1 y2 r s a5 n5 c5) 48) = w1 at *
  obtain ⟨B, hBB⟩ : ∃ B, w.heap.size = B := ⟨_, rfl⟩
  rw [hBB] at HH
  simp only [hBB]
  have HBB := Bx.mk hBB
  clear hBB
  have z3 : w1.drew.cell? ⟨B, 3, none⟩ = some (.int .i64 r) := cells_at (w := w1.drew) HH.out.2.2.1 3 _ rfl
  have z4 : w1.drew.cell? ⟨B, 4, none⟩ = some (strV s) := cells_at (w := w1.drew) HH.out.2.2.1 4 _ rfl
  have H0 : Bx (PrAt w1.drew hb mb v rb rv L mo mv) := ⟨HH.out.1.below (Below.refl _ _).drew⟩
  go_region_held3 (fun x => x.cell? ⟨B, 3, none⟩ = some (.int .i64 r) ∧ x.cell? ⟨B, 4, none⟩ = some (strV s))
    (first | (exact ⟨z3, z4⟩) | assumption)
    (first
      | (go_at_call 9; (with_reducible refine (put_c hb mb v L mo mv r s _ H0.out.h hs hL).mono ?_); rintro e w2 ⟨rfl, v', h2⟩; have hs2 : w2.cell? ⟨B, 3, none⟩ = some (.int .i64 r) ∧ w2.cell? ⟨B, 4, none⟩ = some (strV s) := ⟨h2.t.cell z3 (fun hm => HH.out.2.2.2.1 (List.mem_append_left _ hm)), h2.t.cell z4 (fun hm => HH.out.2.2.2.1 (List.mem_append_left _ hm))⟩; have H2 := Bx.mk h2; clear h2)
      | (go_at_call 48; (with_reducible refine (rput_c rb rv L mo mv r s _ (H0.out.half H2.out) hL).mono ?_); rintro e w3 ⟨rfl, rv', h3⟩; have hp := H0.out.go H2.out h3; have hs3 : w3.cell? ⟨B, 3, none⟩ = some (.int .i64 r) ∧ w3.cell? ⟨B, 4, none⟩ = some (strV s) := ⟨hp.t.cell z3 HH.out.2.2.2.1, hp.t.cell z4 HH.out.2.2.2.1⟩; have H3 := Bx.mk hp; clear h3 hp)
      | (go_at_call 22; (with_reducible refine (same_c (knownC L s) _ ((HH.out.2.2.2.2.1.turned (Turned.refl [] w1).drew (by simp)).turned H3.out.t HH.out.2.2.2.2.2) (by unfold knownC; split <;> decide)).mono ?_); rintro e w4 ⟨rfl, hb4⟩; have hs4 : w4.cell? ⟨B, 3, none⟩ = some (.int .i64 r) ∧ w4.cell? ⟨B, 4, none⟩ = some (strV s) := ⟨by rw [hb4.cell (cell_lt hs3.1)]; exact hs3.1, by rw [hb4.cell (cell_lt hs3.2)]; exact hs3.2⟩; have H4 := Bx.mk (H3.out.step hb4); clear hb4))
  go_wp2
  go_ret
  exact ⟨rfl, _, _, _, _, H4.out.from (by rw [HBB.out]; exact HH.out.2.1.drew), putL_len mo L mv (r, s)⟩
set_option maxHeartbeats 8000000 in
set_option maxRecDepth 100000 in
theorem call_turn (hb mb : Nat) (v : Value) (rb : Nat) (rv : Value) (L : List Ent) (mo : Bool) (mv : Nat) (y1 : Int) (y2 : Bool) (r : Int) (s : List UInt8) (a5 : Option Addr) (n5 c5 : Nat) (w : World) (h : PrAt w hb mb v rb rv L mo mv) (hG : Glob w) (hE : ∀ x ∈ pfoot hb mb v rb rv, 0 < x) (hs : s.length ≤ 9223372036854775807) (hL : (L.length + 1) * 24 ≤ 225179981352000) :
    Calls Tryd.prog 23 #[.pointer (some ⟨hb, 0, none⟩), .pointer (some ⟨rb, 0, none⟩), .agg (opBox 2 y1 y2 r s a5 n5 c5)] w (CalTo w hb mb v rb rv L mo) := by
  have hb1 := below1 w (.cells (opBox 2 y1 y2 r s a5 n5 c5) 48)
  have hk := heap_alloc_new w (.cells (opBox 2 y1 y2 r s a5 n5 c5) 48)
  have hB : w.heap.size ∉ pfoot hb mb v rb rv := fun hm => by have := h.lt _ hm; omega
  have HH := Bx.mk (And.intro (h.below hb1) (And.intro hb1 (And.intro hk (And.intro hB (And.intro (hG.below hb1 hG.lt) (show 0 ∉ pfoot hb mb v rb rv from fun hm => by have := hE _ hm; omega))))))
  clear h hb1 hk hB hG hE
  go_enter Tryd.func23, Tryd.ntmps23
  go_upto_region 9 with (fail)
  change Code.wp _ _ _ _ (w.alloc (.cells (opBox 2 y1 y2 r s a5 n5 c5) 48))
  generalize w.alloc (.cells (opBox 2 y1 y2 r s a5 n5 c5) 48) = w1 at *
  obtain ⟨B, hBB⟩ : ∃ B, w.heap.size = B := ⟨_, rfl⟩
  rw [hBB] at HH
  simp only [hBB]
  have HBB := Bx.mk hBB
  clear hBB
  have z3 : w1.drew.cell? ⟨B, 3, none⟩ = some (.int .i64 r) := cells_at (w := w1.drew) HH.out.2.2.1 3 _ rfl
  have z4 : w1.drew.cell? ⟨B, 4, none⟩ = some (strV s) := cells_at (w := w1.drew) HH.out.2.2.1 4 _ rfl
  have H0 : Bx (PrAt w1.drew hb mb v rb rv L mo mv) := ⟨HH.out.1.below (Below.refl _ _).drew⟩
  go_region_held3 (fun x => x.cell? ⟨B, 3, none⟩ = some (.int .i64 r) ∧ x.cell? ⟨B, 4, none⟩ = some (strV s))
    (first | (exact ⟨z3, z4⟩) | assumption)
    (first
      | (go_at_call 27; (with_reducible refine (turn_c hb mb v L mo mv s r _ H0.out.h hs hL).mono ?_); rintro e w2 ⟨rfl, v', h2⟩; have hs2 : w2.cell? ⟨B, 3, none⟩ = some (.int .i64 r) ∧ w2.cell? ⟨B, 4, none⟩ = some (strV s) := ⟨h2.t.cell z3 (fun hm => HH.out.2.2.2.1 (List.mem_append_left _ hm)), h2.t.cell z4 (fun hm => HH.out.2.2.2.1 (List.mem_append_left _ hm))⟩; have H2 := Bx.mk h2; clear h2)
      | (go_at_call 50; (with_reducible refine (rturn_c rb rv L mo mv s r _ (H0.out.half H2.out) hL).mono ?_); rintro e w3 ⟨rfl, rv', h3⟩; have hp := H0.out.go H2.out h3; have hs3 : w3.cell? ⟨B, 3, none⟩ = some (.int .i64 r) ∧ w3.cell? ⟨B, 4, none⟩ = some (strV s) := ⟨hp.t.cell z3 HH.out.2.2.2.1, hp.t.cell z4 HH.out.2.2.2.1⟩; have H3 := Bx.mk hp; clear h3 hp)
      | (go_at_call 22; (with_reducible refine (same_c (noneC L s) _ ((HH.out.2.2.2.2.1.turned (Turned.refl [] w1).drew (by simp)).turned H3.out.t HH.out.2.2.2.2.2) (by unfold noneC; split <;> decide)).mono ?_); rintro e w4 ⟨rfl, hb4⟩; have hs4 : w4.cell? ⟨B, 3, none⟩ = some (.int .i64 r) ∧ w4.cell? ⟨B, 4, none⟩ = some (strV s) := ⟨by rw [hb4.cell (cell_lt hs3.1)]; exact hs3.1, by rw [hb4.cell (cell_lt hs3.2)]; exact hs3.2⟩; have H4 := Bx.mk (H3.out.step hb4); clear hb4))
  go_wp2
  go_ret
  exact ⟨rfl, _, _, _, _, H4.out.from (by rw [HBB.out]; exact HH.out.2.1.drew), Nat.le_trans (turnL_len mo L mv s r) (Nat.le_succ _)⟩
set_option maxHeartbeats 8000000 in
set_option maxRecDepth 100000 in
theorem call_take (hb mb : Nat) (v : Value) (rb : Nat) (rv : Value) (L : List Ent) (mo : Bool) (mv : Nat) (y1 : Int) (y2 : Bool) (r : Int) (s : List UInt8) (a5 : Option Addr) (n5 c5 : Nat) (w : World) (h : PrAt w hb mb v rb rv L mo mv) (hG : Glob w) (hE : ∀ x ∈ pfoot hb mb v rb rv, 0 < x) (hs : s.length ≤ 9223372036854775807) (hL : (L.length + 1) * 24 ≤ 225179981352000) :
    Calls Tryd.prog 23 #[.pointer (some ⟨hb, 0, none⟩), .pointer (some ⟨rb, 0, none⟩), .agg (opBox 1 y1 y2 r s a5 n5 c5)] w (CalTo w hb mb v rb rv L mo) := by
  have hb1 := below1 w (.cells (opBox 1 y1 y2 r s a5 n5 c5) 48)
  have hk := heap_alloc_new w (.cells (opBox 1 y1 y2 r s a5 n5 c5) 48)
  have hB : w.heap.size ∉ pfoot hb mb v rb rv := fun hm => by have := h.lt _ hm; omega
  have HH := Bx.mk (And.intro (h.below hb1) (And.intro hb1 (And.intro hk (And.intro hB (And.intro (hG.below hb1 hG.lt) (show 0 ∉ pfoot hb mb v rb rv from fun hm => by have := hE _ hm; omega))))))
  have kt := take_c hb mb v L mo mv s _ (h.below hb1).h hs hL
  have krt := fun w h => rtake_c rb rv L mo mv s w h hL
  obtain ⟨r', hr'⟩ : ∃ x, (getE L s).1 = x := ⟨_, rfl⟩
  obtain ⟨t', ht'⟩ : ∃ x, (getE L s).2 = x := ⟨_, rfl⟩
  obtain ⟨c, hc⟩ : ∃ x, noneC L s = x := ⟨_, rfl⟩
  have hc0 : 0 ≤ c := by rw [← hc]; unfold noneC; split <;> decide
  rw [hr', ht', hc] at kt krt
  clear h hb1 hk hB hG hE hr' ht' hc
  go_enter Tryd.func23, Tryd.ntmps23
  go_upto_region 5 with (fail)
  change Code.wp _ _ _ _ (w.alloc (.cells (opBox 1 y1 y2 r s a5 n5 c5) 48))
  generalize w.alloc (.cells (opBox 1 y1 y2 r s a5 n5 c5) 48) = w1 at *
  obtain ⟨B, hBB⟩ : ∃ B, w.heap.size = B := ⟨_, rfl⟩
  rw [hBB] at HH
  simp only [hBB]
  have HBB := Bx.mk hBB
  clear hBB
  have z4 : w1.cell? ⟨B, 4, none⟩ = some (strV s) := cells_at HH.out.2.2.1 4 _ rfl
  go_upto_region 6 with (go_at_call 14; refine kt.mono ?_; rintro e w2 ⟨rfl, v', h2⟩)
  change Code.wp _ _ _ _ (w2.alloc (.cells #[.int .i64 r', strV t'] 27))
  have hn2 := below1 w2 (.cells #[.int .i64 r', strV t'] 27)
  have z4' : (w2.alloc (.cells #[.int .i64 r', strV t'] 27)).cell? ⟨B, 4, none⟩ = some (strV s) := by
    have h4 := h2.t.cell z4 (fun hm => HH.out.2.2.2.1 (List.mem_append_left _ hm))
    rw [hn2.cell (cell_lt h4)]; exact h4
  have hbx2 := Box2.new w2 r' t'
  have H2 := Bx.mk (And.intro h2 (And.intro hn2 (And.intro hbx2 ((HH.out.1.half h2).below hn2))))
  clear z4 hn2 hbx2 h2 kt
  obtain ⟨B2, hB2⟩ : ∃ B2, w2.heap.size = B2 := ⟨_, rfl⟩
  have HB2 := Bx.mk hB2
  rw [hB2] at H2
  simp only [hB2]
  clear hB2
  generalize w2.alloc (.cells #[.int .i64 r', strV t'] 27) = w2b at *
  go_upto_region 7 with (go_at_call 49; refine (krt _ H2.out.2.2.2).mono ?_; rintro e w3 ⟨rfl, rv', h3⟩)
  change Code.wp _ _ _ _ ((w3.alloc (.cells #[.int .i64 r', strV t'] 27)).alloc (.cells #[.int .i64 c, .int .i64 0, .int .i64 0, .bool false, .bool false] 55))
  have hn3 := below2 w3 (.cells #[.int .i64 r', strV t'] 27) (.cells #[.int .i64 c, .int .i64 0, .int .i64 0, .bool false, .bool false] 55)
  have hp := HH.out.1.go H2.out.1 (h3.from (w0 := w2) (by rw [HB2.out]; exact H2.out.2.1))
  have hx2 : Box2 ((w3.alloc (.cells #[.int .i64 r', strV t'] 27)).alloc (.cells #[.int .i64 c, .int .i64 0, .int .i64 0, .bool false, .bool false] 55)) B2 r' t' := by
    have hlt := block_lt H2.out.2.2.1
    have : Box2 w3 B2 r' t' := (h3.t.block B2 hlt (fun hm => by
      have h5 := HH.out.1.m.footLt B2 hm
      have h6 := H2.out.1.t.size
      rw [HB2.out] at h6
      omega)).trans H2.out.2.2.1
    exact this.step hn3
  have hx3 : Box2 ((w3.alloc (.cells #[.int .i64 r', strV t'] 27)).alloc (.cells #[.int .i64 c, .int .i64 0, .int .i64 0, .bool false, .bool false] 55)) w3.heap.size r' t' := (Box2.new w3 r' t').step (below1 _ _)
  have hx4 := heap_alloc2_new w3 (.cells #[.int .i64 r', strV t'] 27) (.cells #[.int .i64 c, .int .i64 0, .int .i64 0, .bool false, .bool false] 55)
  have H3 := Bx.mk (hp.step hn3)
  have q1 := cells_at hx2 0 _ rfl
  have q2 := cells_at hx2 1 _ rfl
  have q3 := cells_at hx3 0 _ rfl
  have q4 := cells_at hx3 1 _ rfl
  have q5 := cells_at hx4 0 _ rfl
  have q6 := cells_at hx4 1 _ rfl
  have q7 := cells_at hx4 2 _ rfl
  have q8 := cells_at hx4 3 _ rfl
  have q9 := cells_at hx4 4 _ rfl
  clear hn3 hp hx2 hx3 hx4 h3 z4' krt
  generalize (w3.alloc (.cells #[.int .i64 r', strV t'] 27)).alloc (.cells #[.int .i64 c, .int .i64 0, .int .i64 0, .bool false, .bool false] 55) = w4 at *
  go_wp2_with (go_at_call 22; refine (same_c c _ (HH.out.2.2.2.2.1.turned H3.out.t HH.out.2.2.2.2.2) hc0).mono ?_; rintro e w5 ⟨rfl, hb5⟩; have H5 := Bx.mk (H3.out.step hb5); clear hb5)
  go_ret
  exact ⟨rfl, _, _, _, _, H5.out.from (by rw [HBB.out]; exact HH.out.2.1), Nat.le_trans (takeL_len mo L mv s) (Nat.le_succ _)⟩
set_option maxHeartbeats 8000000 in
set_option maxRecDepth 100000 in
theorem call_pop (hb mb : Nat) (v : Value) (rb : Nat) (rv : Value) (L : List Ent) (mo : Bool) (mv : Nat) (y1 : Int) (y2 : Bool) (r : Int) (s : List UInt8) (a5 : Option Addr) (n5 c5 : Nat) (w : World) (h : PrAt w hb mb v rb rv L mo mv) (hG : Glob w) (hE : ∀ x ∈ pfoot hb mb v rb rv, 0 < x) (hs : s.length ≤ 9223372036854775807) (hL : (L.length + 1) * 24 ≤ 225179981352000) :
    Calls Tryd.prog 23 #[.pointer (some ⟨hb, 0, none⟩), .pointer (some ⟨rb, 0, none⟩), .agg (opBox 3 y1 y2 r s a5 n5 c5)] w (CalTo w hb mb v rb rv L mo) := by
  have hb1 := below1 w (.cells (opBox 3 y1 y2 r s a5 n5 c5) 48)
  have hk := heap_alloc_new w (.cells (opBox 3 y1 y2 r s a5 n5 c5) 48)
  have hB : w.heap.size ∉ pfoot hb mb v rb rv := fun hm => by have := h.lt _ hm; omega
  have HH := Bx.mk (And.intro (h.below hb1) (And.intro hb1 (And.intro hk (And.intro hB (And.intro (hG.below hb1 hG.lt) (show 0 ∉ pfoot hb mb v rb rv from fun hm => by have := hE _ hm; omega))))))
  have kt := pop_c hb mb v L mo mv _ (h.below hb1).h hL
  have krt := fun w h => rpop_c rb rv L mo mv w h hL
  obtain ⟨r', hr'⟩ : ∃ x, (atE L 0).1 = x := ⟨_, rfl⟩
  obtain ⟨t', ht'⟩ : ∃ x, (atE L 0).2 = x := ⟨_, rfl⟩
  obtain ⟨c, hc⟩ : ∃ x, emptyC L = x := ⟨_, rfl⟩
  have hc0 : 0 ≤ c := by rw [← hc]; unfold emptyC; split <;> decide
  rw [hr', ht', hc] at kt krt
  clear h hb1 hk hB hG hE hr' ht' hc
  go_enter Tryd.func23, Tryd.ntmps23
  go_upto_region 11 with (fail)
  change Code.wp _ _ _ _ (w.alloc (.cells (opBox 3 y1 y2 r s a5 n5 c5) 48))
  generalize w.alloc (.cells (opBox 3 y1 y2 r s a5 n5 c5) 48) = w1 at *
  obtain ⟨B, hBB⟩ : ∃ B, w.heap.size = B := ⟨_, rfl⟩
  rw [hBB] at HH
  simp only [hBB]
  have HBB := Bx.mk hBB
  clear hBB
  have z4 : w1.cell? ⟨B, 4, none⟩ = some (strV s) := cells_at HH.out.2.2.1 4 _ rfl
  go_upto_region 12 with (go_at_call 51; refine kt.mono ?_; rintro e w2 ⟨rfl, v', h2⟩)
  change Code.wp _ _ _ _ (w2.alloc (.cells #[.int .i64 r', strV t'] 27))
  have hn2 := below1 w2 (.cells #[.int .i64 r', strV t'] 27)
  have z4' : (w2.alloc (.cells #[.int .i64 r', strV t'] 27)).cell? ⟨B, 4, none⟩ = some (strV s) := by
    have h4 := h2.t.cell z4 (fun hm => HH.out.2.2.2.1 (List.mem_append_left _ hm))
    rw [hn2.cell (cell_lt h4)]; exact h4
  have hbx2 := Box2.new w2 r' t'
  have H2 := Bx.mk (And.intro h2 (And.intro hn2 (And.intro hbx2 ((HH.out.1.half h2).below hn2))))
  clear z4 hn2 hbx2 h2 kt
  obtain ⟨B2, hB2⟩ : ∃ B2, w2.heap.size = B2 := ⟨_, rfl⟩
  have HB2 := Bx.mk hB2
  rw [hB2] at H2
  simp only [hB2]
  clear hB2
  generalize w2.alloc (.cells #[.int .i64 r', strV t'] 27) = w2b at *
  go_upto_region 13 with (go_at_call 52; refine (krt _ H2.out.2.2.2).mono ?_; rintro e w3 ⟨rfl, rv', h3⟩)
  change Code.wp _ _ _ _ ((w3.alloc (.cells #[.int .i64 r', strV t'] 27)).alloc (.cells #[.int .i64 c, .int .i64 0, .int .i64 0, .bool false, .bool false] 55))
  have hn3 := below2 w3 (.cells #[.int .i64 r', strV t'] 27) (.cells #[.int .i64 c, .int .i64 0, .int .i64 0, .bool false, .bool false] 55)
  have hp := HH.out.1.go H2.out.1 (h3.from (w0 := w2) (by rw [HB2.out]; exact H2.out.2.1))
  have hx2 : Box2 ((w3.alloc (.cells #[.int .i64 r', strV t'] 27)).alloc (.cells #[.int .i64 c, .int .i64 0, .int .i64 0, .bool false, .bool false] 55)) B2 r' t' := by
    have hlt := block_lt H2.out.2.2.1
    have : Box2 w3 B2 r' t' := (h3.t.block B2 hlt (fun hm => by
      have h5 := HH.out.1.m.footLt B2 hm
      have h6 := H2.out.1.t.size
      rw [HB2.out] at h6
      omega)).trans H2.out.2.2.1
    exact this.step hn3
  have hx3 : Box2 ((w3.alloc (.cells #[.int .i64 r', strV t'] 27)).alloc (.cells #[.int .i64 c, .int .i64 0, .int .i64 0, .bool false, .bool false] 55)) w3.heap.size r' t' := (Box2.new w3 r' t').step (below1 _ _)
  have hx4 := heap_alloc2_new w3 (.cells #[.int .i64 r', strV t'] 27) (.cells #[.int .i64 c, .int .i64 0, .int .i64 0, .bool false, .bool false] 55)
  have H3 := Bx.mk (hp.step hn3)
  have q1 := cells_at hx2 0 _ rfl
  have q2 := cells_at hx2 1 _ rfl
  have q3 := cells_at hx3 0 _ rfl
  have q4 := cells_at hx3 1 _ rfl
  have q5 := cells_at hx4 0 _ rfl
  have q6 := cells_at hx4 1 _ rfl
  have q7 := cells_at hx4 2 _ rfl
  have q8 := cells_at hx4 3 _ rfl
  have q9 := cells_at hx4 4 _ rfl
  clear hn3 hp hx2 hx3 hx4 h3 z4' krt
  generalize (w3.alloc (.cells #[.int .i64 r', strV t'] 27)).alloc (.cells #[.int .i64 c, .int .i64 0, .int .i64 0, .bool false, .bool false] 55) = w4 at *
  go_wp2_with (go_at_call 22; refine (same_c c _ (HH.out.2.2.2.2.1.turned H3.out.t HH.out.2.2.2.2.2) hc0).mono ?_; rintro e w5 ⟨rfl, hb5⟩; have H5 := Bx.mk (H3.out.step hb5); clear hb5)
  go_ret
  exact ⟨rfl, _, _, _, _, H5.out.from (by rw [HBB.out]; exact HH.out.2.1), Nat.le_trans (popL_len mo L mv) (Nat.le_succ _)⟩
end Go.Proofs.YtlodgmmhaolmaaaDoor
