/- The document's heap: Put, Turn. -/
import Derived.Test.YtlodgmmhaolmaaaDoorRfN
import Derived.Deep.RegionLaw
set_option linter.unusedSimpArgs false
set_option linter.unusedVariables false
namespace Go.Proofs.YtlodgmmhaolmaaaDoor
open Go.RowKit
structure RefTo (w w' : World) (mb : Nat) (v v' : Value) (L' : List Ent) (mo : Bool) (mv' : Nat) : Prop where
  h : RefAt w' mb v' L' mo mv'
  t : Turned (rfoot mb v) w w'
  r : rowB v' = rowB v ∨ ∀ g, rowB v' = some g → w.heap.size ≤ g
theorem rfoot_step {mb S : Nat} {v v' : Value} (h : rowB v' = rowB v ∨ ∀ g, rowB v' = some g → S ≤ g) : ∀ x ∈ rfoot mb v', x ∈ rfoot mb v ∨ S ≤ x := by
  intro x hx
  simp only [rfoot, List.mem_cons, Option.mem_toList] at hx ⊢
  rcases hx with hx | hx
  · exact Or.inl (Or.inl hx)
  · rcases h with h | h
    · exact Or.inl (Or.inr (by rw [← h]; exact hx))
    · exact Or.inr (h x hx)
theorem RefAt.footLt {w : World} {mb : Nat} {v : Value} {L : List Ent} {mo : Bool} {mv : Nat} (h : RefAt w mb v L mo mv) : ∀ x ∈ rfoot mb v, x < w.heap.size := by
  intro x hx
  simp only [rfoot, List.mem_cons, Option.mem_toList] at hx
  rcases hx with rfl | hx
  · exact block_lt h.blk
  · rcases h.row with ⟨g, cap, h0, rfl, ho⟩ | ⟨_, A, rfl⟩
    · rw [rowB_pos h0] at hx
      injection hx with hx
      rw [← hx]; exact (own_cap ho).2.2
    · cases A <;> cases hx
/-- an entry has been appended, and the new slice stored -/
theorem RefAt.app {w w3 : World} {mb N cap g cap' : Nat} {A : Option Addr} {L : List Ent} {mo : Bool} {mv : Nat} {e : Ent} (h : RefAt w mb (.slice A N cap) L mo mv) (hN : L.length = N) (hT : Turned (rowB (.slice A N cap)).toList w w3)
    (hown : w3.ownsRow 0 27 2 (.slice (some ⟨g, 0, none⟩) (N + 1) cap') (N + 1) (entC (L ++ [e]))) (hat : rowB (.slice A N cap) = some g ∨ w.heap.size ≤ g) :
    RefTo w (w3.setCell ⟨mb, 0, none⟩ (.slice (some ⟨g, 0, none⟩) (N + 1) cap')) mb (.slice A N cap) (.slice (some ⟨g, 0, none⟩) (N + 1) cap') (L ++ [e]) mo mv := by
  have hcp := own_cap hown
  have hmb : w3.heap[mb]? = w.heap[mb]? := hT.block mb (block_lt h.blk) (fun e => h.ne (by simpa using e))
  have hgm : g ≠ mb := by
    rcases hat with h1 | h1
    · rintro rfl; exact h.ne h1
    · have := block_lt h.blk; omega
  refine ⟨⟨?_, RowE.mk (ownsRow_setCell_other hown (by simpa [Value.ownBlock] using hgm) _) (by simp [hN]) (by omega)⟩, (hT.more (fun x hx => by simp only [rfoot, List.mem_cons]; exact Or.inr hx)).trans ((Turned.set mb 0 _).more (by simp [rfoot])), ?_⟩
  · have := cells_set (hmb.trans h.blk) 0 (.slice (some ⟨g, 0, none⟩) (N + 1) cap')
    simpa using this
  · rw [rowB_pos (show 0 < cap' by omega)]
    rcases hat with h1 | h1
    · exact Or.inl h1.symm
    · exact Or.inr fun x hx => by injection hx with hx; omega
theorem RefTo.on {w w1 w2 : World} {mb : Nat} {v v1 v2 : Value} {L1 L2 : List Ent} {mo : Bool} {m1 m2 : Nat} (h : RefTo w w1 mb v v1 L1 mo m1) (k : RefTo w1 w2 mb v1 v2 L2 mo m2) : RefTo w w2 mb v v2 L2 mo m2 :=
  ⟨k.h, h.t.step k.t (rfoot_step h.r), by
    rcases k.r with h2 | h2
    · rw [h2]; exact h.r
    · exact Or.inr fun g e => Nat.le_trans h.t.size (h2 g e)⟩
theorem RefTo.from {w0 w w' : World} {mb : Nat} {v v' : Value} {L' : List Ent} {mo : Bool} {mv' : Nat} (h : RefTo w w' mb v v' L' mo mv') (hb : Below w0.heap.size w0 w) : RefTo w0 w' mb v v' L' mo mv' :=
  ⟨h.h, (Turned.ofBelow hb).trans h.t, by
    rcases h.r with h2 | h2
    · exact Or.inl h2
    · exact Or.inr fun g e => Nat.le_trans hb.size (h2 g e)⟩
theorem bad_box {w : World} {R : Nat} {T : TypeId} {u0 u1 u2 u3 u4 : Value} (h : w.heap[R]? = some (.cells #[u0, u1, u2, u3, u4] T (0, 0))) (x0 x1 x2 x3 x4 : Value) :
    (((((w.setCell ⟨R, 0, none⟩ x0).setCell ⟨R, 1, none⟩ x1).setCell ⟨R, 2, none⟩ x2).setCell ⟨R, 3, none⟩ x3).setCell ⟨R, 4, none⟩ x4).heap[R]? = some (.cells #[x0, x1, x2, x3, x4] T (0, 0)) ∧
    Turned [R] w (((((w.setCell ⟨R, 0, none⟩ x0).setCell ⟨R, 1, none⟩ x1).setCell ⟨R, 2, none⟩ x2).setCell ⟨R, 3, none⟩ x3).setCell ⟨R, 4, none⟩ x4) :=
  ⟨cells_set (cells_set (cells_set (cells_set (cells_set h 0 x0) 1 x1) 2 x2) 3 x3) 4 x4, ((((Turned.set R 0 x0).trans (Turned.set R 1 x1)).trans (Turned.set R 2 x2)).trans (Turned.set R 3 x3)).trans (Turned.set R 4 x4)⟩
theorem RefTo.aside {w w1 w2 : World} {mb R : Nat} {v v' : Value} {L' : List Ent} {mo : Bool} {mv' : Nat} (h : RefTo w w1 mb v v' L' mo mv') (hR : w.heap.size ≤ R) (hn : R ∉ rfoot mb v') (ht : Turned [R] w1 w2) : RefTo w w2 mb v v' L' mo mv' :=
  ⟨h.h.kept ht (fun x hx hm => by rw [List.mem_singleton] at hx; subst hx; exact hn hm), h.t.step ht (fun x hx => by rw [List.mem_singleton] at hx; subst hx; exact Or.inr hR), h.r⟩
/-- the document's Bad, told: a box of zeros -/
abbrev bad0 : Array Value := #[.int .i64 0, .int .i64 0, .int .i64 0, .bool false, .bool false]
set_option maxHeartbeats 4000000 in
set_option maxRecDepth 100000 in
theorem rput_known (mb : Nat) (v : Value) (L : List Ent) (mo : Bool) (mv : Nat) (r : Int) (s : List UInt8) (w : World) (h : RefAt w mb v L mo mv) (i : Nat) (hf : findE L s = some i) (hL : L.length ≤ 1152921504606846976) :
    Calls Tryd.prog 48 #[.pointer (some ⟨mb, 0, none⟩), .agg #[.int .i64 r, strV s]] w fun e w' => e = .returned (badV 5) ∧ Below w.heap.size w w' := by
  have hb := below2 w (.cells #[.int .i64 r, strV s] 27) (.cells bad0 55)
  have kf := rfind_any mb v L mo mv s _ (h.below hb) hL
  rw [hf] at kf
  simp only [posI] at kf
  have hi0 : (0 : Int) ≤ i := by omega
  have kn := fun w => bnew_any 5 w
  clear h hf hL hb
  go_enter Tryd.func48, Tryd.ntmps48
  go_wp2_with (first | (go_at_call 44; refine kf.mono ?_; rintro e w' ⟨rfl, rfl⟩) | (go_at_call 46; refine (kn _).mono ?_; rintro e w' ⟨rfl, rfl⟩))
  all_goals exact bodyPost_ret (v := badV 5) (by simp [results, Tryd.results48, go_sem]) rfl ⟨rfl, below3 _ _ _ _⟩
set_option maxHeartbeats 8000000 in
set_option maxRecDepth 100000 in
theorem rput_new (mb : Nat) (v : Value) (L : List Ent) (mo : Bool) (mv : Nat) (r : Int) (s : List UInt8) (w : World) (h : RefAt w mb v L mo mv) (hf : findE L s = none) (hL : (L.length + 1) * 24 ≤ 225179981352000) :
    Calls Tryd.prog 48 #[.pointer (some ⟨mb, 0, none⟩), .agg #[.int .i64 r, strV s]] w fun e w' => e = .returned (badV 0) ∧ ∃ v', RefTo w w' mb v v' (putH mo L (r, s)).1 mo (putH mo L (r, s)).2 := by
  have hb := below2 w (.cells #[.int .i64 r, strV s] 27) (.cells bad0 55)
  have h0 := h.below hb
  have kf := rfind_any mb v L mo mv s _ h0 (by omega)
  rw [hf] at kf
  simp only [posI] at kf
  have hk0 : ((w.alloc (.cells #[.int .i64 r, strV s] 27)).alloc (.cells bad0 55)).heap[w.heap.size]? = some (.cells #[.int .i64 r, strV s] 27 (0, 0)) := ((below1 (w.alloc (.cells #[.int .i64 r, strV s] 27)) (.cells bad0 55)).block _ (by simp)).trans (heap_alloc_new w _)
  have hk1 : ((w.alloc (.cells #[.int .i64 r, strV s] 27)).alloc (.cells bad0 55)).heap[w.heap.size + 1]? = some (.cells bad0 55 (0, 0)) := by
    have := heap_alloc_new (w.alloc (.cells #[.int .i64 r, strV s] 27)) (.cells bad0 55)
    rwa [show (w.alloc (.cells #[.int .i64 r, strV s] 27)).heap.size = w.heap.size + 1 by simp] at this
  have HH := Bx.mk (And.intro h (And.intro h0 (And.intro hb (And.intro hk1 hL))))
  have e0 := cells_at hk0 0 _ rfl
  have e1 := cells_at hk0 1 _ rfl
  clear h h0 hb hk0 hk1 hf hL
  go_enter Tryd.func48, Tryd.ntmps48
  go_upto_region 5 with (go_at_call 44; refine kf.mono ?_; rintro e w' ⟨rfl, rfl⟩)
  change Code.wp _ _ _ _ ((w.alloc (.cells #[.int .i64 r, strV s] 27)).alloc (.cells bad0 55))
  clear kf
  generalize (w.alloc (.cells #[.int .i64 r, strV s] 27)).alloc (.cells bad0 55) = w2 at *
  obtain ⟨B, hB⟩ : ∃ B, w.heap.size = B := ⟨_, rfl⟩
  have HB := Bx.mk hB
  rw [hB] at e0 e1 HH
  simp only [hB]
  clear hB
  obtain ⟨A, cap, rfl, hcap⟩ := HH.out.1.row.form
  obtain ⟨N, hN⟩ : ∃ N, L.length = N := ⟨_, rfl⟩
  have HN : Bx (L.length = N) := ⟨hN⟩
  have d0 := HH.out.2.1.cell0
  rw [hN] at d0
  have hLs := HH.out.2.2.2.2
  rw [hN] at hLs
  clear hN hcap
  have HR2 : Bx (RefAt w2 mb (.slice A N cap) L mo mv) := ⟨by have := HH.out.2.1; rwa [HN.out] at this⟩
  have HR : Bx (∀ o, RowE (w2.drew.alloc o) (.slice A N cap) L) := ⟨fun o => HR2.out.row.kept (S := []) (Turned.ofBelow ((Below.refl _ _).drew.trans (below1 w2.drew o))) (by simp)⟩
  have HKA : Bx (∀ o w3, Turned (rowB (.slice A N cap)).toList (w2.drew.alloc o) w3 → w3.cell? ⟨mb, 0, none⟩ = some (.slice A N cap) ∧ w3.frozen? ⟨mb, 0, none⟩ = false) := ⟨fun o w3 hT => by
    have hl := block_lt HR2.out.blk
    have h2 : w3.heap[mb]? = _ := ((hT.block mb (by simp only [heap_push, Array.size_push]; exact Nat.lt_succ_of_lt hl) (fun e => HR2.out.ne (by simpa using e))).trans ((below1 w2.drew o).block mb hl)).trans HR2.out.blk
    exact ⟨cells_at h2 0 _ rfl, cells_free h2 0⟩⟩
  have hlt : mb < w2.heap.size := block_lt HR2.out.blk
  have hltB : B < w2.heap.size := cell_lt e0
  go_region_law (refine step_append_row rfl _ _ rfl (.slice A N cap) L N HN.out (r, s) (by simp [Act.eval, Act.put]) (HR.out _) ⟨w2.heap.size, 0, none⟩ (by simp [Act.eval, Act.put]) (news_box _ _ _ _ (box_cells w2.drew r s _).1 (box_cells w2.drew r s _).2) hLs ?_; intro g cap' w3 hown hT hat; obtain ⟨c3', f3'⟩ := HKA.out _ _ hT)
  all_goals
    clear e0 e1 d0
    have hba : Below w2.heap.size w2 (w2.drew.alloc (.cells #[.int .i64 r, strV s] 27)) := (Below.refl _ _).drew.trans (below1 w2.drew _)
    have hTa : Turned (rowB (.slice A N cap)).toList w2 w3 := (Turned.ofBelow hba).trans hT
    have h3 := HR2.out.app HN.out hTa hown (by rcases hat with e | e; (exact Or.inl e); (exact Or.inr (Nat.le_trans hba.size e)))
    have H3 := Bx.mk h3
    clear hown hT hat hba hTa h3 c3' f3'
    generalize w3.setCell ⟨mb, 0, none⟩ (.slice (some ⟨g, 0, none⟩) (N + 1) cap') = w4 at *
    have c2 := H3.out.h.cell2
    have f2 := H3.out.h.free 2
    have h4 : RefAt (w4.setCell ⟨mb, 2, none⟩ (.int .i64 0)) mb (.slice (some ⟨g, 0, none⟩) (N + 1) cap') (L ++ [(r, s)]) mo 0 := H3.out.h.moved 0
    have c0w := H3.out.h.cell0
    have hTm : Turned (rfoot mb (.slice (some ⟨g, 0, none⟩) (N + 1) cap')) w4 (w4.setCell ⟨mb, 2, none⟩ (.int .i64 0)) := (Turned.set mb 2 _).more (by simp [rfoot])
    have H4 := Bx.mk (H3.out.on ⟨h4, hTm, Or.inl rfl⟩)
    have c0 := h4.cell0
    have ku := rup_any mb _ (L ++ [(r, s)]) mo 0 N _ h4 (by simp [HN.out]) (by simp [HN.out]; omega) (by
      have h1 := putH_moves mo L (r, s)
      have h2 : (putH mo L (r, s)).2 < 2 ^ (putH mo L (r, s)).2 := Nat.lt_two_pow_self
      unfold putH at h1 h2
      rw [HN.out] at h1 h2
      omega)
    clear h4 hTm
    go_wp2_with fail
    refine ku.mono ?_
    rintro e w5 ⟨rfl, h5, t5⟩
    have HF := Bx.mk (H4.out.on ⟨h5, t5, Or.inl rfl⟩)
    have hbk : w5.heap[B + 1]? = some (.cells bad0 55 (0, 0)) := (HF.out.t.block (B + 1) (block_lt HH.out.2.2.2.1) (fun hm => by
      have h1 := HH.out.1.footLt (B + 1) (by rw [HN.out]; exact hm)
      have := HB.out
      omega)).trans HH.out.2.2.2.1
    have z0 := cells_at hbk 0 _ rfl
    have z1 := cells_at hbk 1 _ rfl
    have z2 := cells_at hbk 2 _ rfl
    have z3 := cells_at hbk 3 _ rfl
    have z4 := cells_at hbk 4 _ rfl
    have y0 := cells_free hbk 0
    have y1 := cells_free hbk 1
    have y2 := cells_free hbk 2
    have y3 := cells_free hbk 3
    have y4 := cells_free hbk 4
    have HBK := Bx.mk hbk
    have hbx := bad_box hbk (.int .i64 0) (.int .i64 0) (.int .i64 0) (.bool false) (.bool false)
    have hRn : B + 1 ∉ rfoot mb (.slice (some ⟨g, 0, none⟩) (N + 1) cap') := fun hm => by
      rcases rfoot_step HF.out.r _ hm with h1 | h1
      · have := HH.out.1.footLt (B + 1) (by rw [HN.out]; exact h1)
        have := HB.out
        omega
      · have := block_lt HH.out.2.2.2.1
        omega
    have HG := Bx.mk (And.intro hbx.1 ((HF.out.from (w0 := w) (by rw [HB.out]; exact HH.out.2.2.1)).aside (by rw [HB.out]; omega) hRn hbx.2))
    clear ku h5 t5 c0 c0w c2 f2 hbk hbx hRn
    go_wp2
    refine bodyPost_ret (results_bad rfl _ _ (B + 1) 0 0 0 false false rfl HG.out.1) rfl ⟨rfl, .slice (some ⟨g, 0, none⟩) (N + 1) cap', ?_⟩
    have hu : putH mo L (r, s) = upH mo (L ++ [(r, s)]) N := by unfold putH; rw [HN.out]
    rw [hu, HN.out]
    have h := HG.out.2
    rw [Nat.zero_add] at h
    exact h
end Go.Proofs.YtlodgmmhaolmaaaDoor
