/- The document's heap: Take, Pop. -/
import Derived.Test.YtlodgmmhaolmaaaDoorRfE
import Derived.Test.YtlodgmmhaolmaaaDoorHpJ
set_option linter.unusedSimpArgs false
set_option linter.unusedVariables false
namespace Go.Proofs.YtlodgmmhaolmaaaDoor
open Go.RowKit
/-- an entry and the document's error -/
abbrev entBad (r : Int) (s : List UInt8) (c : Int) : Value := .tuple #[.agg #[.int .i64 r, strV s], badV c]
abbrev ent0 : Array Value := #[.int .i64 0, .string ⟨#[]⟩]
set_option maxHeartbeats 4000000 in
set_option maxRecDepth 100000 in
theorem rtake_none (mb : Nat) (v : Value) (L : List Ent) (mo : Bool) (mv : Nat) (s : List UInt8) (w : World) (h : RefAt w mb v L mo mv) (hf : findE L s = none) (hL : L.length ≤ 1152921504606846976) :
    Calls Tryd.prog 49 #[.pointer (some ⟨mb, 0, none⟩), strV s] w fun e w' => e = .returned (entBad 0 [] 4) ∧ Below w.heap.size w w' := by
  have hb := below2 w (.cells ent0 27) (.cells bad0 55)
  have kf := rfind_any mb v L mo mv s _ (h.below hb) hL
  rw [hf] at kf
  simp only [posI] at kf
  have kn := fun w => bnew_any 4 w
  clear h hf hL hb
  go_enter Tryd.func49, Tryd.ntmps49
  go_wp2_with (first | (go_at_call 44; refine kf.mono ?_; rintro e w' ⟨rfl, rfl⟩) | (go_at_call 46; refine (kn _).mono ?_; rintro e w' ⟨rfl, rfl⟩))
  all_goals exact bodyPost_ret (v := entBad 0 [] 4) (by simp [results, Tryd.results49, go_sem]) rfl ⟨rfl, below3 _ _ _ _⟩
set_option maxHeartbeats 4000000 in
set_option maxRecDepth 100000 in
theorem rtake_nil (s : List UInt8) (w : World) :
    Calls Tryd.prog 49 #[.pointer none, strV s] w fun e w' => e = .returned (entBad 0 [] 1) ∧ Below w.heap.size w w' := by
  have kn := fun w => bnew_any 1 w
  go_enter Tryd.func49, Tryd.ntmps49
  go_wp2_with (first | (go_at_call 46; refine (kn _).mono ?_; rintro e w' ⟨rfl, rfl⟩))
  all_goals exact bodyPost_ret (v := entBad 0 [] 1) (by simp [results, Tryd.results49, go_sem]) rfl ⟨rfl, below3 _ _ _ _⟩
theorem rput_nil (r : Int) (s : List UInt8) (w : World) :
    Calls Tryd.prog 48 #[.pointer none, .agg #[.int .i64 r, strV s]] w fun e w' => e = .returned (badV 1) ∧ Below w.heap.size w w' := by
  have kn := fun w => bnew_any 1 w
  go_enter Tryd.func48, Tryd.ntmps48
  go_wp2_with (first | (go_at_call 46; refine (kn _).mono ?_; rintro e w' ⟨rfl, rfl⟩))
  all_goals exact bodyPost_ret (v := badV 1) (by simp [results, Tryd.results48, go_sem]) rfl ⟨rfl, below3 _ _ _ _⟩
theorem rturn_nil (s : List UInt8) (r : Int) (w : World) :
    Calls Tryd.prog 50 #[.pointer none, strV s, .int .i64 r] w fun e w' => e = .returned (badV 1) ∧ Below w.heap.size w w' := by
  have kn := fun w => bnew_any 1 w
  go_enter Tryd.func50, Tryd.ntmps50
  go_wp2_with (first | (go_at_call 46; refine (kn _).mono ?_; rintro e w' ⟨rfl, rfl⟩))
  all_goals exact bodyPost_ret (v := badV 1) (by simp [results, Tryd.results50, go_sem]) rfl ⟨rfl, below2 _ _ _⟩
theorem rpop_nil (w : World) :
    Calls Tryd.prog 52 #[.pointer none] w fun e w' => e = .returned (entBad 0 [] 1) ∧ Below w.heap.size w w' := by
  have kn := fun w => bnew_any 1 w
  go_enter Tryd.func52, Tryd.ntmps52
  go_wp2_with (first | (go_at_call 46; refine (kn _).mono ?_; rintro e w' ⟨rfl, rfl⟩))
  all_goals exact bodyPost_ret (v := entBad 0 [] 1) (by simp [results, Tryd.results52, go_sem]) rfl ⟨rfl, below3 _ _ _ _⟩
theorem rpop_none (mb : Nat) (v : Value) (mo : Bool) (mv : Nat) (w : World) (h : RefAt w mb v [] mo mv) :
    Calls Tryd.prog 52 #[.pointer (some ⟨mb, 0, none⟩)] w fun e w' => e = .returned (entBad 0 [] 4) ∧ Below w.heap.size w w' := by
  have kn := fun w => bnew_any 4 w
  have h2 := h.below (below2 w (.cells ent0 27) (.cells bad0 55))
  obtain ⟨A, cap, rfl, _⟩ := h2.row.form
  have c0 := h2.cell0
  simp only [List.length_nil] at c0
  clear h h2
  go_enter Tryd.func52, Tryd.ntmps52
  go_wp2_with (first | (go_at_call 46; refine (kn _).mono ?_; rintro e w' ⟨rfl, rfl⟩))
  all_goals exact bodyPost_ret (v := entBad 0 [] 4) (by simp [results, Tryd.results52, go_sem]) rfl ⟨rfl, below3 _ _ _ _⟩
/-- the list is one entry shorter -/
theorem RefAt.cut {w : World} {mb g cap n : Nat} {L : List Ent} {mo : Bool} {mv : Nat} (h : RefAt w mb (.slice (some ⟨g, 0, none⟩) (n + 1) cap) L mo mv) (hn : L.length = n + 1) :
    RefTo w (w.setCell ⟨mb, 0, none⟩ (.slice (some ⟨g, 0, none⟩) n cap)) mb (.slice (some ⟨g, 0, none⟩) (n + 1) cap) (.slice (some ⟨g, 0, none⟩) n cap) L.dropLast mo mv := by
  obtain ⟨g', cap', e, ho⟩ := h.row.some (by omega)
  rw [hn] at e ho
  simp only [Value.slice.injEq, Option.some.injEq, Addr.mk.injEq, and_true, true_and] at e
  obtain ⟨rfl, rfl⟩ := e
  have hcp := own_cap ho
  have hne := h.ne
  rw [rowB_pos (by omega)] at hne
  refine ⟨⟨?_, RowE.mk (ownsRow_setCell_other (own_less ho hn) (by simpa [Value.ownBlock] using hne) _) (by simp [hn]) (by omega)⟩, (Turned.set mb 0 _).more (by simp [rfoot]), Or.inl (by rw [rowB_pos (by omega), rowB_pos (by omega)])⟩
  have := cells_set h.blk 0 (.slice (some ⟨g, 0, none⟩) n cap)
  simpa using this
theorem drop_set {L : List Ent} {i n : Nat} {e : Ent} (hn : L.length = n + 1) : (L.set i e).dropLast = L.dropLast.set i e := by
  rw [List.dropLast_eq_take, List.dropLast_eq_take, List.length_set, List.take_set]
theorem take_go {mo : Bool} {L : List Ent} {i n : Nat} (hn : L.length = n + 1) (hi : i < n) : takeH mo L i = mendH mo (L.set i (atE L n)).dropLast i := by
  unfold takeH
  rw [if_pos (by omega), drop_set hn, show L.length - 1 = n by omega]
theorem take_end {mo : Bool} {L : List Ent} {n : Nat} (hn : L.length = n + 1) : (takeH mo L n).1 = (L.set n (atE L n)).dropLast := by
  unfold takeH
  rw [if_neg (by omega), drop_set hn, List.set_eq_of_length_le (by simp [hn])]
theorem take_end2 {mo : Bool} {L : List Ent} {n : Nat} (hn : L.length = n + 1) : (takeH mo L n).2 = 0 := by
  unfold takeH
  rw [if_neg (by omega)]
/-- the two boxes that are told -/
theorem told_two {w : World} {B : Nat} (r : Int) (t : List UInt8) (h0 : w.heap[B]? = some (.cells ent0 27 (0, 0))) (h1 : w.heap[B + 1]? = some (.cells bad0 55 (0, 0))) :
    ∃ w', w' = (((((((w.setCell ⟨B, 0, none⟩ (.int .i64 r)).setCell ⟨B, 1, none⟩ (strV t)).setCell ⟨B + 1, 0, none⟩ (.int .i64 0)).setCell ⟨B + 1, 1, none⟩ (.int .i64 0)).setCell ⟨B + 1, 2, none⟩ (.int .i64 0)).setCell ⟨B + 1, 3, none⟩ (.bool false)).setCell ⟨B + 1, 4, none⟩ (.bool false)) ∧
      w'.heap[B]? = some (.cells #[.int .i64 r, strV t] 27 (0, 0)) ∧ w'.heap[B + 1]? = some (.cells bad0 55 (0, 0)) ∧ Turned [B, B + 1] w w' := by
  have e1 := cells_set (cells_set h0 0 (.int .i64 r)) 1 (strV t)
  have t1 : Turned [B] w ((w.setCell ⟨B, 0, none⟩ (.int .i64 r)).setCell ⟨B, 1, none⟩ (strV t)) := (Turned.set B 0 _).trans (Turned.set B 1 _)
  have b1 := (t1.block (B + 1) (block_lt h1) (by simp)).trans h1
  have hx := bad_box b1 (.int .i64 0) (.int .i64 0) (.int .i64 0) (.bool false) (.bool false)
  refine ⟨_, rfl, ?_, hx.1, (t1.more (by simp)).trans (hx.2.more (by simp))⟩
  rw [hx.2.block B (block_lt e1) (by simp)]
  exact e1
theorem RefTo.aside2 {w w1 w2 : World} {mb : Nat} {v v' : Value} {L' : List Ent} {mo : Bool} {mv' : Nat} {T : List Nat} (h : RefTo w w1 mb v v' L' mo mv') (hT : ∀ x ∈ T, w.heap.size ≤ x ∧ x ∉ rfoot mb v') (ht : Turned T w1 w2) : RefTo w w2 mb v v' L' mo mv' :=
  ⟨h.h.kept ht (fun x hx => (hT x hx).2), h.t.step ht (fun x hx => Or.inr (hT x hx).1), h.r⟩
set_option maxHeartbeats 8000000 in
set_option maxRecDepth 100000 in
theorem rtake_some (mb : Nat) (v : Value) (L : List Ent) (mo : Bool) (mv n : Nat) (s : List UInt8) (w : World) (h : RefAt w mb v L mo mv) (i : Nat) (hf : findE L s = some i) (hn : L.length = n + 1) (hL : n + 1 ≤ 1152921504606846976) :
    Calls Tryd.prog 49 #[.pointer (some ⟨mb, 0, none⟩), strV s] w fun e w' => e = .returned (entBad (atE L i).1 (atE L i).2 0) ∧ ∃ v', RefTo w w' mb v v' (takeH mo L i).1 mo (takeH mo L i).2 := by
  have hi := (findE_some hf).1
  rw [hn] at hi
  have hb := below2 w (.cells ent0 27) (.cells bad0 55)
  have h0 := h.below hb
  have hk0 : ((w.alloc (.cells ent0 27)).alloc (.cells bad0 55)).heap[w.heap.size]? = some (.cells ent0 27 (0, 0)) := ((below1 (w.alloc (.cells ent0 27)) (.cells bad0 55)).block _ (by simp)).trans (heap_alloc_new w _)
  have hk1 : ((w.alloc (.cells ent0 27)).alloc (.cells bad0 55)).heap[w.heap.size + 1]? = some (.cells bad0 55 (0, 0)) := by
    have := heap_alloc_new (w.alloc (.cells ent0 27)) (.cells bad0 55)
    rwa [show (w.alloc (.cells ent0 27)).heap.size = w.heap.size + 1 by simp] at this
  have kf := rfind_any mb v L mo mv s _ h0 (by omega)
  rw [hf] at kf
  simp only [posI] at kf
  have hi0 : ¬ ((i : Int) < 0) := by omega
  have HH := Bx.mk (And.intro h (And.intro h0 (And.intro hb (And.intro hk0 hk1))))
  obtain ⟨g, cap, rfl, ho⟩ := h0.row.some (by omega)
  rw [hn] at HH ho ⊢
  have c0 : ((w.alloc (.cells ent0 27)).alloc (.cells bad0 55)).cell? ⟨mb, 0, none⟩ = some (.slice (some ⟨g, 0, none⟩) (n + 1) cap) := by have := h0.cell0; rwa [hn] at this
  obtain ⟨d0, d1⟩ := ent_cells ho hn.symm (i := i) (by omega)
  have HO := Bx.mk ho
  obtain ⟨r, hr⟩ : ∃ x, (atE L i).1 = x := ⟨_, rfl⟩
  obtain ⟨t, ht⟩ : ∃ x, (atE L i).2 = x := ⟨_, rfl⟩
  have HRT := Bx.mk (And.intro hr ht)
  rw [hr] at d0 ⊢
  rw [ht] at d1 ⊢
  clear h h0 hb hk0 hk1 hf ho hr ht
  go_enter Tryd.func49, Tryd.ntmps49
  go_upto_region 7 with (go_at_call 44; refine kf.mono ?_; rintro e w' ⟨rfl, rfl⟩)
  change Code.wp _ _ _ _ (((w.alloc (.cells ent0 27)).alloc (.cells bad0 55)).alloc (.cells #[.int .i64 r, strV t] 27))
  have hb3 := below1 ((w.alloc (.cells ent0 27)).alloc (.cells bad0 55)) (.cells #[.int .i64 r, strV t] 27)
  have hk2 : (((w.alloc (.cells ent0 27)).alloc (.cells bad0 55)).alloc (.cells #[.int .i64 r, strV t] 27)).heap[w.heap.size + 1 + 1]? = some (.cells #[.int .i64 r, strV t] 27 (0, 0)) := by
    have := heap_alloc_new ((w.alloc (.cells ent0 27)).alloc (.cells bad0 55)) (.cells #[.int .i64 r, strV t] 27)
    rwa [show ((w.alloc (.cells ent0 27)).alloc (.cells bad0 55)).heap.size = w.heap.size + 1 + 1 by simp] at this
  have H3 := Bx.mk (And.intro (HH.out.2.1.below hb3) (And.intro (HH.out.2.2.1.trans (hb3.mono HH.out.2.2.1.size)) (And.intro ((hb3.block _ (block_lt HH.out.2.2.2.1)).trans HH.out.2.2.2.1) (And.intro ((hb3.block _ (block_lt HH.out.2.2.2.2)).trans HH.out.2.2.2.2) (And.intro hk2 (own_below HO.out hb3))))))
  have HW := Bx.mk HH.out.1
  clear hb3 hk2 HH HO c0 d0 d1 kf
  generalize ((w.alloc (.cells ent0 27)).alloc (.cells bad0 55)).alloc (.cells #[.int .i64 r, strV t] 27) = w3 at *
  obtain ⟨B, hB⟩ : ∃ B, w.heap.size = B := ⟨_, rfl⟩
  have HB := Bx.mk hB
  rw [hB] at H3
  simp only [hB]
  clear hB
  have c0 := H3.out.1.cell0
  obtain ⟨d0, d1⟩ := ent_cells H3.out.2.2.2.2.2 hn.symm (i := i) (by omega)
  obtain ⟨x0, x1⟩ := ent_cells H3.out.2.2.2.2.2 hn.symm (i := n) (by omega)
  have t0 := H3.out.2.2.2.2.2.frozenAt (i * 2)
  have t1 := H3.out.2.2.2.2.2.frozenAt (i * 2 + 1)
  rw [HRT.out.1] at d0
  rw [HRT.out.2] at d1
  obtain ⟨rn, hrn⟩ : ∃ x, (atE L n).1 = x := ⟨_, rfl⟩
  obtain ⟨tn, htn⟩ : ∃ x, (atE L n).2 = x := ⟨_, rfl⟩
  have HN2 : Bx (atE L n = (rn, tn)) := ⟨by rw [← hrn, ← htn]⟩
  rw [hrn] at x0
  rw [htn] at x1
  clear hrn htn
  go_upto_region 8 with (fail)
  go_region
  generalize hw4 : World.drew _ = w4
  have hcp := own_cap H3.out.2.2.2.2.2
  have h4 : RefTo w3 w4 mb (.slice (some ⟨g, 0, none⟩) (n + 1) cap) (.slice (some ⟨g, 0, none⟩) (n + 1) cap) (L.set i (rn, tn)) mo mv := by
    rw [← hw4]
    exact H3.out.1.wrote (by omega) ((Turned.set g (i * 2) (.int .i64 rn)).trans (Turned.set g (i * 2 + 1) (strV tn))).drew (own_put3 (rn, tn) H3.out.2.2.2.2.2) (by simp [hn])
  have hl4 : (L.set i (rn, tn)).length = n + 1 := by simp [hn]
  have c0' := h4.h.cell0
  have f0' := h4.h.free 0
  have c2' := h4.h.cell2
  have f2' := h4.h.free 2
  have h5 := h4.on (h4.h.cut hl4)
  have h6 := h5.on h5.h.moves0
  have H6 := Bx.mk h6
  have hncap : n + 1 ≤ cap := hcp.1
  have hcap64 : cap ≤ 9223372036854775807 := by have := hcp.2.1; unfold maxLen at this; omega
  clear hw4 c0 d0 d1 x0 x1 t0 t1 h4 hl4 h5 hcp
  rcases Nat.lt_or_ge i n with hin | hin
  · have hin' : (i : Int) < n := by omega
    have km := rmend_any mb _ (L.set i (rn, tn)).dropLast mo i _ h6.h (by simp [hn]; exact hin) (by simp [hn]; omega) (mend_small mo _ i (by simp [hn]; exact hin) (by simp [hn]; omega))
    clear h6
    go_wp2_with fail
    refine km.mono ?_
    rintro e w7 ⟨rfl, h7, t7⟩
    have h7' := H6.out.on ⟨h7, t7, Or.inl rfl⟩
    rw [← HN2.out, ← take_go hn hin] at h7'
    have hBn : ∀ x, B ≤ x → x < w3.heap.size → x ∉ rfoot mb (.slice (some ⟨g, 0, none⟩) (n + 1) cap) := fun x h1 h2 hm => by
      have := HW.out.footLt x hm
      have := HB.out
      omega
    have e0 := (h7'.t.block B (block_lt H3.out.2.2.1) (hBn B (Nat.le_refl _) (block_lt H3.out.2.2.1))).trans H3.out.2.2.1
    have e1 := (h7'.t.block (B + 1) (block_lt H3.out.2.2.2.1) (hBn (B + 1) (by omega) (block_lt H3.out.2.2.2.1))).trans H3.out.2.2.2.1
    have e2 := (h7'.t.block (B + 1 + 1) (block_lt H3.out.2.2.2.2.1) (hBn (B + 1 + 1) (by omega) (block_lt H3.out.2.2.2.2.1))).trans H3.out.2.2.2.2.1
    have E1 := Bx.mk e1
    have z0 := cells_at E1.out 0 _ rfl
    have z1 := cells_at E1.out 1 _ rfl
    have z2 := cells_at E1.out 2 _ rfl
    have z3 := cells_at E1.out 3 _ rfl
    have z4 := cells_at E1.out 4 _ rfl
    have y0 := cells_free E1.out 0
    have y1 := cells_free E1.out 1
    have y2 := cells_free E1.out 2
    have y3 := cells_free E1.out 3
    have y4 := cells_free E1.out 4
    have k0 := cells_at e2 0 _ rfl
    have k1 := cells_at e2 1 _ rfl
    have q0 := cells_at e0 0 _ rfl
    have q1 := cells_at e0 1 _ rfl
    have p0 := cells_free e0 0
    have p1 := cells_free e0 1
    obtain ⟨w9, hw9, hb0, hb1, ht9⟩ := told_two r t e0 e1
    have hBm : ∀ x, B ≤ x → x < w3.heap.size → x ∉ rfoot mb (.slice (some ⟨g, 0, none⟩) n cap) := fun x h1 h2 hm => by
      rcases rfoot_step h7'.r x hm with h3 | h3
      · exact hBn x h1 h2 h3
      · omega
    have HG := Bx.mk (And.intro hb0 (And.intro hb1 ((h7'.from (w0 := w) (by rw [HB.out]; exact H3.out.2.1)).aside2 (fun x hx => by
      have h8 := block_lt H3.out.2.2.2.1
      rw [HB.out]
      simp only [List.mem_cons, List.not_mem_nil, or_false] at hx
      rcases hx with rfl | rfl
      · exact ⟨Nat.le_refl _, hBm _ (Nat.le_refl _) (by omega)⟩
      · exact ⟨by omega, hBm _ (by omega) h8⟩) ht9)))
    rw [hw9] at HG
    clear hw9 hb0 hb1 ht9 hBn hBm e0 e1 e2 c0' f0' c2' f2'
    go_wp2
    exact bodyPost_ret (results_entbad rfl _ _ B (B + 1) r t 0 0 0 false false rfl rfl HG.out.1 HG.out.2.1) rfl ⟨rfl, _, HG.out.2.2⟩
  · obtain rfl : i = n := by omega
    clear h6
    have h7' := H6.out
    rw [← HN2.out] at h7'
    rw [← take_end (mo := mo) hn] at h7'
    go_upto_region 13 with (fail)
    change Code.wp _ _ _ _ ((w4.setCell ⟨mb, 0, none⟩ (.slice (some ⟨g, 0, none⟩) i cap)).setCell ⟨mb, 2, none⟩ (.int .i64 0))
    clear H6
    generalize (w4.setCell ⟨mb, 0, none⟩ (.slice (some ⟨g, 0, none⟩) i cap)).setCell ⟨mb, 2, none⟩ (.int .i64 0) = w7 at *
    have h7q : RefTo w3 w7 mb (.slice (some ⟨g, 0, none⟩) (i + 1) cap) (.slice (some ⟨g, 0, none⟩) i cap) (takeH mo L i).1 mo (takeH mo L i).2 := by rw [take_end2 hn]; exact h7'
    clear h7'
    have hBn : ∀ x, B ≤ x → x < w3.heap.size → x ∉ rfoot mb (.slice (some ⟨g, 0, none⟩) (i + 1) cap) := fun x h1 h2 hm => by
      have := HW.out.footLt x hm
      have := HB.out
      omega
    have e0 := (h7q.t.block B (block_lt H3.out.2.2.1) (hBn B (Nat.le_refl _) (block_lt H3.out.2.2.1))).trans H3.out.2.2.1
    have e1 := (h7q.t.block (B + 1) (block_lt H3.out.2.2.2.1) (hBn (B + 1) (by omega) (block_lt H3.out.2.2.2.1))).trans H3.out.2.2.2.1
    have e2 := (h7q.t.block (B + 1 + 1) (block_lt H3.out.2.2.2.2.1) (hBn (B + 1 + 1) (by omega) (block_lt H3.out.2.2.2.2.1))).trans H3.out.2.2.2.2.1
    have E1 := Bx.mk e1
    have z0 := cells_at E1.out 0 _ rfl
    have z1 := cells_at E1.out 1 _ rfl
    have z2 := cells_at E1.out 2 _ rfl
    have z3 := cells_at E1.out 3 _ rfl
    have z4 := cells_at E1.out 4 _ rfl
    have y0 := cells_free E1.out 0
    have y1 := cells_free E1.out 1
    have y2 := cells_free E1.out 2
    have y3 := cells_free E1.out 3
    have y4 := cells_free E1.out 4
    have k0 := cells_at e2 0 _ rfl
    have k1 := cells_at e2 1 _ rfl
    have q0 := cells_at e0 0 _ rfl
    have q1 := cells_at e0 1 _ rfl
    have p0 := cells_free e0 0
    have p1 := cells_free e0 1
    obtain ⟨w9, hw9, hb0, hb1, ht9⟩ := told_two r t e0 e1
    have hBm : ∀ x, B ≤ x → x < w3.heap.size → x ∉ rfoot mb (.slice (some ⟨g, 0, none⟩) i cap) := fun x h1 h2 hm => by
      rcases rfoot_step h7q.r x hm with h3 | h3
      · exact hBn x h1 h2 h3
      · omega
    have HG := Bx.mk (And.intro hb0 (And.intro hb1 ((h7q.from (w0 := w) (by rw [HB.out]; exact H3.out.2.1)).aside2 (fun x hx => by
      have h8 := block_lt H3.out.2.2.2.1
      rw [HB.out]
      simp only [List.mem_cons, List.not_mem_nil, or_false] at hx
      rcases hx with rfl | rfl
      · exact ⟨Nat.le_refl _, hBm _ (Nat.le_refl _) (by omega)⟩
      · exact ⟨by omega, hBm _ (by omega) h8⟩) ht9)))
    rw [hw9] at HG
    clear hw9 hb0 hb1 ht9 hBn hBm e0 e1 e2 c0' f0' c2' f2'
    go_wp2
    exact bodyPost_ret (results_entbad rfl _ _ B (B + 1) r t 0 0 0 false false rfl rfl HG.out.1 HG.out.2.1) rfl ⟨rfl, _, HG.out.2.2⟩
theorem findE_zero {L : List Ent} (h : 0 < L.length) : findE L (atE L 0).2 = some 0 := findE_first (fun j hj => absurd hj (by omega)) h rfl
set_option maxHeartbeats 4000000 in
set_option maxRecDepth 100000 in
theorem rpop_some (mb : Nat) (v : Value) (L : List Ent) (mo : Bool) (mv n : Nat) (w : World) (h : RefAt w mb v L mo mv) (hn : L.length = n + 1) (hL : n + 1 ≤ 1152921504606846976) :
    Calls Tryd.prog 52 #[.pointer (some ⟨mb, 0, none⟩)] w fun e w' => e = .returned (entBad (atE L 0).1 (atE L 0).2 0) ∧ ∃ v', RefTo w w' mb v v' (takeH mo L 0).1 mo (takeH mo L 0).2 := by
  have hb := below2 w (.cells ent0 27) (.cells bad0 55)
  have h0 := h.below hb
  have hk0 : ((w.alloc (.cells ent0 27)).alloc (.cells bad0 55)).heap[w.heap.size]? = some (.cells ent0 27 (0, 0)) := ((below1 (w.alloc (.cells ent0 27)) (.cells bad0 55)).block _ (by simp)).trans (heap_alloc_new w _)
  have hk1 : ((w.alloc (.cells ent0 27)).alloc (.cells bad0 55)).heap[w.heap.size + 1]? = some (.cells bad0 55 (0, 0)) := by
    have := heap_alloc_new (w.alloc (.cells ent0 27)) (.cells bad0 55)
    rwa [show (w.alloc (.cells ent0 27)).heap.size = w.heap.size + 1 by simp] at this
  have kt := rtake_some mb v L mo mv n (atE L 0).2 _ h0 0 (findE_zero (by omega)) hn hL
  obtain ⟨g, cap, rfl, ho⟩ := h0.row.some (by omega)
  have c0 := h0.cell0
  obtain ⟨_, d1⟩ := ent_cells ho rfl (i := 0) (by omega)
  rw [Nat.zero_mul] at d1
  rw [hn] at c0
  have HH := Bx.mk (And.intro h (And.intro hb (And.intro hk0 hk1)))
  obtain ⟨r, hr⟩ : ∃ x, (atE L 0).1 = x := ⟨_, rfl⟩
  obtain ⟨t, ht⟩ : ∃ x, (atE L 0).2 = x := ⟨_, rfl⟩
  rw [hr, ht] at kt ⊢
  rw [ht] at d1
  have z1 : ((n : Int) + 1 == 0) = false := by simp; omega
  have z0 : (0 : Int) < (n : Int) + 1 := by omega
  obtain ⟨vv, hvv⟩ : ∃ vv, Value.slice (some ⟨g, 0, none⟩) L.length cap = vv := ⟨_, rfl⟩
  rw [hvv] at kt HH ⊢
  clear h h0 hb hk0 hk1 ho hr ht hvv
  go_enter Tryd.func52, Tryd.ntmps52
  go_wp2_with fail
  refine kt.mono ?_
  rintro e w7 ⟨rfl, v', h7⟩
  obtain ⟨B, hB⟩ : ∃ B, w.heap.size = B := ⟨_, rfl⟩
  have HB := Bx.mk hB
  rw [hB] at HH
  simp only [hB]
  clear hB
  have hBn : ∀ x, B ≤ x → x ∉ rfoot mb vv := fun x h1 hm => by
    have := HH.out.1.footLt x hm
    have := HB.out
    omega
  have e0 := (h7.t.block B (block_lt HH.out.2.2.1) (hBn B (Nat.le_refl _))).trans HH.out.2.2.1
  have e1 := (h7.t.block (B + 1) (block_lt HH.out.2.2.2) (hBn (B + 1) (by omega))).trans HH.out.2.2.2
  have E1 := Bx.mk e1
  have z0 := cells_at E1.out 0 _ rfl
  have z1 := cells_at E1.out 1 _ rfl
  have z2 := cells_at E1.out 2 _ rfl
  have z3 := cells_at E1.out 3 _ rfl
  have z4 := cells_at E1.out 4 _ rfl
  have y0 := cells_free E1.out 0
  have y1 := cells_free E1.out 1
  have y2 := cells_free E1.out 2
  have y3 := cells_free E1.out 3
  have y4 := cells_free E1.out 4
  have q0 := cells_at e0 0 _ rfl
  have q1 := cells_at e0 1 _ rfl
  have p0 := cells_free e0 0
  have p1 := cells_free e0 1
  obtain ⟨w9, hw9, hb0, hb1, ht9⟩ := told_two r t e0 e1
  have hBm : ∀ x, B ≤ x → x ≤ B + 1 → x ∉ rfoot mb v' := fun x h1 h2 hm => by
    rcases rfoot_step h7.r x hm with h3 | h3
    · exact hBn x h1 h3
    · have := block_lt HH.out.2.2.2
      omega
  have HG := Bx.mk (And.intro hb0 (And.intro hb1 ((h7.from (w0 := w) (by rw [HB.out]; exact HH.out.2.1)).aside2 (fun x hx => by
    rw [HB.out]
    simp only [List.mem_cons, List.not_mem_nil, or_false] at hx
    rcases hx with rfl | rfl
    · exact ⟨Nat.le_refl _, hBm _ (Nat.le_refl _) (by omega)⟩
    · exact ⟨by omega, hBm _ (by omega) (Nat.le_refl _)⟩) ht9)))
  rw [hw9] at HG
  clear hw9 hb0 hb1 ht9 hBn hBm e0 e1 h7 kt c0 d1
  go_wp2
  exact bodyPost_ret (results_entbad rfl _ _ B (B + 1) r t 0 0 0 false false rfl rfl HG.out.1 HG.out.2.1) rfl ⟨rfl, _, HG.out.2.2⟩
end Go.Proofs.YtlodgmmhaolmaaaDoor
