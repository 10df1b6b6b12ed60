/- The statement AccNone: calls on nil accumulators. Conditions: errors.errorType and the table of powers of ten hold what the program's text lays in them. -/
import Derived.Test.YtaolkcbbkanhbaaGreatDoorAcN
set_option linter.unusedSimpArgs false
set_option linter.unusedVariables false
namespace Go.Proofs.YtaolkcbbkanhbaaGreatDoor
open Go.RowKit
theorem results_told {fn : Func} {p : Tmp} (h : fn.results = #[.cell p 46]) (tmps : Array Value) (w : World) (R : Nat) (a b c : Value) (hp : tmps[p]?.getD undef = .pointer (some ⟨R, 0, none⟩)) (h0 : w.cell? ⟨R, 0, none⟩ = some a) (h1 : w.cell? ⟨R, 1, none⟩ = some b) (h2 : w.cell? ⟨R, 2, none⟩ = some c) :
    (results fn tmps).run Tryz.prog w = .ok (.agg #[a, b, c]) w := by
  simp [results, h, go_sem, hp, h0, h1, h2]
theorem set3_cells {w : World} {R : Nat} {T : TypeId} {a b c : Value} (h : w.heap[R]? = some (.cells #[a, b, c] T (0, 0))) (x y z : Value) :
    (((w.setCell ⟨R, 0, none⟩ x).setCell ⟨R, 1, none⟩ y).setCell ⟨R, 2, none⟩ z).heap[R]? = some (.cells #[x, y, z] T (0, 0)) :=
  cells_set (cells_set (cells_set h 0 x) 1 y) 2 z
set_option maxHeartbeats 4000000 in
set_option maxRecDepth 100000 in
theorem radd_nil (s : List UInt8) (t n : Int) (w : World) : Calls Tryz.prog 30 #[.pointer none, strV s, .int .i64 t, .int .i64 n] w fun e w' => e = .returned (badV 1) ∧ Below w.heap.size w w' := by
  have hbk := heap_alloc_new w badO
  have hb1 := below1 w badO
  have HB : Bx _ := ⟨And.intro hb1 (And.intro hbk (show w.heap.size < (w.alloc badO).heap.size by simp))⟩
  clear hb1 hbk
  go_enter Tryz.func30, Tryz.ntmps30
  go_upto_region 1 with (fail)
  change Code.wp _ _ _ _ (w.alloc badO)
  generalize (w.alloc badO) = w1 at *
  go_wp2_with fail
  refine (rnew_any 1 w1).mono ?_
  rintro e w2 ⟨rfl, hb2⟩
  have hbk := (hb2.block _ HB.out.2.2).trans HB.out.2.1
  have e0 := cells_at hbk 0 _ rfl
  have e1 := cells_at hbk 1 _ rfl
  have e2 := cells_at hbk 2 _ rfl
  have e3 := cells_at hbk 3 _ rfl
  have e4 := cells_at hbk 4 _ rfl
  have f0 := cells_free hbk 0
  have f1 := cells_free hbk 1
  have f2 := cells_free hbk 2
  have f3 := cells_free hbk 3
  have f4 := cells_free hbk 4
  have H2 : Bx _ := ⟨And.intro (HB.out.1.trans (hb2.mono HB.out.1.size)) hbk⟩
  clear hbk hb2
  go_wp2
  have h4 := set5_cells H2.out.2 (.int .i64 1) (.int .i64 0) (.int .i64 0) (.bool false) (.bool false)
  exact bodyPost_ret (results_bad1 rfl _ _ w.heap.size _ _ _ _ _ rfl (cells_at h4 0 _ rfl) (cells_at h4 1 _ rfl) (cells_at h4 2 _ rfl) (cells_at h4 3 _ rfl) (cells_at h4 4 _ rfl)) rfl ⟨rfl, ((((H2.out.1.setCell (Nat.le_refl _) _).setCell (Nat.le_refl _) _).setCell (Nat.le_refl _) _).setCell (Nat.le_refl _) _).setCell (Nat.le_refl _) _⟩
set_option maxHeartbeats 4000000 in
set_option maxRecDepth 100000 in
theorem rrem_nil (s : List UInt8) (t : Int) (w : World) : Calls Tryz.prog 31 #[.pointer none, strV s, .int .i64 t] w fun e w' => e = .returned (badV 1) ∧ Below w.heap.size w w' := by
  have hbk := heap_alloc_new w badO
  have hb1 := below1 w badO
  have HB : Bx _ := ⟨And.intro hb1 (And.intro hbk (show w.heap.size < (w.alloc badO).heap.size by simp))⟩
  clear hb1 hbk
  go_enter Tryz.func31, Tryz.ntmps31
  go_upto_region 1 with (fail)
  change Code.wp _ _ _ _ (w.alloc badO)
  generalize (w.alloc badO) = w1 at *
  go_wp2_with fail
  refine (rnew_any 1 w1).mono ?_
  rintro e w2 ⟨rfl, hb2⟩
  have hbk := (hb2.block _ HB.out.2.2).trans HB.out.2.1
  have e0 := cells_at hbk 0 _ rfl
  have e1 := cells_at hbk 1 _ rfl
  have e2 := cells_at hbk 2 _ rfl
  have e3 := cells_at hbk 3 _ rfl
  have e4 := cells_at hbk 4 _ rfl
  have f0 := cells_free hbk 0
  have f1 := cells_free hbk 1
  have f2 := cells_free hbk 2
  have f3 := cells_free hbk 3
  have f4 := cells_free hbk 4
  have H2 : Bx _ := ⟨And.intro (HB.out.1.trans (hb2.mono HB.out.1.size)) hbk⟩
  clear hbk hb2
  go_wp2
  have h4 := set5_cells H2.out.2 (.int .i64 1) (.int .i64 0) (.int .i64 0) (.bool false) (.bool false)
  exact bodyPost_ret (results_bad1 rfl _ _ w.heap.size _ _ _ _ _ rfl (cells_at h4 0 _ rfl) (cells_at h4 1 _ rfl) (cells_at h4 2 _ rfl) (cells_at h4 3 _ rfl) (cells_at h4 4 _ rfl)) rfl ⟨rfl, ((((H2.out.1.setCell (Nat.le_refl _) _).setCell (Nat.le_refl _) _).setCell (Nat.le_refl _) _).setCell (Nat.le_refl _) _).setCell (Nat.le_refl _) _⟩
set_option maxHeartbeats 4000000 in
set_option maxRecDepth 100000 in
theorem rslot_nil (w : World) : Calls Tryz.prog 32 #[.pointer none] w fun e w' => e = .returned (.agg #[.bool false, .int .i64 0, .int .i64 0, .int .u64 0]) ∧ Below w.heap.size w w' := by
  have hbk := heap_alloc_new w (.cells #[.bool false, .int .i64 0, .int .i64 0, .int .u64 0] 40)
  have hb1 := below1 w (.cells #[.bool false, .int .i64 0, .int .i64 0, .int .u64 0] 40)
  have HB : Bx _ := ⟨And.intro hb1 (And.intro hbk (show w.heap.size < (w.alloc (.cells #[.bool false, .int .i64 0, .int .i64 0, .int .u64 0] 40)).heap.size by simp))⟩
  have e0 := cells_at hbk 0 _ rfl
  have e1 := cells_at hbk 1 _ rfl
  have e2 := cells_at hbk 2 _ rfl
  have e3 := cells_at hbk 3 _ rfl
  have f0 := cells_free hbk 0
  have f1 := cells_free hbk 1
  have f2 := cells_free hbk 2
  have f3 := cells_free hbk 3
  clear hb1 hbk
  go_enter Tryz.func32, Tryz.ntmps32
  go_upto_region 1 with (fail)
  change Code.wp _ _ _ _ (w.alloc (.cells #[.bool false, .int .i64 0, .int .i64 0, .int .u64 0] 40))
  generalize (w.alloc (.cells #[.bool false, .int .i64 0, .int .i64 0, .int .u64 0] 40)) = w1 at *
  go_wp2
  have h4 := set4_cells HB.out.2.1 (.bool false) (.int .i64 0) (.int .i64 0) (.int .u64 0)
  exact bodyPost_ret (results_slot rfl _ _ w.heap.size _ _ _ _ rfl (cells_at h4 0 _ rfl) (cells_at h4 1 _ rfl) (cells_at h4 2 _ rfl) (cells_at h4 3 _ rfl)) rfl ⟨rfl, (((HB.out.1.setCell (Nat.le_refl _) _).setCell (Nat.le_refl _) _).setCell (Nat.le_refl _) _).setCell (Nat.le_refl _) _⟩
set_option maxHeartbeats 4000000 in
set_option maxRecDepth 100000 in
theorem rvalue_nil (w : World) : Calls Tryz.prog 33 #[.pointer none] w fun e w' => e = .returned (.agg #[.bool false, .int .u8 0, .int .i64 0]) ∧ Below w.heap.size w w' := by
  have hbk := heap_alloc_new w (.cells #[.bool false, .int .u8 0, .int .i64 0] 46)
  have hb1 := below1 w (.cells #[.bool false, .int .u8 0, .int .i64 0] 46)
  have HB : Bx _ := ⟨And.intro hb1 (And.intro hbk (show w.heap.size < (w.alloc (.cells #[.bool false, .int .u8 0, .int .i64 0] 46)).heap.size by simp))⟩
  have e0 := cells_at hbk 0 _ rfl
  have e1 := cells_at hbk 1 _ rfl
  have e2 := cells_at hbk 2 _ rfl
  have f0 := cells_free hbk 0
  have f1 := cells_free hbk 1
  have f2 := cells_free hbk 2
  clear hb1 hbk
  go_enter Tryz.func33, Tryz.ntmps33
  go_upto_region 1 with (fail)
  change Code.wp _ _ _ _ (w.alloc (.cells #[.bool false, .int .u8 0, .int .i64 0] 46))
  generalize (w.alloc (.cells #[.bool false, .int .u8 0, .int .i64 0] 46)) = w1 at *
  go_wp2
  have h4 := set3_cells HB.out.2.1 (.bool false) (.int .u8 0) (.int .i64 0)
  exact bodyPost_ret (results_told rfl _ _ w.heap.size _ _ _ rfl (cells_at h4 0 _ rfl) (cells_at h4 1 _ rfl) (cells_at h4 2 _ rfl)) rfl ⟨rfl, ((HB.out.1.setCell (Nat.le_refl _) _).setCell (Nat.le_refl _) _).setCell (Nat.le_refl _) _⟩
set_option maxHeartbeats 2000000 in
theorem rlen_nil (w : World) : Calls Tryz.prog 34 #[.pointer none] w fun e w' => e = .returned (.int .i64 0) ∧ w = w' := by
  go_enter Tryz.func34, Tryz.ntmps34
  go_wp2
  go_ret
  exact ⟨rfl, rfl⟩
set_option maxHeartbeats 2000000 in
theorem rfunc_nil (w : World) : Calls Tryz.prog 36 #[.pointer none] w fun e w' => e = .returned (.int .u8 0) ∧ w = w' := by
  go_enter Tryz.func36, Tryz.ntmps36
  go_wp2
  go_ret
  exact ⟨rfl, rfl⟩
set_option maxHeartbeats 2000000 in
theorem afunc_nil (w : World) : Calls Tryz.prog 35 #[.pointer none] w fun e w' => e = .returned (.int .u8 0) ∧ w = w' := by
  go_enter Tryz.func35, Tryz.ntmps35
  go_wp2
  go_ret
  exact ⟨rfl, rfl⟩
set_option maxHeartbeats 2000000 in
theorem afork_nil (w : World) : Calls Tryz.prog 21 #[.pointer none] w fun e w' => e = .returned (.pointer none) ∧ w = w' := by
  go_enter Tryz.func21, Tryz.ntmps21
  go_wp2
  go_ret
  exact ⟨rfl, rfl⟩
set_option maxHeartbeats 4000000 in
set_option maxRecDepth 100000 in
theorem avalue_nil (w : World) : Calls Tryz.prog 15 #[.pointer none] w fun e w' => e = .returned (.agg #[.bool false, .int .u8 0, .int .i64 0]) ∧ Below w.heap.size w w' := by
  have hbk := heap_alloc_new w (.cells #[.bool false, .int .u8 0, .int .i64 0] 46)
  have hb1 := below1 w (.cells #[.bool false, .int .u8 0, .int .i64 0] 46)
  have HB : Bx _ := ⟨And.intro hb1 (And.intro hbk (show w.heap.size < (w.alloc (.cells #[.bool false, .int .u8 0, .int .i64 0] 46)).heap.size by simp))⟩
  clear hb1 hbk
  go_enter Tryz.func15, Tryz.ntmps15
  go_upto_region 1 with (fail)
  change Code.wp _ _ _ _ (w.alloc (.cells #[.bool false, .int .u8 0, .int .i64 0] 46))
  generalize (w.alloc (.cells #[.bool false, .int .u8 0, .int .i64 0] 46)) = w1 at *
  go_wp2_with fail
  refine (aslot_nil w1).mono ?_
  rintro e w2 ⟨rfl, hb2⟩
  have hb3 := below1 w2 (.cells #[.bool false, .int .i64 0, .int .i64 0, .int .u64 0] 40)
  have hbk := (hb3.block _ (Nat.lt_of_lt_of_le HB.out.2.2 hb2.size)).trans ((hb2.block _ HB.out.2.2).trans HB.out.2.1)
  have e0 := cells_at hbk 0 _ rfl
  have e1 := cells_at hbk 1 _ rfl
  have e2 := cells_at hbk 2 _ rfl
  have f0 := cells_free hbk 0
  have f1 := cells_free hbk 1
  have f2 := cells_free hbk 2
  have hq := heap_alloc_new w2 (.cells #[.bool false, .int .i64 0, .int .i64 0, .int .u64 0] 40)
  have g0 := cells_at hq 0 _ rfl
  have g1 := cells_at hq 1 _ rfl
  have g2 := cells_at hq 2 _ rfl
  have g3 := cells_at hq 3 _ rfl
  have H2 : Bx _ := ⟨And.intro (HB.out.1.trans ((hb2.trans (hb3.mono hb2.size)).mono HB.out.1.size)) hbk⟩
  clear hbk hb2 hb3 hq
  go_upto_region 2 with (fail)
  change Code.wp _ _ _ _ (w2.alloc (.cells #[.bool false, .int .i64 0, .int .i64 0, .int .u64 0] 40))
  generalize (w2.alloc (.cells #[.bool false, .int .i64 0, .int .i64 0, .int .u64 0] 40)) = w3 at *
  go_wp2
  have h4 := set3_cells H2.out.2 (.bool false) (.int .u8 0) (.int .i64 0)
  exact bodyPost_ret (results_told rfl _ _ w.heap.size _ _ _ rfl (cells_at h4 0 _ rfl) (cells_at h4 1 _ rfl) (cells_at h4 2 _ rfl)) rfl ⟨rfl, ((H2.out.1.setCell (Nat.le_refl _) _).setCell (Nat.le_refl _) _).setCell (Nat.le_refl _) _⟩
set_option maxHeartbeats 4000000 in
set_option maxRecDepth 100000 in
theorem step_nil (k : Int) (s : List UInt8) (t n : Int) (w : World) (hG : Glob w) : Calls Tryz.prog 19 #[.pointer none, .pointer none, .agg #[.int .i64 k, strV s, .int .i64 t, .int .i64 n]] w fun e w' => e = .returned (.bool true) ∧ Below w.heap.size w w' := by
  have hbk := heap_alloc_new w (.cells #[.int .i64 k, strV s, .int .i64 t, .int .i64 n] 33)
  have hb1 := below1 w (.cells #[.int .i64 k, strV s, .int .i64 t, .int .i64 n] 33)
  have HG : Bx _ := ⟨And.intro hG hG.lt⟩
  have e0 := cells_at hbk 0 _ rfl
  have e1 := cells_at hbk 1 _ rfl
  have e2 := cells_at hbk 2 _ rfl
  have e3 := cells_at hbk 3 _ rfl
  have HB : Bx _ := ⟨hb1⟩
  clear hb1 hbk hG
  go_enter Tryz.func19, Tryz.ntmps19
  go_upto_region 1 with (fail)
  change Code.wp _ _ _ _ (w.alloc (.cells #[.int .i64 k, strV s, .int .i64 t, .int .i64 n] 33))
  generalize (w.alloc (.cells #[.int .i64 k, strV s, .int .i64 t, .int .i64 n] 33)) = w1 at *
  by_cases h0 : k = 0
  · subst h0
    go_wp2_with fail
    refine (aadd_nil s t n w1).mono ?_
    rintro e w2 ⟨rfl, rfl⟩
    go_wp2_with fail
    refine (radd_nil s t n w1).mono ?_
    rintro e w2 ⟨rfl, hb2⟩
    have H2 : Bx _ := ⟨HB.out.trans (hb2.mono HB.out.size)⟩
    clear hb2
    have ks := same_E 1 w2 (HG.out.1.below H2.out HG.out.2) (by decide)
    go_wp2_with fail
    refine ks.mono ?_
    rintro e w3 ⟨rfl, hb3⟩
    have H3 : Bx _ := ⟨H2.out.trans (hb3.mono H2.out.size)⟩
    clear ks hb3
    go_wp2
    go_ret
    exact ⟨rfl, H3.out⟩
  · by_cases h1 : k = 1
    · subst h1
      go_wp2_with fail
      refine (arem_nil s t w1).mono ?_
      rintro e w2 ⟨rfl, rfl⟩
      go_wp2_with fail
      refine (rrem_nil s t w1).mono ?_
      rintro e w2 ⟨rfl, hb2⟩
      have H2 : Bx _ := ⟨HB.out.trans (hb2.mono HB.out.size)⟩
      clear hb2
      have ks := same_E 1 w2 (HG.out.1.below H2.out HG.out.2) (by decide)
      go_wp2_with fail
      refine ks.mono ?_
      rintro e w3 ⟨rfl, hb3⟩
      have H3 : Bx _ := ⟨H2.out.trans (hb3.mono H2.out.size)⟩
      clear ks hb3
      go_wp2
      go_ret
      exact ⟨rfl, H3.out⟩
    · have d0 : (k == 0) = false := beq_eq_false_iff_ne.2 h0
      have d1 : (k == 1) = false := beq_eq_false_iff_ne.2 h1
      clear h0 h1
      go_wp2
      go_ret
      exact ⟨rfl, HB.out⟩
set_option maxHeartbeats 4000000 in
set_option maxRecDepth 100000 in
theorem alike_nil (w : World) : Calls Tryz.prog 20 #[.pointer none, .pointer none] w fun e w' => e = .returned (.bool true) ∧ Below w.heap.size w w' := by
  have H0 : Bx (Below w.heap.size w w) := ⟨Below.refl _ _⟩
  go_enter Tryz.func20, Tryz.ntmps20
  go_wp2_with fail
  refine (aslot_nil _).mono ?_
  rintro e w1 ⟨rfl, hb⟩
  have HH1 : Bx _ := ⟨H0.out.trans (hb.mono H0.out.size)⟩
  clear hb
  go_wp2_with fail
  refine (rslot_nil _).mono ?_
  rintro e w2 ⟨rfl, hb⟩
  have HH2 : Bx _ := ⟨HH1.out.trans (hb.mono HH1.out.size)⟩
  clear hb
  go_wp2_with fail
  refine (avalue_nil _).mono ?_
  rintro e w3 ⟨rfl, hb⟩
  have HH3 : Bx _ := ⟨HH2.out.trans (hb.mono HH2.out.size)⟩
  clear hb
  go_wp2_with fail
  refine (rvalue_nil _).mono ?_
  rintro e w4 ⟨rfl, hb⟩
  have HH4 : Bx _ := ⟨HH3.out.trans (hb.mono HH3.out.size)⟩
  clear hb
  go_wp2_with fail
  refine (alen_nil _).mono ?_
  rintro e _ ⟨rfl, rfl⟩
  go_wp2_with fail
  refine (rlen_nil _).mono ?_
  rintro e _ ⟨rfl, rfl⟩
  go_wp2_with fail
  refine (afunc_nil _).mono ?_
  rintro e _ ⟨rfl, rfl⟩
  go_wp2_with fail
  refine (rfunc_nil _).mono ?_
  rintro e _ ⟨rfl, rfl⟩
  go_wp2
  go_ret
  exact ⟨rfl, HH4.out⟩
/-- a row of calls -/
structure StepRow (w : World) (A : Option Addr) (n : Nat) (kd : Nat → Int) (sr : Nat → List UInt8) (tm nb : Nat → Int) : Prop where
  row : 0 < n → ∃ b off, A = some ⟨b, off, none⟩ ∧ ∀ i, i < n → w.cell? ⟨b, off + i * 4, none⟩ = some (.int .i64 (kd i)) ∧ w.cell? ⟨b, off + i * 4 + 1, none⟩ = some (strV (sr i)) ∧ w.cell? ⟨b, off + i * 4 + 2, none⟩ = some (.int .i64 (tm i)) ∧ w.cell? ⟨b, off + i * 4 + 3, none⟩ = some (.int .i64 (nb i))
theorem StepRow.below {w w' : World} {A : Option Addr} {n : Nat} {kd : Nat → Int} {sr : Nat → List UInt8} {tm nb : Nat → Int} (h : StepRow w A n kd sr tm nb) (hb : Below w.heap.size w w') : StepRow w' A n kd sr tm nb where
  row := fun hn => by
    obtain ⟨b, off, e, hr⟩ := h.row hn
    refine ⟨b, off, e, fun i hi => ?_⟩
    obtain ⟨a0, a1, a2, a3⟩ := hr i hi
    exact ⟨by rw [hb.cell (cell_lt a0)]; exact a0, by rw [hb.cell (cell_lt a1)]; exact a1, by rw [hb.cell (cell_lt a2)]; exact a2, by rw [hb.cell (cell_lt a3)]; exact a3⟩
set_option maxHeartbeats 4000000 in
set_option maxRecDepth 100000 in
theorem none_law (A : Option Addr) (n cap : Nat) (kd : Nat → Int) (sr : Nat → List UInt8) (tm nb : Nat → Int) (w : World) (hn : n ≤ 9223372036854775806) (hR : StepRow w A n kd sr tm nb) (hG : Glob w) (hT : TabP w) :
    Calls Tryz.prog 9 #[.slice A n cap] w fun e w' => e = .returned (.bool true) ∧ Below w.heap.size w w' := by
  have HR : Bx _ := ⟨And.intro hR (And.intro hG (And.intro hG.lt hT))⟩
  clear hR hG hT
  go_enter Tryz.func9, Tryz.ntmps9
  go_wp2_with fail
  refine (live_any w HR.out.2.1 HR.out.2.2.2).mono ?_
  rintro e w1 ⟨rfl, hb1⟩
  have H1 : Bx _ := ⟨hb1⟩
  clear hb1
  go_wp2_with fail
  go_loopw [4] (fun i wr => ∃ j : Nat, i = .int .i64 (j : Int) ∧ j ≤ n ∧ Bx (Below w.heap.size w wr)) (fun i _ => n - (intOf i).toNat)
  case atStart => exact ⟨0, rfl, by omega, ⟨H1.out⟩⟩
  case round =>
    obtain ⟨j, rfl, hj, HW⟩ := hrel
    by_cases hlt : j < n
    · obtain ⟨b, off, rfl, hr⟩ := (HR.out.1.below HW.out).row (by omega)
      obtain ⟨a0, a1, a2, a3⟩ := hr j hlt
      clear hr
      have ks := step_nil (kd j) (sr j) (tm j) (nb j) wr (HR.out.2.1.below HW.out HR.out.2.2.1)
      generalize kd j = kj at *
      generalize sr j = sj at *
      generalize tm j = tj at *
      generalize nb j = nj at *
      go_wp2_with fail
      refine ks.mono ?_
      rintro e w2 ⟨rfl, hb2⟩
      have H2 : Bx (Below w.heap.size w w2) := ⟨HW.out.trans (hb2.mono HW.out.size)⟩
      clear hb2 ks a0 a1 a2 a3
      go_wp2_with fail
      exact ⟨⟨j + 1, by rw [Int.natCast_succ], by omega, H2⟩, by simp only [intOf]; omega⟩
    · obtain rfl : j = n := by omega
      go_wp2_with fail
      refine (afork_nil wr).mono ?_
      rintro e _ ⟨rfl, rfl⟩
      go_wp2_with fail
      refine (alike_nil wr).mono ?_
      rintro e w3 ⟨rfl, hb3⟩
      have H3 : Bx (Below w.heap.size w w3) := ⟨HW.out.trans (hb3.mono HW.out.size)⟩
      clear hb3
      go_wp2
      go_ret
      exact ⟨rfl, H3.out⟩
end Go.Proofs.YtaolkcbbkanhbaaGreatDoor
