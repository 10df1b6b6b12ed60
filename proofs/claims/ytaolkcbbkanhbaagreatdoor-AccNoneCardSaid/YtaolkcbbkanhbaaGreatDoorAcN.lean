/- The statement AccNone: live; calls on nil accumulators. Conditions: errors.errorType and the table of powers of ten hold what the program's text lays in them. -/
import Derived.Test.YtaolkcbbkanhbaaGreatDoorAcG
import Derived.Test.YtaolkcbbkanhbaaGreatDoorSame
set_option linter.unusedSimpArgs false
set_option linter.unusedVariables false
namespace Go.Proofs.YtaolkcbbkanhbaaGreatDoor
open Go.RowKit
open Go.Maps (Keyed)
set_option maxHeartbeats 2000000 in
theorem new_mean (w : World) : Calls Tryz.prog 11 #[.int .u8 3] w fun e w' => e = .returned (.tuple #[.pointer none, errV 2]) ∧ Below w.heap.size w w' := by
  have hmm := @run_makeMap Tryz.prog
  go_enter Tryz.func11, Tryz.ntmps11
  go_wp2_with fail
  refine (fnew_any 2 _ (by decide)).mono ?_
  rintro e w1 ⟨rfl, rfl⟩
  go_wp2
  go_ret2
  exact ⟨rfl, below2 _ _ _⟩
theorem edge_below {w w' : World} {mb hb pm B : Nat} {v : Value} (ht : Turned (mb :: foot hb pm v) w w') (hB : B ≤ w.heap.size) (h1 : B ≤ mb) (h2 : ∀ x ∈ foot hb pm v, B ≤ x) : Below B w w' :=
  ht.below (fun x hx => by rcases List.mem_cons.1 hx with rfl | hx; exact h1; exact h2 x hx) hB
theorem foot_nil' {hb mb S : Nat} (h1 : S ≤ hb) (h2 : S ≤ mb) : ∀ x ∈ foot hb mb (.slice none 0 0), S ≤ x := by
  intro x hx
  simp only [foot, List.mem_cons, Option.mem_toList] at hx
  rcases hx with rfl | rfl | hx
  · exact h1
  · exact h2
  · cases hx
set_option maxHeartbeats 4000000 in
set_option maxRecDepth 100000 in
theorem live_any (w : World) (hG : Glob w) (hT : TabP w) : Calls Tryz.prog 10 #[] w fun e w' => e = .returned (.bool true) ∧ Below w.heap.size w w' := by
  have HG : Bx _ := ⟨And.intro hG (And.intro hG.lt hT)⟩
  have k1 := anew_edge true w
  simp only [edgeF, if_true] at k1
  clear hG hT
  go_enter Tryz.func10, Tryz.ntmps10
  go_wp2_with fail
  refine k1.mono ?_
  rintro e w1 ⟨ab, mb, kb, hb, pm, rfl, hA, hE, hb1, l1, l2, l3, l4, l5, hpm⟩
  have H1 : Bx _ := ⟨And.intro hA (And.intro hE (And.intro hb1 (And.intro l1 (And.intro l2 (And.intro l3 (And.intro l4 (And.intro l5 hpm)))))))⟩
  clear hA hE hb1 l1 l2 l3 l4 l5 k1 hpm
  go_wp2_with fail
  refine (new_mean w1).mono ?_
  rintro e w2 ⟨rfl, hb2⟩
  have H2 : Bx (AccC w2 ab mb 5 (edgeK kb) [] ∧ EdgeAt w2 kb hb pm (.slice none 0 0) true [] [] 0 ∧ Below w.heap.size w w2) := ⟨H1.out.1.below hb2, H1.out.2.1.below hb2, H1.out.2.2.1.trans (hb2.mono H1.out.2.2.1.size)⟩
  clear hb2
  have hT2 := HG.out.2.2.below H2.out.2.2
  have ka := aadd_edge ab mb kb hb pm 5 _ [] true 0 [] [97] 1 5 w2 hT2 H2.out.1 H2.out.2.1 H1.out.2.2.2.2.2.2.2.2 rfl (by simp) (by decide) (by simp)
  go_wp2_with fail
  refine ka.mono ?_
  rintro e w3 ⟨rfl, hA, ⟨v', H', mv', hE, hr⟩, ht⟩
  have hb3 : Below w.heap.size w2 w3 := edge_below ht H2.out.2.2.size H1.out.2.2.2.2.1 (foot_nil' H1.out.2.2.2.2.2.2.1 H1.out.2.2.2.2.2.2.2.1)
  have H3 : Bx _ := ⟨And.intro hA (And.intro hE (H2.out.2.2.trans hb3))⟩
  clear ka hA hE hr ht hb3 hT2
  have hT3 := HG.out.2.2.below H3.out.2.2
  have ka := aadd_known ab mb 5 (edgeK kb) _ [97] 1 6 w3 hT3 H3.out.1 rfl (by simp) (by decide)
  go_wp2_with fail
  refine ka.mono ?_
  rintro e w4 ⟨rfl, hb4⟩
  have H4 : Bx (AccC w4 ab mb 5 (edgeK kb) ([] ++ [([97], 1, 5)]) ∧ EdgeAt w4 kb hb pm v' true ([] ++ [([97], 1, 5)]) H' mv' ∧ Below w.heap.size w w4) := ⟨H3.out.1.below hb4, H3.out.2.1.below hb4, H3.out.2.2.trans (hb4.mono H3.out.2.2.size)⟩
  clear ka hb4 hT3
  have ki := is_E 2 2 w4 (HG.out.1.below H4.out.2.2 HG.out.2.1) (by decide) rfl
  go_wp2_with fail
  refine ki.mono ?_
  rintro e w5 ⟨rfl, hb5⟩
  have H5 : Bx (AccC w5 ab mb 5 (edgeK kb) ([] ++ [([97], 1, 5)]) ∧ EdgeAt w5 kb hb pm v' true ([] ++ [([97], 1, 5)]) H' mv' ∧ Below w.heap.size w w5) := ⟨H4.out.1.below hb5, H4.out.2.1.below hb5, H4.out.2.2.trans (hb5.mono H4.out.2.2.size)⟩
  clear ki hb5
  have ki := is_E 5 5 w5 (HG.out.1.below H5.out.2.2 HG.out.2.1) (by decide) rfl
  go_wp2_with fail
  refine ki.mono ?_
  rintro e w6 ⟨rfl, hb6⟩
  have H6 : Bx (AccC w6 ab mb 5 (edgeK kb) ([] ++ [([97], 1, 5)]) ∧ EdgeAt w6 kb hb pm v' true ([] ++ [([97], 1, 5)]) H' mv' ∧ Below w.heap.size w w6) := ⟨H5.out.1.below hb6, H5.out.2.1.below hb6, H5.out.2.2.trans (hb6.mono H5.out.2.2.size)⟩
  clear ki hb6
  have kl := alen_any ab mb 5 _ _ w6 H6.out.1
  go_wp2_with fail
  refine kl.mono ?_
  rintro e w7 ⟨rfl, rfl⟩
  have ks := aslot_edge ab mb kb hb pm 5 v' H' true mv' _ w6 H6.out.1 H6.out.2.1 (by simp) (by simp)
  have htop : (atE H' 0).1 = 5 := by
    obtain ⟨_, ⟨o, ho, e⟩, _⟩ := H6.out.2.1.inh.top H6.out.2.1.ok (by simp)
    simp at ho
    rw [← e, ho]; rfl
  rw [htop] at ks
  clear kl htop
  go_wp2_with fail
  refine ks.mono ?_
  rintro e w8 ⟨rfl, hb8⟩
  have H8 : Bx (Below w.heap.size w w8) := ⟨H6.out.2.2.trans (hb8.mono H6.out.2.2.size)⟩
  clear ks hb8
  go_wp2
  go_ret
  exact ⟨rfl, H8.out⟩
/-! calls on nil -/
set_option maxHeartbeats 2000000 in
theorem aadd_nil (s : List UInt8) (t n : Int) (w : World) : Calls Tryz.prog 12 #[.pointer none, strV s, .int .i64 t, .int .i64 n] w fun e w' => e = .returned (errV 1) ∧ w = w' := by
  go_enter Tryz.func12, Tryz.ntmps12
  go_wp2_with fail
  refine (fnew_any 1 _ (by decide)).mono ?_
  rintro e w1 ⟨rfl, rfl⟩
  go_wp2
  go_ret
  exact ⟨rfl, rfl⟩
set_option maxHeartbeats 2000000 in
theorem arem_nil (s : List UInt8) (t : Int) (w : World) : Calls Tryz.prog 17 #[.pointer none, strV s, .int .i64 t] w fun e w' => e = .returned (errV 1) ∧ w = w' := by
  go_enter Tryz.func17, Tryz.ntmps17
  go_wp2_with fail
  refine (fnew_any 1 _ (by decide)).mono ?_
  rintro e w1 ⟨rfl, rfl⟩
  go_wp2
  go_ret
  exact ⟨rfl, rfl⟩
/-- the cells of an error that is told -/
theorem results_bad1 {fn : Func} {p : Tmp} (h : fn.results = #[.cell p 97]) (tmps : Array Value) (w : World) (R : Nat) (a b c d e : Value) (hp : tmps[p]?.getD undef = .pointer (some ⟨R, 0, none⟩)) (h0 : w.cell? ⟨R, 0, none⟩ = some a) (h1 : w.cell? ⟨R, 1, none⟩ = some b) (h2 : w.cell? ⟨R, 2, none⟩ = some c) (h3 : w.cell? ⟨R, 3, none⟩ = some d) (h4 : w.cell? ⟨R, 4, none⟩ = some e) :
    (results fn tmps).run Tryz.prog w = .ok (.agg #[a, b, c, d, e]) w := by
  simp [results, h, go_sem, hp, h0, h1, h2, h3, h4]
theorem set5_cells {w : World} {R : Nat} {T : TypeId} {a b c d e : Value} (h : w.heap[R]? = some (.cells #[a, b, c, d, e] T (0, 0))) (x y z u v : Value) :
    (((((w.setCell ⟨R, 0, none⟩ x).setCell ⟨R, 1, none⟩ y).setCell ⟨R, 2, none⟩ z).setCell ⟨R, 3, none⟩ u).setCell ⟨R, 4, none⟩ v).heap[R]? = some (.cells #[x, y, z, u, v] T (0, 0)) :=
  cells_set (cells_set (cells_set (cells_set (cells_set h 0 x) 1 y) 2 z) 3 u) 4 v
abbrev badO : Obj := .cells #[.int .i64 0, .int .i64 0, .int .i64 0, .bool false, .bool false] 97
set_option maxHeartbeats 4000000 in
set_option maxRecDepth 100000 in
theorem rnew_any (c : Int) (w : World) : Calls Tryz.prog 43 #[.int .i64 c] w fun e w' => e = .returned (badV c) ∧ Below w.heap.size w w' := by
  have hbk := heap_alloc_new w badO
  have hb1 := below1 w badO
  have e0 := cells_at hbk 0 _ rfl
  have e1 := cells_at hbk 1 _ rfl
  have e2 := cells_at hbk 2 _ rfl
  have e3 := cells_at hbk 3 _ rfl
  have e4 := cells_at hbk 4 _ rfl
  have f0 := cells_free hbk 0
  have f1 := cells_free hbk 1
  have f2 := cells_free hbk 2
  have f3 := cells_free hbk 3
  have f4 := cells_free hbk 4
  have HB : Bx _ := ⟨And.intro hb1 hbk⟩
  clear hbk hb1
  go_enter Tryz.func43, Tryz.ntmps43
  go_upto_region 1 with (fail)
  change Code.wp _ _ _ _ (w.alloc badO)
  generalize (w.alloc badO) = w1 at *
  go_wp2
  have h4 := set5_cells HB.out.2 (.int .i64 c) (.int .i64 0) (.int .i64 0) (.bool false) (.bool false)
  exact bodyPost_ret (results_bad1 rfl _ _ w.heap.size _ _ _ _ _ rfl (cells_at h4 0 _ rfl) (cells_at h4 1 _ rfl) (cells_at h4 2 _ rfl) (cells_at h4 3 _ rfl) (cells_at h4 4 _ rfl)) rfl ⟨rfl, ((((HB.out.1.setCell (Nat.le_refl _) _).setCell (Nat.le_refl _) _).setCell (Nat.le_refl _) _).setCell (Nat.le_refl _) _).setCell (Nat.le_refl _) _⟩
end Go.Proofs.YtaolkcbbkanhbaaGreatDoor
