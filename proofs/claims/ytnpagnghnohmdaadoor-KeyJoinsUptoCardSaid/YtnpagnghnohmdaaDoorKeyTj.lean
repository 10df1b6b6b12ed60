/- The statement KeyTags. Rows of tags and of texts among a statement's arguments, by their bulk. -/
import Derived.Test.YtnpagnghnohmdaaDoorKeyTi
import Derived.Test.YtnpagnghnohmdaaDoorKeyOs
import Derived.Test.YtnpagnghnohmdaaDoorLawK
set_option linter.unusedSimpArgs false
set_option linter.unusedVariables false
namespace Go.Proofs.YtnpagnghnohmdaaDoor
section
open Go.RowKit
theorem rows_len {ps : List (List UInt8 × List UInt8)} {m : Nat} {tk tv : Nat → List UInt8} (hl : ∀ i, i < m → (tk i).length ≤ 9223372036854775807 ∧ (tv i).length ≤ 9223372036854775807) (h : ps = srtT tk tv m) : ∀ p ∈ ps, p.1.length ≤ 9223372036854775807 ∧ p.2.length ≤ 9223372036854775807 := by
  subst h
  induction m with
  | zero => intro p hp; cases hp
  | succ m ih => exact putT_mem (ih (fun i hi => hl i (by omega))) (hl m (by omega))
theorem joinS_len {nm vl : Nat → List UInt8} {m : Nat} (hl : ∀ i, i < m → (nm i).length ≤ 9223372036854775807 ∧ (vl i).length ≤ 9223372036854775807) : ∀ p ∈ joinS nm vl m, p.1.length ≤ 9223372036854775807 ∧ p.2.length ≤ 9223372036854775807 := by
  refine rows_len ?_ rfl
  intro i hi
  rw [List.getD_eq_getElem?_getD, List.getElem?_eq_getElem hi]
  exact joinL_mem (P := fun p => p.1.length ≤ 9223372036854775807 ∧ p.2.length ≤ 9223372036854775807) hl _ (List.getElem_mem hi)
set_option maxHeartbeats 8000000 in
set_option maxRecDepth 100000 in
theorem tags_law (A : Option Addr) (n cap : Nat) (A1 : Option Addr) (N1 c1 : Nat) (A2 : Option Addr) (N2 c2 : Nat) (tk tv nm vl : Nat → List UInt8) (w : World) (hr : TagRow w A n tk tv) (h1 : TxtRow w A1 N1 nm) (h2 : TxtRow w A2 N2 vl) (hn : n ≤ 1048576) (hN1 : N1 ≤ 1048576) (hN2 : N2 ≤ 1048576)
    (hl : ∀ i, i < min N1 N2 → (nm i).length ≤ 9223372036854775807 ∧ (vl i).length ≤ 9223372036854775807) (hA : A = none → n = 0 ∧ cap = 0) (hG : GlobK w) :
    Calls Tryd.prog 11 #[.slice A n cap, .slice A1 N1 c1, .slice A2 N2 c2] w fun e w' => e = .returned (.bool true) ∧ Below w.heap.size w w' := by
  have HR : Bx _ := ⟨And.intro hr (And.intro h1 (And.intro h2 hG))⟩
  have HJ : Bx _ := ⟨hl⟩
  have kl := lent_any A n cap tk tv w hr (by omega) hA
  clear hr h1 h2 hG hl hA
  go_enter Tryd.func11, Tryd.ntmps11
  go_wp2_with fail
  refine kl.mono ?_
  rintro e w1 ⟨M, capm, rfl, HL⟩
  have HLB : Bx _ := ⟨HL⟩
  clear kl HL
  go_wp2_with fail
  go_loopw [8] (fun i wr => ∃ k : Nat, k ≤ N1 ∧ i = .int .i64 k ∧ Bx (Below w.heap.size w wr ∧ Below w1.heap.size w1 wr)) (fun i _ => N1 - (intOf i).toNat)
  case atStart => exact ⟨0, by omega, rfl, ⟨HLB.out.below, Below.refl _ _⟩⟩
  case round =>
    obtain ⟨k, hk, rfl, HI⟩ := hrel
    by_cases hlt : k < N1
    · obtain ⟨b, off, rfl, hrow⟩ := (HR.out.2.1.below HI.out.1).row (by omega)
      have r0 := hrow k hlt
      have gR := fun d os => (HR.out.1.below HI.out.1).below (below_regrown wr d os)
      have gM := fun d os => (HLB.out.row.below HI.out.2).below (below_regrown wr d os)
      have ka : ∀ d os, Calls Tryd.prog 36 #[.slice (some ⟨M, 0, none⟩) n capm, strV (nm k)] (Go.Sort.grow (redrawn wr d) os) _ := fun d os => kvalue_any (some ⟨M, 0, none⟩) n capm tk tv (nm k) _ (gM d os) (by omega)
      have kb : ∀ d os, Calls Tryd.prog 37 #[.slice A n cap, strV (nm k)] (Go.Sort.grow (redrawn wr d) os) _ := fun d os => rvalue_any A n cap tk tv (nm k) _ (gR d os) (by omega)
      generalize valF tk tv n (nm k) = V at *
      generalize nm k = K at *
      have q0 := cell_regrown r0
      clear hrow gR gM r0
      go_wp2_with fail
      refine wp_region_quiet_below (by kernel_rfl) (by kernel_rfl) ?_
      repeat (go_big_quiet_step (first | (go_at_call 36; with_reducible exact Calls.regrown_of (ka _ _)) | (go_at_call 37; with_reducible exact Calls.regrown_of (kb _ _))))
      refine wpQuiet_nil ?_
      intro _ hw'
      obtain ⟨⟨dq, osq⟩, hw''⟩ := hw'
      subst hw''
      have HF : Bx (Below w.heap.size w (Go.Sort.grow (redrawn wr dq) osq) ∧ Below w1.heap.size w1 (Go.Sort.grow (redrawn wr dq) osq)) := ⟨HI.out.1.trans ((below_regrown wr dq osq).mono HI.out.1.size), HI.out.2.trans ((below_regrown wr dq osq).mono HI.out.2.size)⟩
      clear ka kb q0 HI
      generalize Go.Sort.grow (redrawn wr dq) osq = w2 at *
      go_wp2_with fail
      exact ⟨⟨k + 1, by omega, by rw [Int.natCast_succ], HF⟩, by simp only [intOf]; omega⟩
    · obtain rfl : k = N1 := by omega
      go_wp2_with fail
      have ks := live_any wr (HR.out.2.2.2.below HI.out.1)
      refine ks.mono ?_
      rintro e w2 ⟨rfl, hb⟩
      have H2 : Bx (Below w.heap.size w w2 ∧ Below w1.heap.size w1 w2) := ⟨HI.out.1.trans (hb.mono HI.out.1.size), HI.out.2.trans (hb.mono HI.out.2.size)⟩
      clear ks hb HI
      have ks := ksort_any (some ⟨M, 0, none⟩) n capm tk tv w2 (HLB.out.row.below H2.out.2) hn
      go_wp2_with fail
      refine ks.mono ?_
      rintro e w3 ⟨v1, rfl, ho1, hb⟩
      have H3 : Bx (Below w.heap.size w w3 ∧ Below w1.heap.size w1 w3) := ⟨H2.out.1.trans (hb.mono H2.out.1.size), H2.out.2.trans (hb.mono H2.out.2.size)⟩
      have HO1 : Bx _ := ⟨ho1⟩
      clear ks ho1 hb
      have ks := rsort_any A n cap tk tv w3 (HR.out.1.below H3.out.1) hn
      go_wp2_with fail
      refine ks.mono ?_
      rintro e w4 ⟨v2, rfl, ho2, hb⟩
      have H4 : Bx (Below w.heap.size w w4 ∧ Below w1.heap.size w1 w4) := ⟨H3.out.1.trans (hb.mono H3.out.1.size), H3.out.2.trans (hb.mono H3.out.2.size)⟩
      have HO2 : Bx _ := ⟨And.intro (HO1.out.kept (grown_below hb none) (no_row _)) ho2⟩
      clear ks ho2 hb HO1
      have hsl := rows_len (m := n) HR.out.1.len rfl
      have hz := srtT_len tk tv n
      obtain ⟨S1, cs1, rfl, hs1⟩ := row_of_owns HO2.out.1 hsl
      obtain ⟨S2, cs2, rfl, hs2⟩ := row_of_owns HO2.out.2 hsl
      have ks := sametags_any S1 S2 _ cs1 _ cs2 _ _ _ _ w4 hs1 hs2 (by omega) (by omega)
      rw [cmpT_self] at ks
      clear hsl hs1 hs2 hz HO2
      generalize (srtT tk tv n).length = Z at *
      go_wp2_with fail
      refine ks.mono ?_
      rintro e w5 ⟨rfl, hb⟩
      have H5 : Bx (Below w.heap.size w w5 ∧ Below w1.heap.size w1 w5) := ⟨H4.out.1.trans (hb.mono H4.out.1.size), H4.out.2.trans (hb.mono H4.out.2.size)⟩
      clear ks hb
      have ks := kgroup_any (some ⟨M, 0, none⟩) A1 n capm k c1 tk tv nm w5 (HLB.out.row.below H5.out.2) (HR.out.2.1.below H5.out.1) (by omega) hN1
      go_wp2_with fail
      refine ks.mono ?_
      rintro e w6 ⟨G1, cg1, rfl, hg1, hb⟩
      have H6 : Bx (Below w.heap.size w w6 ∧ Below w1.heap.size w1 w6) := ⟨H5.out.1.trans (hb.mono H5.out.1.size), H5.out.2.trans (hb.mono H5.out.2.size)⟩
      have HG1 : Bx _ := ⟨hg1⟩
      clear ks hb hg1
      have ks := rgroup_any A A1 n cap k c1 tk tv nm w6 (HR.out.1.below H6.out.1) (HR.out.2.1.below H6.out.1) (by omega) hN1
      go_wp2_with fail
      refine ks.mono ?_
      rintro e w7 ⟨G2, cg2, rfl, hg2, hb⟩
      have H7 : Bx (Below w.heap.size w w7 ∧ Below w1.heap.size w1 w7) := ⟨H6.out.1.trans (hb.mono H6.out.1.size), H6.out.2.trans (hb.mono H6.out.2.size)⟩
      have ks2 := sametexts_any G1 G2 k cg1 cg2 _ w7 (HG1.out.below hb) hg2 (by omega)
      clear ks hb hg2 HG1
      go_wp2_with fail
      refine ks2.mono ?_
      rintro e w8 ⟨rfl, hb⟩
      have H8 : Bx (Below w.heap.size w w8 ∧ Below w1.heap.size w1 w8) := ⟨H7.out.1.trans (hb.mono H7.out.1.size), H7.out.2.trans (hb.mono H7.out.2.size)⟩
      clear ks2 hb
      have ks := kjoin_any A1 A2 k c1 N2 c2 nm vl w8 (HR.out.2.1.below H8.out.1) (HR.out.2.2.1.below H8.out.1) HJ.out hN1 hN2
      go_wp2_with fail
      refine ks.mono ?_
      rintro e w9 ⟨v3, rfl, ho3, hb⟩
      have H9 : Bx (Below w.heap.size w w9 ∧ Below w1.heap.size w1 w9) := ⟨H8.out.1.trans (hb.mono H8.out.1.size), H8.out.2.trans (hb.mono H8.out.2.size)⟩
      have HO3 : Bx _ := ⟨ho3⟩
      clear ks hb ho3
      have ks := rjoin_any A1 A2 k c1 N2 c2 nm vl w9 (HR.out.2.1.below H9.out.1) (HR.out.2.2.1.below H9.out.1) HJ.out hN1 hN2
      go_wp2_with fail
      refine ks.mono ?_
      rintro e w10 ⟨v4, rfl, ho4, hb⟩
      have H10 : Bx (Below w.heap.size w w10 ∧ Below w1.heap.size w1 w10) := ⟨H9.out.1.trans (hb.mono H9.out.1.size), H9.out.2.trans (hb.mono H9.out.2.size)⟩
      have HO4 : Bx _ := ⟨And.intro (HO3.out.kept (grown_below hb none) (no_row _)) ho4⟩
      clear ks hb ho4 HO3
      have hsl := joinS_len HJ.out
      have hz : (joinS nm vl (min k N2)).length ≤ 1048576 := by
        have h1 := srtT_len (fun i => ((joinL nm vl (min k N2)).getD i ([], [])).1) (fun i => ((joinL nm vl (min k N2)).getD i ([], [])).2) (joinL nm vl (min k N2)).length
        have h2 := joinL_len nm vl (min k N2)
        unfold joinS
        omega
      obtain ⟨S3, cs3, rfl, hs1⟩ := row_of_owns HO4.out.1 hsl
      obtain ⟨S4, cs4, rfl, hs2⟩ := row_of_owns HO4.out.2 hsl
      have ks := sametags_any S3 S4 _ cs3 _ cs4 _ _ _ _ w10 hs1 hs2 (by omega) (by omega)
      rw [cmpT_self] at ks
      clear hsl hs1 hs2 hz HO4
      generalize (joinS nm vl (min k N2)).length = Z2 at *
      go_wp2_with fail
      refine ks.mono ?_
      rintro e w11 ⟨rfl, hb⟩
      have H11 : Bx (Below w.heap.size w w11 ∧ Below w1.heap.size w1 w11) := ⟨H10.out.1.trans (hb.mono H10.out.1.size), H10.out.2.trans (hb.mono H10.out.2.size)⟩
      clear ks hb
      have hcl := HLB.out.lt
      have ks := kept_any A n cap M capm tk tv w11 (HR.out.1.below H11.out.1) (HLB.out.row.below H11.out.2) (by rw [H11.out.2.cell (p := ⟨M, n * 2, none⟩) hcl]; exact HLB.out.c0) (by rw [H11.out.2.cell (p := ⟨M, n * 2 + 1, none⟩) hcl]; exact HLB.out.c1) HLB.out.cap (by omega)
      go_wp2_with fail
      refine ks.mono ?_
      rintro e w12 ⟨rfl, hb⟩
      have H12 : Bx (Below w.heap.size w w12 ∧ Below w1.heap.size w1 w12) := ⟨H11.out.1.trans (hb.mono H11.out.1.size), H11.out.2.trans (hb.mono H11.out.2.size)⟩
      clear ks hb
      go_wp2_with fail
      go_ret
      exact ⟨rfl, H12.out.1⟩
end
section
open Go.ChangeShapes Go.WideShapes Go.ChangeAt Go.RowKit Go.Deep
section
variable {H : Type} {enc : TypeId × Value → H}
theorem bulk_pos (d : DataW H) : 1 ≤ Rows.uptoBulk d := by
  cases d with
  | lit l => cases l <;> simp [Rows.uptoBulk]
  | _ => simp [Rows.uptoBulk]
theorem bulk_len (l : List (DataW H)) : l.length ≤ Rows.uptoBulkAll l := by
  induction l with
  | nil => exact Nat.zero_le _
  | cons d l ih => have := bulk_pos d; simp only [Rows.uptoBulkAll, List.length_cons]; omega
set_option maxRecDepth 100000 in
theorem tags_upto {W : World} {r : Reach} {b0 : Nat} {v : Value} {d : DataW H} {p : List MemPlace} (hv : Value.okWide Tryd.prog W r b0 22 v) (h : DataW.Trod enc Tryd.prog W 0 (fun _ => true) true 22 v d p) (hb : Rows.uptoBulk d ≤ 1048576) :
    ∃ A n cap tk tv, v = .slice A n cap ∧ TagRow W A n tk tv ∧ n ≤ 1048576 ∧ (A = none → n = 0 ∧ cap = 0) := by
  obtain ⟨A, n, c0, rfl⟩ := okWide_slice Tryd.underlying22 hv
  obtain ⟨fuel, hf⟩ := h
  rcases open_slice Tryd.underlying22 hf with ⟨hcs, hx⟩ | ⟨a, len, cap, m, k, D, Pl, hcs, _, hl, hm, hmm, hx, hi⟩
  · have hcs : [Value.slice A n c0] = _ := hcs
    simp only [List.cons.injEq, Value.slice.injEq, and_true] at hcs
    obtain ⟨rfl, rfl, rfl⟩ := hcs
    obtain ⟨tk, tv, ht, _⟩ := tags_opened hf
    exact ⟨none, 0, 0, tk, tv, rfl, ht, by omega, fun _ => ⟨rfl, rfl⟩⟩
  · have hcs : [Value.slice A n c0] = _ := hcs
    simp only [List.cons.injEq, Value.slice.injEq, and_true] at hcs
    obtain ⟨rfl, rfl, rfl⟩ := hcs
    obtain ⟨tk, tv, ht, _⟩ := tags_opened hf
    refine ⟨_, n, _, tk, tv, rfl, ht, ?_, fun e => by cases e⟩
    injection hx with hx _
    subst hx
    have := bulk_len ((List.range n).map D)
    simp only [List.length_map, List.length_range, Rows.uptoBulk] at this hb
    omega
set_option maxRecDepth 100000 in
theorem texts_upto {W : World} {r : Reach} {b0 : Nat} {v : Value} {d : DataW H} {p : List MemPlace} (hv : Value.okWide Tryd.prog W r b0 59 v) (h : DataW.Trod enc Tryd.prog W 0 (fun _ => true) true 59 v d p) (hb : Rows.uptoBulk d ≤ 1048576) :
    ∃ A n cap t, v = .slice A n cap ∧ TxtRow W A n t ∧ n ≤ 1048576 ∧ (A = none → n = 0 ∧ cap = 0) ∧ ∀ i, i < n → (t i).length ≤ 9223372036854775807 := by
  obtain ⟨A, n, c0, rfl⟩ := okWide_slice Tryd.underlying59 hv
  obtain ⟨fuel, hf⟩ := h
  rcases open_slice1 Tryd.underlying59 (by kernel_rfl) hf with ⟨hcs, hx⟩ | ⟨a, len, cap, m, k, V, D, Pl, hcs, _, hl, hm, hmm, hx, hi⟩
  · have hcs : [Value.slice A n c0] = _ := hcs
    simp only [List.cons.injEq, Value.slice.injEq, and_true] at hcs
    obtain ⟨rfl, rfl, rfl⟩ := hcs
    exact ⟨none, 0, 0, fun _ => [], rfl, ⟨fun h => absurd h (by omega)⟩, by omega, fun _ => ⟨rfl, rfl⟩, fun i hi => absurd hi (by omega)⟩
  · have hcs : [Value.slice A n c0] = _ := hcs
    simp only [List.cons.injEq, Value.slice.injEq, and_true] at hcs
    obtain ⟨rfl, rfl, rfl⟩ := hcs
    simp only [if_true] at hmm
    have hs : ∀ i, i < n → ∃ s : ByteArray, V i = .string s ∧ s.size ≤ 9223372036854775807 := fun i hin => by
      obtain ⟨_, t0⟩ := hi i (by omega)
      obtain ⟨s0, e0, _, z0⟩ := DataW.trod_string Tryd.underlying9 t0
      simp only [List.cons.injEq, and_true] at e0
      unfold maxLen at z0
      exact ⟨s0, e0, z0⟩
    let g : Value → List UInt8 := fun v => match v with | .string s => s.data.toList | _ => []
    refine ⟨_, n, _, fun i => g (V i), rfl, ⟨fun hn => ?_⟩, ?_, (fun e => by cases e), fun i hin => ?_⟩
    · obtain ⟨b, off, spot⟩ := a
      have hspot : spot = none := by simpa [Addr.add] using World.cell?_spot (hi 0 (by omega)).1
      subst hspot
      refine ⟨b, off, rfl, fun i hin => ?_⟩
      obtain ⟨c0, _⟩ := hi i (by omega)
      obtain ⟨s0, e0, _⟩ := hs i hin
      rw [Go.WideShapes.add_plain] at c0
      rw [c0, e0]
    · injection hx with hx _
      subst hx
      have := bulk_len ((List.range n).map D)
      simp only [List.length_map, List.length_range, Rows.uptoBulk] at this hb
      omega
    · obtain ⟨s0, e0, z0⟩ := hs i hin
      simp only [g, e0]
      rw [Lib.size_eq] at z0
      exact z0
end
end
end Go.Proofs.YtnpagnghnohmdaaDoor
