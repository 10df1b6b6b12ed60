/- Verify: Bound. Verify, the document's answer: Heights, Rises, Bound. Verify: Rises. -/
import Derived.Test.YtbcajmkmadgbhaaGreatDoorVrT
import Derived.Test.YtbcajmkmadgbhaaGreatDoorVrDp
set_option linter.unusedSimpArgs false
set_option linter.unusedVariables false
namespace Go.Proofs.YtbcajmkmadgbhaaGreatDoor
section
open Go.RowKit
/-- what Bound hands back -/
noncomputable def bndV (D : PrgD) : Value := match verF D with
  | none => .tuple #[.int .i64 (D.filter.length : Nat), .int .i64 (D.output.length : Nat), .nilIface]
  | some x => .tuple #[.int .i64 0, .int .i64 0, verV (some x)]
set_option maxHeartbeats 4000000 in
set_option maxRecDepth 100000 in
theorem vbound_any (D : PrgD) (L : PLoc) (w : World) (hM : PrgM w D L) (hB : PrgB D) (hG : GlobK w) (hT : TabU w) :
    Calls Tryz.prog 16 #[prgV D L] w fun e w' => e = .returned (bndV D) ∧ Below w.heap.size w w' := by
  have H0 : Bx _ := ⟨HdB.alloc w D L 28 hM hG⟩
  have HB : Bx _ := ⟨And.intro hB hT⟩
  clear hM hG hB hT
  go_enter Tryz.func16, Tryz.ntmps16
  go_upto_region 1 with (fail)
  generalize (w.alloc (.cells (prgC D L) 28)) = w0 at *
  generalize hS : w.heap.size = S at *
  have HZ : Bx (w.heap.size = S) := ⟨hS⟩
  clear hS
  have p0 := H0.out.box.cell 0 _ rfl
  have p1 := H0.out.box.cell 1 _ rfl
  have p2 := H0.out.box.cell 2 _ rfl
  have p3 := H0.out.box.cell 3 _ rfl
  have p4 := H0.out.box.cell 4 _ rfl
  have p5 := H0.out.box.cell 5 _ rfl
  have p6 := H0.out.box.cell 6 _ rfl
  have p7 := H0.out.box.cell 7 _ rfl
  have p8 := H0.out.box.cell 8 _ rfl
  have p9 := H0.out.box.cell 9 _ rfl
  have p10 := H0.out.box.cell 10 _ rfl
  have p11 := H0.out.box.cell 11 _ rfl
  have p12 := H0.out.box.cell 12 _ rfl
  have p13 := H0.out.box.cell 13 _ rfl
  have kp := program_any D L w0 H0.out.mem HB.out.1 H0.out.glob (HB.out.2.below (by rw [HZ.out]; exact H0.out.below))
  cases hv : verF D with
  | some x =>
    obtain ⟨c, o⟩ := x
    obtain ⟨T, u, hu⟩ := verV_some (o := o) (verF_pos hv)
    rw [hv, hu] at kp
    have HE : Bx (bndV D = .tuple #[.int .i64 0, .int .i64 0, .iface T u]) := ⟨by unfold bndV; rw [hv]; simp only; rw [hu]⟩
    clear hv hu
    go_wp2_with fail
    refine kp.mono ?_
    rintro e w1 ⟨rfl, hb⟩
    have H1 : Bx _ := ⟨H0.out.step hb⟩
    clear hb kp p0 p1 p2 p3 p4 p5 p6 p7 p8 p9 p10 p11 p12 p13
    go_wp2
    go_ret3
    exact ⟨by rw [HE.out]; rfl, by rw [HZ.out]; exact H1.out.below⟩
  | none =>
    rw [hv] at kp
    have HE : Bx (bndV D = .tuple #[.int .i64 (D.filter.length : Nat), .int .i64 (D.output.length : Nat), .nilIface]) := ⟨by unfold bndV; rw [hv]⟩
    clear hv
    go_wp2_with fail
    refine kp.mono ?_
    rintro e w1 ⟨rfl, hb⟩
    have H1 : Bx _ := ⟨H0.out.step hb⟩
    clear hb kp p0 p1 p2 p3 p4 p5 p6 p7 p8 p9 p10 p11 p12 p13
    simp only [verV]
    have p12 := H1.out.box.cell 12 _ rfl
    have p13 := H1.out.box.cell 13 _ rfl
    go_wp2_with fail
    go_quiet (fail)
    have H2 : Bx (∀ n, HdB w (w1.drewN n) S D L) := ⟨fun n => H1.out.step ⟨rfl, rfl, rfl, Nat.le_refl _, fun _ _ => rfl⟩⟩
    go_wp2
    go_ret3
    exact ⟨by rw [HE.out]; rfl, by rw [HZ.out]; exact (H2.out _).below⟩
end
section
open Go.RowKit
/-- what the document's Heights hands back -/
def RhtOut (w w' : World) (D : PrgD) (l : List InsD) (v : Value) : Prop := match verF D with
  | none => ∃ ls A, heiF l 0 hs0 = .inr ls ∧ v = .tuple #[.slice A ls.length ls.length, badV 0] ∧ I64L w' A ls
  | some x => v = .tuple #[.slice none 0 0, verB (some x)]
/-- what an error's cells are -/
theorem verB_cells {c : Int} {o : Option Nat} : ∃ n b, verB (some (c, o)) = .agg #[.int .i64 c, .int .i64 n, .int .i64 0, .bool b, .bool false] := by
  cases o with
  | none => exact ⟨0, false, rfl⟩
  | some n => exact ⟨n, true, rfl⟩
noncomputable def rbdV (D : PrgD) : Value := match verF D with
  | none => .tuple #[.int .i64 (D.filter.length : Nat), .int .i64 (D.output.length : Nat), badV 0]
  | some x => .tuple #[.int .i64 0, .int .i64 0, verB (some x)]
set_option maxHeartbeats 8000000 in
set_option maxRecDepth 100000 in
theorem rhts_any (D : PrgD) (L : PLoc) (w : World) (hM : PrgM w D L) (hB : PrgB D) (hG : GlobK w) :
    Calls Tryz.prog 12 #[prgV D L] w fun e w' => ∃ v, e = .returned v ∧ RhtOut w w' D D.filter v ∧ Below w.heap.size w w' := by
  have H0 : Bx _ := ⟨EcB.alloc w D L 28 60 hM⟩
  have HB : Bx _ := ⟨And.intro hB hG⟩
  clear hM hG hB
  go_enter Tryz.func12, Tryz.ntmps12
  go_upto_region 1 with (fail)
  generalize ((w.alloc (.cells (prgC D L) 28)).alloc (.cells #[.int .i64 0, .int .i64 0, .int .i64 0, .bool false, .bool false] 60)) = w0 at *
  generalize hS : w.heap.size = S at *
  have HZ : Bx (w.heap.size = S) := ⟨hS⟩
  clear hS
  have p0 := H0.out.box.cell 0 _ rfl
  have p1 := H0.out.box.cell 1 _ rfl
  have p2 := H0.out.box.cell 2 _ rfl
  have p3 := H0.out.box.cell 3 _ rfl
  have p4 := H0.out.box.cell 4 _ rfl
  have p5 := H0.out.box.cell 5 _ rfl
  have p6 := H0.out.box.cell 6 _ rfl
  have p7 := H0.out.box.cell 7 _ rfl
  have p8 := H0.out.box.cell 8 _ rfl
  have p9 := H0.out.box.cell 9 _ rfl
  have p10 := H0.out.box.cell 10 _ rfl
  have p11 := H0.out.box.cell 11 _ rfl
  have p12 := H0.out.box.cell 12 _ rfl
  have p13 := H0.out.box.cell 13 _ rfl
  have kp := rprogram_any D L w0 H0.out.mem HB.out.1 (HB.out.2.below (by rw [HZ.out]; exact H0.out.below))
  cases hv : verF D with
  | some x =>
    obtain ⟨c, o⟩ := x
    obtain ⟨nn, bb, hu⟩ := verB_cells (c := c) (o := o)
    have hc1 := verF_pos hv
    have hcb : (c == 0) = false := by simp; omega
    have hcb2 : (c != 0) = true := by simp; omega
    rw [hv, hu] at kp
    have HE : Bx _ := ⟨And.intro hv hu⟩
    clear hv hu
    go_wp2_with fail
    refine kp.mono ?_
    rintro e w1 ⟨rfl, hb⟩
    have HC4 : Bx _ := ⟨CB.new w1 #[.int .i64 c, .int .i64 nn, .int .i64 0, .bool bb, .bool false] 60⟩
    have H1 : Bx _ := ⟨(H0.out.step hb).step (below1 w1 (.cells #[.int .i64 c, .int .i64 nn, .int .i64 0, .bool bb, .bool false] 60))⟩
    clear hb kp p0 p1 p2 p3 p4 p5 p6 p7 p8 p9 p10 p11 p12 p13
    go_upto_region 2 with (fail)
    generalize (w1.alloc (.cells #[.int .i64 c, .int .i64 nn, .int .i64 0, .bool bb, .bool false] 60)) = w2 at *
    generalize w1.heap.size = NB at *
    have n0 := HC4.out.at 0 _ rfl
    have n1 := HC4.out.at 1 _ rfl
    have n2 := HC4.out.at 2 _ rfl
    have n3 := HC4.out.at 3 _ rfl
    have n4 := HC4.out.at 4 _ rfl
    go_wp2_with fail
    obtain ⟨⟨z0, z1, z2, z3, z4⟩, y⟩ := bad_zy H1.out.bad
    have y0 := y 0
    have y1 := y 1
    have y2 := y 2
    have y3 := y 3
    have y4 := y 4
    clear y
    go_region
    go_wp2
    refine bodyPost_ret (v := .tuple #[.slice none 0 0, .agg #[.int .i64 c, .int .i64 nn, .int .i64 0, .bool bb, .bool false]]) (by simp [results, Tryz.results12, go_sem, z0, z1, z2, z3, z4, y0, y1, y2, y3, y4]; first | done | rfl) rfl ?_
    exact ⟨_, rfl, by unfold RhtOut; rw [HE.out.1]; simp only; rw [HE.out.2], by rw [HZ.out]; exact (bset5 H1.out.below _ _ _ _ _).drew⟩
  | none =>
    rw [hv] at kp
    have HV : Bx _ := ⟨hv⟩
    clear hv
    simp only [verB] at kp
    go_wp2_with fail
    refine kp.mono ?_
    rintro e w1 ⟨rfl, hb⟩
    have HC4 : Bx _ := ⟨CB.new w1 badC 60⟩
    have H1 : Bx _ := ⟨(H0.out.step hb).step (below1 w1 (.cells badC 60))⟩
    clear hb kp p0 p1 p2 p3 p4 p5 p6 p7 p8 p9 p10 p11 p12 p13
    go_upto_region 2 with (fail)
    generalize (w1.alloc (.cells #[.int .i64 0, .int .i64 0, .int .i64 0, .bool false, .bool false] 60)) = w2 at *
    generalize w1.heap.size = NB at *
    have n0 := HC4.out.at 0 _ rfl
    obtain ⟨hp, hf1, hf2, ⟨ls1, hl1⟩, ⟨ls2, hl2⟩, _⟩ := verF_none HV.out
    have p12 := H1.out.box.cell 12 _ rfl
    have kh := rheights_any L.af D.filter L.cf 0 w2 H1.out.mem.filter HB.out.1.filter (formF_none hf1).1 (formF_none hf1).2.1 (by decide) (Nat.le_trans hp.fi (by decide))
    have hln := (hei_ok (formF_none hf1).1 hl1).len
    rw [hei_eq (formF_none hf1).1 (formF_none hf1).2.1, hl1] at kh
    have HLS : Bx _ := ⟨And.intro hl1 (show ls1.length ≤ 65536 by rw [hln]; exact hp.fi)⟩
    have kh' : Calls Tryz.prog 22 #[.slice L.af D.filter.length L.cf, .int .i64 0] w2 fun e w' => ∃ b, e = .returned (.tuple #[.slice (some ⟨b, 0, none⟩) ls1.length ls1.length, badV 0]) ∧ (LB w' b (intC ls1) ∧ w2.heap.size ≤ b) ∧ Below w2.heap.size w2 w' := kh.mono fun e w' h => by obtain ⟨v, h1, ⟨b, h2, h4, h5⟩, h3⟩ := h; exact ⟨b, by rw [h1, h2], ⟨h4, h5⟩, h3⟩
    clear hp hf1 hf2 hl1 hl2 hln kh
    go_wp2_with fail
    refine kh'.mono ?_
    rintro e w3 ⟨b, rfl, hlb, hb⟩
    have H3 : Bx _ := ⟨H1.out.step hb⟩
    have HLB : Bx _ := ⟨And.intro hlb (show S + 1 < w2.heap.size from by obtain ⟨T, h0⟩ := H1.out.bad; exact block_lt h0)⟩
    clear hb hlb kh' n0 p12
    obtain ⟨⟨z0, z1, z2, z3, z4⟩, y⟩ := bad_zy H3.out.bad
    have y0 := y 0
    have y1 := y 1
    have y2 := y 2
    have y3 := y 3
    have y4 := y 4
    clear y
    go_wp2
    refine bodyPost_ret (v := .tuple #[.slice (some ⟨b, 0, none⟩) ls1.length ls1.length, badV 0]) (by simp [results, Tryz.results12, go_sem, z0, z1, z2, z3, z4, y0, y1, y2, y3, y4]; first | done | rfl) rfl ?_
    have hne : b ≠ S + 1 := by have := HLB.out.1.2; have := HLB.out.2; omega
    exact ⟨_, rfl, by unfold RhtOut; rw [HV.out]; exact ⟨_, _, HLS.out.1, rfl, i64_of_lb (((((HLB.out.1.1.other hne).other hne).other hne).other hne).other hne) (by have := HLS.out.2; omega)⟩, by rw [HZ.out]; exact bset5 H3.out.below _ _ _ _ _⟩
set_option maxHeartbeats 8000000 in
set_option maxRecDepth 100000 in
theorem rrises_any (D : PrgD) (L : PLoc) (w : World) (hM : PrgM w D L) (hB : PrgB D) (hG : GlobK w) :
    Calls Tryz.prog 13 #[prgV D L] w fun e w' => ∃ v, e = .returned v ∧ RhtOut w w' D D.output v ∧ Below w.heap.size w w' := by
  have H0 : Bx _ := ⟨EcB.alloc w D L 28 60 hM⟩
  have HB : Bx _ := ⟨And.intro hB hG⟩
  clear hM hG hB
  go_enter Tryz.func13, Tryz.ntmps13
  go_upto_region 1 with (fail)
  generalize ((w.alloc (.cells (prgC D L) 28)).alloc (.cells #[.int .i64 0, .int .i64 0, .int .i64 0, .bool false, .bool false] 60)) = w0 at *
  generalize hS : w.heap.size = S at *
  have HZ : Bx (w.heap.size = S) := ⟨hS⟩
  clear hS
  have p0 := H0.out.box.cell 0 _ rfl
  have p1 := H0.out.box.cell 1 _ rfl
  have p2 := H0.out.box.cell 2 _ rfl
  have p3 := H0.out.box.cell 3 _ rfl
  have p4 := H0.out.box.cell 4 _ rfl
  have p5 := H0.out.box.cell 5 _ rfl
  have p6 := H0.out.box.cell 6 _ rfl
  have p7 := H0.out.box.cell 7 _ rfl
  have p8 := H0.out.box.cell 8 _ rfl
  have p9 := H0.out.box.cell 9 _ rfl
  have p10 := H0.out.box.cell 10 _ rfl
  have p11 := H0.out.box.cell 11 _ rfl
  have p12 := H0.out.box.cell 12 _ rfl
  have p13 := H0.out.box.cell 13 _ rfl
  have kp := rprogram_any D L w0 H0.out.mem HB.out.1 (HB.out.2.below (by rw [HZ.out]; exact H0.out.below))
  cases hv : verF D with
  | some x =>
    obtain ⟨c, o⟩ := x
    obtain ⟨nn, bb, hu⟩ := verB_cells (c := c) (o := o)
    have hc1 := verF_pos hv
    have hcb : (c == 0) = false := by simp; omega
    have hcb2 : (c != 0) = true := by simp; omega
    rw [hv, hu] at kp
    have HE : Bx _ := ⟨And.intro hv hu⟩
    clear hv hu
    go_wp2_with fail
    refine kp.mono ?_
    rintro e w1 ⟨rfl, hb⟩
    have HC4 : Bx _ := ⟨CB.new w1 #[.int .i64 c, .int .i64 nn, .int .i64 0, .bool bb, .bool false] 60⟩
    have H1 : Bx _ := ⟨(H0.out.step hb).step (below1 w1 (.cells #[.int .i64 c, .int .i64 nn, .int .i64 0, .bool bb, .bool false] 60))⟩
    clear hb kp p0 p1 p2 p3 p4 p5 p6 p7 p8 p9 p10 p11 p12 p13
    go_upto_region 2 with (fail)
    generalize (w1.alloc (.cells #[.int .i64 c, .int .i64 nn, .int .i64 0, .bool bb, .bool false] 60)) = w2 at *
    generalize w1.heap.size = NB at *
    have n0 := HC4.out.at 0 _ rfl
    have n1 := HC4.out.at 1 _ rfl
    have n2 := HC4.out.at 2 _ rfl
    have n3 := HC4.out.at 3 _ rfl
    have n4 := HC4.out.at 4 _ rfl
    go_wp2_with fail
    obtain ⟨⟨z0, z1, z2, z3, z4⟩, y⟩ := bad_zy H1.out.bad
    have y0 := y 0
    have y1 := y 1
    have y2 := y 2
    have y3 := y 3
    have y4 := y 4
    clear y
    go_region
    go_wp2
    refine bodyPost_ret (v := .tuple #[.slice none 0 0, .agg #[.int .i64 c, .int .i64 nn, .int .i64 0, .bool bb, .bool false]]) (by simp [results, Tryz.results13, go_sem, z0, z1, z2, z3, z4, y0, y1, y2, y3, y4]; first | done | rfl) rfl ?_
    exact ⟨_, rfl, by unfold RhtOut; rw [HE.out.1]; simp only; rw [HE.out.2], by rw [HZ.out]; exact (bset5 H1.out.below _ _ _ _ _).drew⟩
  | none =>
    rw [hv] at kp
    have HV : Bx _ := ⟨hv⟩
    clear hv
    simp only [verB] at kp
    go_wp2_with fail
    refine kp.mono ?_
    rintro e w1 ⟨rfl, hb⟩
    have HC4 : Bx _ := ⟨CB.new w1 badC 60⟩
    have H1 : Bx _ := ⟨(H0.out.step hb).step (below1 w1 (.cells badC 60))⟩
    clear hb kp p0 p1 p2 p3 p4 p5 p6 p7 p8 p9 p10 p11 p12 p13
    go_upto_region 2 with (fail)
    generalize (w1.alloc (.cells #[.int .i64 0, .int .i64 0, .int .i64 0, .bool false, .bool false] 60)) = w2 at *
    generalize w1.heap.size = NB at *
    have n0 := HC4.out.at 0 _ rfl
    obtain ⟨hp, hf1, hf2, ⟨ls1, hl1⟩, ⟨ls2, hl2⟩, _⟩ := verF_none HV.out
    have p13 := H1.out.box.cell 13 _ rfl
    have kh := rheights_any L.ao D.output L.co 0 w2 H1.out.mem.output HB.out.1.output (formF_none hf2).1 (formF_none hf2).2.1 (by decide) (Nat.le_trans hp.ou (by decide))
    have hln := (hei_ok (formF_none hf2).1 hl2).len
    rw [hei_eq (formF_none hf2).1 (formF_none hf2).2.1, hl2] at kh
    have HLS : Bx _ := ⟨And.intro hl2 (show ls2.length ≤ 65536 by rw [hln]; exact hp.ou)⟩
    have kh' : Calls Tryz.prog 22 #[.slice L.ao D.output.length L.co, .int .i64 0] w2 fun e w' => ∃ b, e = .returned (.tuple #[.slice (some ⟨b, 0, none⟩) ls2.length ls2.length, badV 0]) ∧ (LB w' b (intC ls2) ∧ w2.heap.size ≤ b) ∧ Below w2.heap.size w2 w' := kh.mono fun e w' h => by obtain ⟨v, h1, ⟨b, h2, h4, h5⟩, h3⟩ := h; exact ⟨b, by rw [h1, h2], ⟨h4, h5⟩, h3⟩
    clear hp hf1 hf2 hl1 hl2 hln kh
    go_wp2_with fail
    refine kh'.mono ?_
    rintro e w3 ⟨b, rfl, hlb, hb⟩
    have H3 : Bx _ := ⟨H1.out.step hb⟩
    have HLB : Bx _ := ⟨And.intro hlb (show S + 1 < w2.heap.size from by obtain ⟨T, h0⟩ := H1.out.bad; exact block_lt h0)⟩
    clear hb hlb kh' n0 p13
    obtain ⟨⟨z0, z1, z2, z3, z4⟩, y⟩ := bad_zy H3.out.bad
    have y0 := y 0
    have y1 := y 1
    have y2 := y 2
    have y3 := y 3
    have y4 := y 4
    clear y
    go_wp2
    refine bodyPost_ret (v := .tuple #[.slice (some ⟨b, 0, none⟩) ls2.length ls2.length, badV 0]) (by simp [results, Tryz.results13, go_sem, z0, z1, z2, z3, z4, y0, y1, y2, y3, y4]; first | done | rfl) rfl ?_
    have hne : b ≠ S + 1 := by have := HLB.out.1.2; have := HLB.out.2; omega
    exact ⟨_, rfl, by unfold RhtOut; rw [HV.out]; exact ⟨_, _, HLS.out.1, rfl, i64_of_lb (((((HLB.out.1.1.other hne).other hne).other hne).other hne).other hne) (by have := HLS.out.2; omega)⟩, by rw [HZ.out]; exact bset5 H3.out.below _ _ _ _ _⟩
set_option maxHeartbeats 8000000 in
set_option maxRecDepth 100000 in
theorem rbound_any (D : PrgD) (L : PLoc) (w : World) (hM : PrgM w D L) (hB : PrgB D) (hG : GlobK w) :
    Calls Tryz.prog 17 #[prgV D L] w fun e w' => e = .returned (rbdV D) ∧ Below w.heap.size w w' := by
  have H0 : Bx _ := ⟨EcB.alloc w D L 28 60 hM⟩
  have HB : Bx _ := ⟨And.intro hB hG⟩
  clear hM hG hB
  go_enter Tryz.func17, Tryz.ntmps17
  go_upto_region 1 with (fail)
  generalize ((w.alloc (.cells (prgC D L) 28)).alloc (.cells #[.int .i64 0, .int .i64 0, .int .i64 0, .bool false, .bool false] 60)) = w0 at *
  generalize hS : w.heap.size = S at *
  have HZ : Bx (w.heap.size = S) := ⟨hS⟩
  clear hS
  have p0 := H0.out.box.cell 0 _ rfl
  have p1 := H0.out.box.cell 1 _ rfl
  have p2 := H0.out.box.cell 2 _ rfl
  have p3 := H0.out.box.cell 3 _ rfl
  have p4 := H0.out.box.cell 4 _ rfl
  have p5 := H0.out.box.cell 5 _ rfl
  have p6 := H0.out.box.cell 6 _ rfl
  have p7 := H0.out.box.cell 7 _ rfl
  have p8 := H0.out.box.cell 8 _ rfl
  have p9 := H0.out.box.cell 9 _ rfl
  have p10 := H0.out.box.cell 10 _ rfl
  have p11 := H0.out.box.cell 11 _ rfl
  have p12 := H0.out.box.cell 12 _ rfl
  have p13 := H0.out.box.cell 13 _ rfl
  have kp := rprogram_any D L w0 H0.out.mem HB.out.1 (HB.out.2.below (by rw [HZ.out]; exact H0.out.below))
  cases hv : verF D with
  | some x =>
    obtain ⟨c, o⟩ := x
    obtain ⟨nn, bb, hu⟩ := verB_cells (c := c) (o := o)
    have hc1 := verF_pos hv
    have hcb : (c == 0) = false := by simp; omega
    have hcb2 : (c != 0) = true := by simp; omega
    rw [hv, hu] at kp
    have HE : Bx _ := ⟨And.intro hv hu⟩
    clear hv hu
    go_wp2_with fail
    refine kp.mono ?_
    rintro e w1 ⟨rfl, hb⟩
    have HC4 : Bx _ := ⟨CB.new w1 #[.int .i64 c, .int .i64 nn, .int .i64 0, .bool bb, .bool false] 60⟩
    have H1 : Bx _ := ⟨(H0.out.step hb).step (below1 w1 (.cells #[.int .i64 c, .int .i64 nn, .int .i64 0, .bool bb, .bool false] 60))⟩
    clear hb kp p0 p1 p2 p3 p4 p5 p6 p7 p8 p9 p10 p11 p12 p13
    go_upto_region 2 with (fail)
    generalize (w1.alloc (.cells #[.int .i64 c, .int .i64 nn, .int .i64 0, .bool bb, .bool false] 60)) = w2 at *
    generalize w1.heap.size = NB at *
    have n0 := HC4.out.at 0 _ rfl
    have n1 := HC4.out.at 1 _ rfl
    have n2 := HC4.out.at 2 _ rfl
    have n3 := HC4.out.at 3 _ rfl
    have n4 := HC4.out.at 4 _ rfl
    go_wp2_with fail
    obtain ⟨⟨z0, z1, z2, z3, z4⟩, y⟩ := bad_zy H1.out.bad
    have y0 := y 0
    have y1 := y 1
    have y2 := y 2
    have y3 := y 3
    have y4 := y 4
    clear y
    go_region
    go_wp2
    refine bodyPost_ret (v := .tuple #[.int .i64 0, .int .i64 0, .agg #[.int .i64 c, .int .i64 nn, .int .i64 0, .bool bb, .bool false]]) (by simp [results, Tryz.results17, go_sem, z0, z1, z2, z3, z4, y0, y1, y2, y3, y4]; first | done | rfl) rfl ?_
    exact ⟨by unfold rbdV; rw [HE.out.1]; simp only; rw [HE.out.2], by rw [HZ.out]; exact (bset5 H1.out.below _ _ _ _ _).drew⟩
  | none =>
    rw [hv] at kp
    have HV : Bx _ := ⟨hv⟩
    clear hv
    simp only [verB] at kp
    go_wp2_with fail
    refine kp.mono ?_
    rintro e w1 ⟨rfl, hb⟩
    have HC4 : Bx _ := ⟨CB.new w1 badC 60⟩
    have H1 : Bx _ := ⟨(H0.out.step hb).step (below1 w1 (.cells badC 60))⟩
    clear hb kp p0 p1 p2 p3 p4 p5 p6 p7 p8 p9 p10 p11 p12 p13
    go_upto_region 2 with (fail)
    generalize (w1.alloc (.cells #[.int .i64 0, .int .i64 0, .int .i64 0, .bool false, .bool false] 60)) = w2 at *
    generalize w1.heap.size = NB at *
    have n0 := HC4.out.at 0 _ rfl
    have HE : Bx (rbdV D = .tuple #[.int .i64 (D.filter.length : Nat), .int .i64 (D.output.length : Nat), badV 0]) := ⟨by unfold rbdV; rw [HV.out]⟩
    have p12 := H1.out.box.cell 12 _ rfl
    have p13 := H1.out.box.cell 13 _ rfl
    go_wp2_with fail
    obtain ⟨⟨z0, z1, z2, z3, z4⟩, y⟩ := bad_zy H1.out.bad
    have y0 := y 0
    have y1 := y 1
    have y2 := y 2
    have y3 := y 3
    have y4 := y 4
    clear y
    go_region
    go_wp2
    refine bodyPost_ret (v := .tuple #[.int .i64 (D.filter.length : Nat), .int .i64 (D.output.length : Nat), badV 0]) (by simp [results, Tryz.results17, go_sem, z0, z1, z2, z3, z4, y0, y1, y2, y3, y4]; first | done | rfl) rfl ?_
    exact ⟨by rw [HE.out], by rw [HZ.out]; exact (bset5 H1.out.below _ _ _ _ _).drew⟩
end
section
open Go.RowKit
set_option maxHeartbeats 4000000 in
set_option maxRecDepth 100000 in
theorem vrises_any (D : PrgD) (L : PLoc) (w : World) (hM : PrgM w D L) (hB : PrgB D) (hG : GlobK w) (hT : TabU w) :
    Calls Tryz.prog 7 #[prgV D L] w fun e w' => ∃ v, e = .returned v ∧ HtsOut w w' D D.output v ∧ Below w.heap.size w w' := by
  have H0 : Bx _ := ⟨HdB.alloc w D L 28 hM hG⟩
  have HB : Bx _ := ⟨And.intro hB hT⟩
  clear hM hG hB hT
  go_enter Tryz.func7, Tryz.ntmps7
  go_upto_region 1 with (fail)
  generalize (w.alloc (.cells (prgC D L) 28)) = w0 at *
  generalize hS : w.heap.size = S at *
  have HZ : Bx (w.heap.size = S) := ⟨hS⟩
  clear hS
  have p0 := H0.out.box.cell 0 _ rfl
  have p1 := H0.out.box.cell 1 _ rfl
  have p2 := H0.out.box.cell 2 _ rfl
  have p3 := H0.out.box.cell 3 _ rfl
  have p4 := H0.out.box.cell 4 _ rfl
  have p5 := H0.out.box.cell 5 _ rfl
  have p6 := H0.out.box.cell 6 _ rfl
  have p7 := H0.out.box.cell 7 _ rfl
  have p8 := H0.out.box.cell 8 _ rfl
  have p9 := H0.out.box.cell 9 _ rfl
  have p10 := H0.out.box.cell 10 _ rfl
  have p11 := H0.out.box.cell 11 _ rfl
  have p12 := H0.out.box.cell 12 _ rfl
  have p13 := H0.out.box.cell 13 _ rfl
  have kp := program_any D L w0 H0.out.mem HB.out.1 H0.out.glob (HB.out.2.below (by rw [HZ.out]; exact H0.out.below))
  cases hv : verF D with
  | some x =>
    obtain ⟨c, o⟩ := x
    obtain ⟨T, u, hu⟩ := verV_some (o := o) (verF_pos hv)
    rw [hv, hu] at kp
    have HE : Bx (∀ w1, HtsOut w w1 D D.output (.tuple #[.slice none 0 0, .iface T u])) := ⟨fun w1 => by unfold HtsOut; rw [hv]; simp only; rw [hu]⟩
    clear hv hu
    go_wp2_with fail
    refine kp.mono ?_
    rintro e w1 ⟨rfl, hb⟩
    have H1 : Bx _ := ⟨H0.out.step hb⟩
    clear hb kp p0 p1 p2 p3 p4 p5 p6 p7 p8 p9 p10 p11 p12 p13
    go_wp2
    go_ret2
    exact ⟨_, rfl, HE.out _, by rw [HZ.out]; exact H1.out.below⟩
  | none =>
    rw [hv] at kp
    have HV : Bx _ := ⟨hv⟩
    clear hv
    go_wp2_with fail
    refine kp.mono ?_
    rintro e w1 ⟨rfl, hb⟩
    have H1 : Bx _ := ⟨H0.out.step hb⟩
    clear hb kp p0 p1 p2 p3 p4 p5 p6 p7 p8 p9 p10 p11 p12 p13
    simp only [verV]
    have p0 := H1.out.box.cell 0 _ rfl
    have p1 := H1.out.box.cell 1 _ rfl
    have p2 := H1.out.box.cell 2 _ rfl
    have p3 := H1.out.box.cell 3 _ rfl
    have p4 := H1.out.box.cell 4 _ rfl
    have p5 := H1.out.box.cell 5 _ rfl
    have p6 := H1.out.box.cell 6 _ rfl
    have p7 := H1.out.box.cell 7 _ rfl
    have p8 := H1.out.box.cell 8 _ rfl
    have p9 := H1.out.box.cell 9 _ rfl
    have p10 := H1.out.box.cell 10 _ rfl
    have p11 := H1.out.box.cell 11 _ rfl
    have p12 := H1.out.box.cell 12 _ rfl
    have p13 := H1.out.box.cell 13 _ rfl
    go_wp2_with fail
    refine (machines_any D L w1).mono ?_
    rintro e w2 ⟨mb, rfl, _, hcb, hb⟩
    have H2 : Bx _ := ⟨And.intro (H1.out.step hb) hcb⟩
    clear hb hcb p0 p1 p2 p3 p4 p5 p6 p7 p8 p9 p10 p11 p12 p13
    have m0 : w2.cell? ⟨mb, 3, none⟩ = some (.slice L.ao D.output.length L.co) := H2.out.2.at 3 _ rfl
    have m1 : w2.cell? ⟨mb, 4, none⟩ = some (.bool false) := H2.out.2.at 4 _ rfl
    have m2 : w2.cell? ⟨mb, 5, none⟩ = some (.int .i64 (D.filter.length : Nat)) := H2.out.2.at 5 _ rfl
    have kh : Calls Tryz.prog 26 #[machV L.ao D.output.length L.co false (D.filter.length : Nat)] w2 fun e w' => ∃ ls A c, heiF D.output 0 hs0 = .inr ls ∧ e = .returned (.tuple #[.slice A ls.length c, .nilIface]) ∧ (I64L w' A ls ∧ ∀ b off, A = some ⟨b, off, none⟩ → w2.heap.size ≤ b) ∧ Below w2.heap.size w2 w' := by
      obtain ⟨hp, hf1, hf2, _, ⟨ls, hls⟩, _⟩ := verF_none HV.out
      have h := heights_any L.ao D.output L.co false D.filter.length w2 H2.out.1.mem.output HB.out.1.output (fun i hi => by obtain ⟨j, hj⟩ := List.getElem?_of_mem hi; exact ((formF_none hf2).2.2 j i hj).1) (Nat.le_trans hp.fi (by decide)) (Nat.le_trans hp.ou (by decide))
      rw [hls] at h
      refine h.mono ?_
      rintro e w' ⟨v, rfl, ⟨o, rfl, ho⟩, hb⟩
      obtain ⟨A, c, rfl, hi⟩ := i64_of_owns ho
      exact ⟨ls, A, c, hls, rfl, hi, hb⟩
    go_wp2_with fail
    refine kh.mono ?_
    rintro e w3 ⟨ls, A, c, hls, rfl, hi, hb⟩
    have H3 : Bx _ := ⟨And.intro (H2.out.1.step hb) (And.intro hls hi)⟩
    clear hb kh hls hi m0 m1 m2
    go_wp2
    go_ret2
    exact ⟨_, rfl, by unfold HtsOut; rw [HV.out]; exact ⟨ls, A, c, H3.out.2.1, rfl, H3.out.2.2.1, fun b off e => Nat.le_trans (by rw [HZ.out]; exact Nat.le_of_lt H2.out.1.box.lt) (H3.out.2.2.2 b off e)⟩, by rw [HZ.out]; exact H3.out.1.below⟩
end
end Go.Proofs.YtbcajmkmadgbhaaGreatDoor
