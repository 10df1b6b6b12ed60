/- The statement VerifyHeights. Conditions: code.table, the two tables of unicode/utf8 and errors.errorType hold what the program's text lays in them. -/
import Derived.Test.YtbcajmkmadgbhaaGreatDoorVrRf
import Derived.Test.YtbcajmkmadgbhaaGreatDoorVrBd
import Derived.Test.YtbcajmkmadgbhaaGreatDoorVrU
set_option linter.unusedSimpArgs false
set_option linter.unusedVariables false
namespace Go.Proofs.YtbcajmkmadgbhaaGreatDoor
open Go.RowKit
/-- what both tell of heights -/
noncomputable def htsL (D : PrgD) (l : List InsD) : List Int := match verF D with
  | none => (match heiF l 0 hs0 with | .inr ls => ls | .inl _ => [])
  | some _ => []
noncomputable def deaL (D : PrgD) : List Int := match verF D with
  | none => deadL D
  | some _ => []
theorem hts_uni {w w' : World} {D : PrgD} {l : List InsD} {v : Value} (h : HtsOut w w' D l v) : ∃ A c, v = .tuple #[.slice A (htsL D l).length c, verV (verF D)] ∧ I64L w' A (htsL D l) := by
  unfold HtsOut at h
  unfold htsL
  cases hv : verF D with
  | none =>
    rw [hv] at h
    obtain ⟨ls, A, c, h1, h2, h3, _⟩ := h
    simp only [h1]
    exact ⟨A, c, h2, h3⟩
  | some x =>
    rw [hv] at h
    exact ⟨none, 0, h, RowL.nil⟩
theorem rht_uni {w w' : World} {D : PrgD} {l : List InsD} {v : Value} (h : RhtOut w w' D l v) : ∃ A c, v = .tuple #[.slice A (htsL D l).length c, verB (verF D)] ∧ I64L w' A (htsL D l) := by
  unfold RhtOut at h
  unfold htsL
  cases hv : verF D with
  | none =>
    rw [hv] at h
    obtain ⟨ls, A, h1, h2, h3⟩ := h
    simp only [h1]
    exact ⟨A, _, h2, h3⟩
  | some x =>
    rw [hv] at h
    exact ⟨none, 0, h, RowL.nil⟩
theorem dea_uni {w w' : World} {D : PrgD} {v : Value} (h : DeaOut w w' D v) : ∃ A c, v = .tuple #[.slice A (deaL D).length c, verV (verF D)] ∧ I64L w' A (deaL D) ∧ ∀ b off, A = some ⟨b, off, none⟩ → w.heap.size ≤ b := by
  unfold DeaOut at h
  unfold deaL
  cases hv : verF D with
  | none =>
    rw [hv] at h
    exact h
  | some x =>
    rw [hv] at h
    exact ⟨none, 0, h, RowL.nil, fun b off e => by cases e⟩
theorem rde_uni {w w' : World} {D : PrgD} {v : Value} (h : RdeOut w w' D v) : ∃ A c, v = .tuple #[.slice A (deaL D).length c, verB (verF D)] ∧ I64L w' A (deaL D) ∧ ∀ b off, A = some ⟨b, off, none⟩ → w.heap.size ≤ b := by
  unfold RdeOut at h
  unfold deaL
  cases hv : verF D with
  | none =>
    rw [hv] at h
    exact h
  | some x =>
    rw [hv] at h
    exact ⟨none, 0, h, RowL.nil, fun b off e => by cases e⟩
theorem bnd_uni (D : PrgD) : ∃ x y : Int, bndV D = .tuple #[.int .i64 x, .int .i64 y, verV (verF D)] ∧ rbdV D = .tuple #[.int .i64 x, .int .i64 y, verB (verF D)] := by
  unfold bndV rbdV
  cases hv : verF D with
  | none => exact ⟨_, _, rfl, rfl⟩
  | some x => exact ⟨0, 0, rfl, rfl⟩
theorem verB_shape (o : Option (Int × Option Nat)) : ∃ c n b, verB o = .agg #[.int .i64 c, .int .i64 n, .int .i64 0, .bool b, .bool false] := by
  cases o with
  | none => exact ⟨0, 0, false, rfl⟩
  | some x =>
    obtain ⟨c, o⟩ := x
    obtain ⟨n, b, h⟩ := verB_cells (c := c) (o := o)
    exact ⟨c, n, b, h⟩
theorem CB.set {w : World} {b : Nat} {cs : Array Value} (h : CB w b cs) (i : Nat) (u : Value) : CB (w.setCell ⟨b, i, none⟩ u) b (cs.setIfInBounds i u) := by
  obtain ⟨T, h0⟩ := h
  exact ⟨T, cells_set h0 i u⟩
theorem CB.free {w : World} {b : Nat} {cs : Array Value} (h : CB w b cs) (i : Nat) : w.frozen? ⟨b, i, none⟩ = false := by
  obtain ⟨T, h0⟩ := h
  exact cells_free h0 i
set_option maxHeartbeats 8000000 in
set_option maxRecDepth 100000 in
theorem heights_law (D : PrgD) (L : PLoc) (w : World) (hM : PrgM w D L) (hB : PrgB D) (hG : GlobK w) (hT : TabU w) :
    Calls Tryz.prog 4 #[prgV D L] w fun e w' => e = .returned (.bool true) ∧ Below w.heap.size w w' := by
  have H0 : Bx _ := ⟨HdB.alloc w D L 28 hM hG⟩
  have HB : Bx _ := ⟨And.intro hB hT⟩
  clear hM hG hB hT
  go_enter Tryz.func4, Tryz.ntmps4
  go_upto_region 1 with (fail)
  generalize (w.alloc (.cells (prgC D L) 28)) = w0 at *
  generalize hS : w.heap.size = S at *
  have HZ : Bx (w.heap.size = S) := ⟨hS⟩
  clear hS
  obtain ⟨c, n, b, hVB⟩ := verB_shape (verF D)
  have HVB : Bx _ := ⟨hVB⟩
  have HTB : Bx (∀ x, Below S w x → TabU x) := ⟨fun x h => HB.out.2.below (by rw [HZ.out]; exact h)⟩
  have ksm := fun x (hx : Glob x) => vsame_any D x hx
  rw [hVB] at ksm
  obtain ⟨EV, hEV⟩ : ∃ v, verV (verF D) = v := ⟨_, rfl⟩
  have HEV : Bx _ := ⟨hEV⟩
  rw [hEV] at ksm
  clear hVB hEV
  have p0 := H0.out.box.cell 0 _ rfl
  have p1 := H0.out.box.cell 1 _ rfl
  have p2 := H0.out.box.cell 2 _ rfl
  have p3 := H0.out.box.cell 3 _ rfl
  have p4 := H0.out.box.cell 4 _ rfl
  have p5 := H0.out.box.cell 5 _ rfl
  have p6 := H0.out.box.cell 6 _ rfl
  have p7 := H0.out.box.cell 7 _ rfl
  have p8 := H0.out.box.cell 8 _ rfl
  have p9 := H0.out.box.cell 9 _ rfl
  have p10 := H0.out.box.cell 10 _ rfl
  have p11 := H0.out.box.cell 11 _ rfl
  have p12 := H0.out.box.cell 12 _ rfl
  have p13 := H0.out.box.cell 13 _ rfl
  go_wp2_with fail
  refine (vheights_any D L w0 H0.out.mem HB.out.1 H0.out.glob (HTB.out _ H0.out.below)).mono ?_
  rintro e w1 ⟨v, rfl, ho, hb⟩
  obtain ⟨A1, c1, rfl, hr1⟩ := hts_uni ho
  rw [HEV.out]
  have H1 : Bx _ := ⟨And.intro (H0.out.step hb) hr1⟩
  clear ho hb hr1 p0 p1 p2 p3 p4 p5 p6 p7 p8 p9 p10 p11 p12 p13
  have p0 := H1.out.1.box.cell 0 _ rfl
  have p1 := H1.out.1.box.cell 1 _ rfl
  have p2 := H1.out.1.box.cell 2 _ rfl
  have p3 := H1.out.1.box.cell 3 _ rfl
  have p4 := H1.out.1.box.cell 4 _ rfl
  have p5 := H1.out.1.box.cell 5 _ rfl
  have p6 := H1.out.1.box.cell 6 _ rfl
  have p7 := H1.out.1.box.cell 7 _ rfl
  have p8 := H1.out.1.box.cell 8 _ rfl
  have p9 := H1.out.1.box.cell 9 _ rfl
  have p10 := H1.out.1.box.cell 10 _ rfl
  have p11 := H1.out.1.box.cell 11 _ rfl
  have p12 := H1.out.1.box.cell 12 _ rfl
  have p13 := H1.out.1.box.cell 13 _ rfl
  go_wp2_with fail
  refine (rhts_any D L w1 H1.out.1.mem HB.out.1 H1.out.1.glob).mono ?_
  rintro e w2 ⟨v, rfl, ho, hb⟩
  obtain ⟨A2, c2, rfl, hr2⟩ := rht_uni ho
  rw [HVB.out]
  have H2 : Bx _ := ⟨And.intro ((H1.out.1.step hb).step (below1 w2 (.cells #[.int .i64 c, .int .i64 n, .int .i64 0, .bool b, .bool false] 60))) (And.intro (CB.new w2 #[.int .i64 c, .int .i64 n, .int .i64 0, .bool b, .bool false] 60) (And.intro ((H1.out.2.below hb).below (below1 w2 (.cells #[.int .i64 c, .int .i64 n, .int .i64 0, .bool b, .bool false] 60))) (hr2.below (below1 w2 (.cells #[.int .i64 c, .int .i64 n, .int .i64 0, .bool b, .bool false] 60)))))⟩
  have HS1 : Bx (S < w2.heap.size) := ⟨Nat.lt_of_lt_of_le H1.out.1.box.lt hb.size⟩
  clear ho hb hr2 p0 p1 p2 p3 p4 p5 p6 p7 p8 p9 p10 p11 p12 p13
  go_upto_region 3 with (fail)
  generalize (w2.alloc (.cells #[.int .i64 c, .int .i64 n, .int .i64 0, .bool b, .bool false] 60)) = w3 at *
  generalize w2.heap.size = N6 at *
  have p0 := H2.out.1.box.cell 0 _ rfl
  have p1 := H2.out.1.box.cell 1 _ rfl
  have p2 := H2.out.1.box.cell 2 _ rfl
  have p3 := H2.out.1.box.cell 3 _ rfl
  have p4 := H2.out.1.box.cell 4 _ rfl
  have p5 := H2.out.1.box.cell 5 _ rfl
  have p6 := H2.out.1.box.cell 6 _ rfl
  have p7 := H2.out.1.box.cell 7 _ rfl
  have p8 := H2.out.1.box.cell 8 _ rfl
  have p9 := H2.out.1.box.cell 9 _ rfl
  have p10 := H2.out.1.box.cell 10 _ rfl
  have p11 := H2.out.1.box.cell 11 _ rfl
  have p12 := H2.out.1.box.cell 12 _ rfl
  have p13 := H2.out.1.box.cell 13 _ rfl
  go_wp2_with fail
  refine (vrises_any D L w3 H2.out.1.mem HB.out.1 H2.out.1.glob (HTB.out _ H2.out.1.below)).mono ?_
  rintro e w4 ⟨v, rfl, ho, hb⟩
  obtain ⟨A3, c3, rfl, hr3⟩ := hts_uni ho
  rw [HEV.out]
  have H4 : Bx _ := ⟨And.intro (H2.out.1.step hb) (And.intro (H2.out.2.1.below hb) (And.intro (H2.out.2.2.1.below hb) (And.intro (H2.out.2.2.2.below hb) hr3)))⟩
  clear ho hb hr3 p0 p1 p2 p3 p4 p5 p6 p7 p8 p9 p10 p11 p12 p13
  have p0 := H4.out.1.box.cell 0 _ rfl
  have p1 := H4.out.1.box.cell 1 _ rfl
  have p2 := H4.out.1.box.cell 2 _ rfl
  have p3 := H4.out.1.box.cell 3 _ rfl
  have p4 := H4.out.1.box.cell 4 _ rfl
  have p5 := H4.out.1.box.cell 5 _ rfl
  have p6 := H4.out.1.box.cell 6 _ rfl
  have p7 := H4.out.1.box.cell 7 _ rfl
  have p8 := H4.out.1.box.cell 8 _ rfl
  have p9 := H4.out.1.box.cell 9 _ rfl
  have p10 := H4.out.1.box.cell 10 _ rfl
  have p11 := H4.out.1.box.cell 11 _ rfl
  have p12 := H4.out.1.box.cell 12 _ rfl
  have p13 := H4.out.1.box.cell 13 _ rfl
  go_wp2_with fail
  refine (rrises_any D L w4 H4.out.1.mem HB.out.1 H4.out.1.glob).mono ?_
  rintro e w5 ⟨v, rfl, ho, hb⟩
  obtain ⟨A4, c4, rfl, hr4⟩ := rht_uni ho
  rw [HVB.out]
  have hbb := below1 w5 (.cells #[.int .i64 c, .int .i64 n, .int .i64 0, .bool b, .bool false] 60)
  have H5 : Bx _ := ⟨And.intro ((H4.out.1.step hb).step hbb) (And.intro ((H4.out.2.1.below hb).below hbb) (And.intro ((H4.out.2.2.1.below hb).below hbb) (And.intro ((H4.out.2.2.2.1.below hb).below hbb) (And.intro ((H4.out.2.2.2.2.below hb).below hbb) (And.intro (hr4.below hbb) (CB.new w5 #[.int .i64 c, .int .i64 n, .int .i64 0, .bool b, .bool false] 60))))))⟩
  clear ho hb hbb hr4 p0 p1 p2 p3 p4 p5 p6 p7 p8 p9 p10 p11 p12 p13
  go_upto_region 5 with (fail)
  generalize (w5.alloc (.cells #[.int .i64 c, .int .i64 n, .int .i64 0, .bool b, .bool false] 60)) = w6 at *
  generalize w5.heap.size = N10 at *
  have q0 := H5.out.2.1.at 0 _ rfl
  have q1 := H5.out.2.1.at 1 _ rfl
  have q2 := H5.out.2.1.at 2 _ rfl
  have q3 := H5.out.2.1.at 3 _ rfl
  have q4 := H5.out.2.1.at 4 _ rfl
  go_wp2_with fail
  refine (ksm w6 H5.out.1.glob.g).mono ?_
  rintro e w7 ⟨rfl, hb⟩
  have H7 : Bx _ := ⟨And.intro (H5.out.1.step hb) (And.intro (H5.out.2.1.below hb) (And.intro (H5.out.2.2.1.below hb) (And.intro (H5.out.2.2.2.1.below hb) (And.intro (H5.out.2.2.2.2.1.below hb) (And.intro (H5.out.2.2.2.2.2.1.below hb) (H5.out.2.2.2.2.2.2.below hb))))))⟩
  clear hb q0 q1 q2 q3 q4
  have q0 := H7.out.2.2.2.2.2.2.at 0 _ rfl
  have q1 := H7.out.2.2.2.2.2.2.at 1 _ rfl
  have q2 := H7.out.2.2.2.2.2.2.at 2 _ rfl
  have q3 := H7.out.2.2.2.2.2.2.at 3 _ rfl
  have q4 := H7.out.2.2.2.2.2.2.at 4 _ rfl
  go_wp2_with fail
  refine (ksm w7 H7.out.1.glob.g).mono ?_
  rintro e w8 ⟨rfl, hb⟩
  have H8 : Bx _ := ⟨And.intro (H7.out.1.step hb) (And.intro (H7.out.2.1.below hb) (And.intro (H7.out.2.2.1.below hb) (And.intro (H7.out.2.2.2.1.below hb) (And.intro (H7.out.2.2.2.2.1.below hb) (H7.out.2.2.2.2.2.1.below hb)))))⟩
  clear hb q0 q1 q2 q3 q4
  go_wp2_with fail
  refine (sameints_any A1 A2 (htsL D D.filter) c1 c2 w8 H8.out.2.2.1 H8.out.2.2.2.1).mono ?_
  rintro e w9 ⟨rfl, hb⟩
  have H9 : Bx _ := ⟨And.intro (H8.out.1.step hb) (And.intro (H8.out.2.1.below hb) (And.intro (H8.out.2.2.2.2.1.below hb) (H8.out.2.2.2.2.2.below hb)))⟩
  clear hb
  go_wp2_with fail
  refine (sameints_any A3 A4 (htsL D D.output) c3 c4 w9 H9.out.2.2.1 H9.out.2.2.2).mono ?_
  rintro e wa ⟨rfl, hb⟩
  have Ha : Bx _ := ⟨And.intro (H9.out.1.step hb) (H9.out.2.1.below hb)⟩
  clear hb
  obtain ⟨x, y, hbv, hrv⟩ := bnd_uni D
  rw [HEV.out] at hbv
  rw [HVB.out] at hrv
  have p0 := Ha.out.1.box.cell 0 _ rfl
  have p1 := Ha.out.1.box.cell 1 _ rfl
  have p2 := Ha.out.1.box.cell 2 _ rfl
  have p3 := Ha.out.1.box.cell 3 _ rfl
  have p4 := Ha.out.1.box.cell 4 _ rfl
  have p5 := Ha.out.1.box.cell 5 _ rfl
  have p6 := Ha.out.1.box.cell 6 _ rfl
  have p7 := Ha.out.1.box.cell 7 _ rfl
  have p8 := Ha.out.1.box.cell 8 _ rfl
  have p9 := Ha.out.1.box.cell 9 _ rfl
  have p10 := Ha.out.1.box.cell 10 _ rfl
  have p11 := Ha.out.1.box.cell 11 _ rfl
  have p12 := Ha.out.1.box.cell 12 _ rfl
  have p13 := Ha.out.1.box.cell 13 _ rfl
  have kb := vbound_any D L wa Ha.out.1.mem HB.out.1 Ha.out.1.glob (HTB.out _ Ha.out.1.below)
  rw [hbv] at kb
  go_wp2_with fail
  refine kb.mono ?_
  rintro e wb ⟨rfl, hb⟩
  have Hb : Bx _ := ⟨And.intro (Ha.out.1.step hb) (Ha.out.2.below hb)⟩
  clear hb kb hbv p0 p1 p2 p3 p4 p5 p6 p7 p8 p9 p10 p11 p12 p13
  have p0 := Hb.out.1.box.cell 0 _ rfl
  have p1 := Hb.out.1.box.cell 1 _ rfl
  have p2 := Hb.out.1.box.cell 2 _ rfl
  have p3 := Hb.out.1.box.cell 3 _ rfl
  have p4 := Hb.out.1.box.cell 4 _ rfl
  have p5 := Hb.out.1.box.cell 5 _ rfl
  have p6 := Hb.out.1.box.cell 6 _ rfl
  have p7 := Hb.out.1.box.cell 7 _ rfl
  have p8 := Hb.out.1.box.cell 8 _ rfl
  have p9 := Hb.out.1.box.cell 9 _ rfl
  have p10 := Hb.out.1.box.cell 10 _ rfl
  have p11 := Hb.out.1.box.cell 11 _ rfl
  have p12 := Hb.out.1.box.cell 12 _ rfl
  have p13 := Hb.out.1.box.cell 13 _ rfl
  have kr := rbound_any D L wb Hb.out.1.mem HB.out.1 Hb.out.1.glob
  rw [hrv] at kr
  go_wp2_with fail
  refine kr.mono ?_
  rintro e wc ⟨rfl, hb⟩
  have hbb := below1 wc (.cells #[.int .i64 c, .int .i64 n, .int .i64 0, .bool b, .bool false] 60)
  have Hc : Bx _ := ⟨And.intro ((Hb.out.1.step hb).step hbb) (And.intro ((Hb.out.2.below hb).below hbb) (CB.new wc #[.int .i64 c, .int .i64 n, .int .i64 0, .bool b, .bool false] 60))⟩
  have HN16 : Bx (N6 < wc.heap.size) := ⟨Nat.lt_of_lt_of_le Hb.out.2.lt hb.size⟩
  clear hb hbb kr hrv p0 p1 p2 p3 p4 p5 p6 p7 p8 p9 p10 p11 p12 p13
  go_upto_region 9 with (fail)
  generalize (wc.alloc (.cells #[.int .i64 c, .int .i64 n, .int .i64 0, .bool b, .bool false] 60)) = wd at *
  generalize wc.heap.size = N16 at *
  have p0 := Hc.out.1.box.cell 0 _ rfl
  have p1 := Hc.out.1.box.cell 1 _ rfl
  have p2 := Hc.out.1.box.cell 2 _ rfl
  have p3 := Hc.out.1.box.cell 3 _ rfl
  have p4 := Hc.out.1.box.cell 4 _ rfl
  have p5 := Hc.out.1.box.cell 5 _ rfl
  have p6 := Hc.out.1.box.cell 6 _ rfl
  have p7 := Hc.out.1.box.cell 7 _ rfl
  have p8 := Hc.out.1.box.cell 8 _ rfl
  have p9 := Hc.out.1.box.cell 9 _ rfl
  have p10 := Hc.out.1.box.cell 10 _ rfl
  have p11 := Hc.out.1.box.cell 11 _ rfl
  have p12 := Hc.out.1.box.cell 12 _ rfl
  have p13 := Hc.out.1.box.cell 13 _ rfl
  go_wp2_with fail
  refine (vdead_any D L wd Hc.out.1.mem HB.out.1 Hc.out.1.glob (HTB.out _ Hc.out.1.below)).mono ?_
  rintro e we ⟨v, rfl, ho, hb⟩
  obtain ⟨A5, c5, rfl, hr5, hn5⟩ := dea_uni ho
  rw [HEV.out]
  have He : Bx _ := ⟨And.intro (Hc.out.1.step hb) (And.intro (Hc.out.2.1.below hb) (And.intro (Hc.out.2.2.below hb) hr5))⟩
  have HN5 : Bx (∀ b off, A5 = some ⟨b, off, none⟩ → b ≠ N6) := ⟨fun b off e => by have := hn5 b off e; have := Hc.out.2.1.lt; omega⟩
  clear ho hb hr5 hn5 p0 p1 p2 p3 p4 p5 p6 p7 p8 p9 p10 p11 p12 p13
  have p0 := He.out.1.box.cell 0 _ rfl
  have p1 := He.out.1.box.cell 1 _ rfl
  have p2 := He.out.1.box.cell 2 _ rfl
  have p3 := He.out.1.box.cell 3 _ rfl
  have p4 := He.out.1.box.cell 4 _ rfl
  have p5 := He.out.1.box.cell 5 _ rfl
  have p6 := He.out.1.box.cell 6 _ rfl
  have p7 := He.out.1.box.cell 7 _ rfl
  have p8 := He.out.1.box.cell 8 _ rfl
  have p9 := He.out.1.box.cell 9 _ rfl
  have p10 := He.out.1.box.cell 10 _ rfl
  have p11 := He.out.1.box.cell 11 _ rfl
  have p12 := He.out.1.box.cell 12 _ rfl
  have p13 := He.out.1.box.cell 13 _ rfl
  go_wp2_with fail
  refine (rdead_any D L we He.out.1.mem HB.out.1 He.out.1.glob).mono ?_
  rintro e wf ⟨v, rfl, ho, hb⟩
  obtain ⟨A6, c6, rfl, hr6, hn6⟩ := rde_uni ho
  rw [HVB.out]
  have Hf : Bx _ := ⟨And.intro (He.out.1.step hb) (And.intro (He.out.2.1.below hb) (And.intro (He.out.2.2.1.below hb) (And.intro (He.out.2.2.2.below hb) hr6)))⟩
  have HN6 : Bx (∀ b off, A6 = some ⟨b, off, none⟩ → b ≠ N6) := ⟨fun b off e => by have := hn6 b off e; have := He.out.2.1.lt; omega⟩
  clear ho hb hr6 hn6 p0 p1 p2 p3 p4 p5 p6 p7 p8 p9 p10 p11 p12 p13
  have q0 := Hf.out.2.1.at 0 _ rfl
  have q1 := Hf.out.2.1.at 1 _ rfl
  have q2 := Hf.out.2.1.at 2 _ rfl
  have q3 := Hf.out.2.1.at 3 _ rfl
  have q4 := Hf.out.2.1.at 4 _ rfl
  have z0 := Hf.out.2.1.free 0
  have z1 := Hf.out.2.1.free 1
  have z2 := Hf.out.2.1.free 2
  have z3 := Hf.out.2.1.free 3
  have z4 := Hf.out.2.1.free 4
  have hT5 : Turned [N6] wf (((((wf.setCell ⟨N6, 0, none⟩ (.int .i64 c)).setCell ⟨N6, 1, none⟩ (.int .i64 n)).setCell ⟨N6, 2, none⟩ (.int .i64 0)).setCell ⟨N6, 3, none⟩ (.bool b)).setCell ⟨N6, 4, none⟩ (.bool false)) := ((((Turned.set _ _ _).trans (Turned.set _ _ _)).trans (Turned.set _ _ _)).trans (Turned.set _ _ _)).trans (Turned.set _ _ _)
  have Hg : Bx (HdB w (((((wf.setCell ⟨N6, 0, none⟩ (.int .i64 c)).setCell ⟨N6, 1, none⟩ (.int .i64 n)).setCell ⟨N6, 2, none⟩ (.int .i64 0)).setCell ⟨N6, 3, none⟩ (.bool b)).setCell ⟨N6, 4, none⟩ (.bool false)) S D L ∧ CB (((((wf.setCell ⟨N6, 0, none⟩ (.int .i64 c)).setCell ⟨N6, 1, none⟩ (.int .i64 n)).setCell ⟨N6, 2, none⟩ (.int .i64 0)).setCell ⟨N6, 3, none⟩ (.bool b)).setCell ⟨N6, 4, none⟩ (.bool false)) N6 #[.int .i64 c, .int .i64 n, .int .i64 0, .bool b, .bool false] ∧ CB (((((wf.setCell ⟨N6, 0, none⟩ (.int .i64 c)).setCell ⟨N6, 1, none⟩ (.int .i64 n)).setCell ⟨N6, 2, none⟩ (.int .i64 0)).setCell ⟨N6, 3, none⟩ (.bool b)).setCell ⟨N6, 4, none⟩ (.bool false)) N16 #[.int .i64 c, .int .i64 n, .int .i64 0, .bool b, .bool false] ∧ I64L (((((wf.setCell ⟨N6, 0, none⟩ (.int .i64 c)).setCell ⟨N6, 1, none⟩ (.int .i64 n)).setCell ⟨N6, 2, none⟩ (.int .i64 0)).setCell ⟨N6, 3, none⟩ (.bool b)).setCell ⟨N6, 4, none⟩ (.bool false)) A5 (deaL D) ∧ I64L (((((wf.setCell ⟨N6, 0, none⟩ (.int .i64 c)).setCell ⟨N6, 1, none⟩ (.int .i64 n)).setCell ⟨N6, 2, none⟩ (.int .i64 0)).setCell ⟨N6, 3, none⟩ (.bool b)).setCell ⟨N6, 4, none⟩ (.bool false)) A6 (deaL D)) :=
    ⟨Hf.out.1.turned hT5 (fun x hx => by simp at hx; have := HS1.out; omega), ((((Hf.out.2.1.set 0 (.int .i64 c)).set 1 (.int .i64 n)).set 2 (.int .i64 0)).set 3 (.bool b)).set 4 (.bool false), CB.turned Hf.out.2.2.1 hT5 (fun hx => by simp at hx; have := HN16.out; omega),
      row_turned Hf.out.2.2.2.1 hT5 (fun b off e _ hx => by simp at hx; exact HN5.out b off e hx), row_turned Hf.out.2.2.2.2 hT5 (fun b off e _ hx => by simp at hx; exact HN6.out b off e hx)⟩
  clear hT5
  go_upto_region 11 with (fail)
  generalize (((((wf.setCell ⟨N6, 0, none⟩ (.int .i64 c)).setCell ⟨N6, 1, none⟩ (.int .i64 n)).setCell ⟨N6, 2, none⟩ (.int .i64 0)).setCell ⟨N6, 3, none⟩ (.bool b)).setCell ⟨N6, 4, none⟩ (.bool false)) = wg at *
  clear q0 q1 q2 q3 q4 z0 z1 z2 z3 z4
  go_wp2_with fail
  refine (live_any wg Hg.out.1.glob (HTB.out _ Hg.out.1.below)).mono ?_
  rintro e wh ⟨rfl, hb⟩
  have Hh : Bx _ := ⟨And.intro (Hg.out.1.step hb) (And.intro (Hg.out.2.1.below hb) (And.intro (Hg.out.2.2.1.below hb) (And.intro (Hg.out.2.2.2.1.below hb) (Hg.out.2.2.2.2.below hb))))⟩
  clear hb
  have q0 := Hh.out.2.2.1.at 0 _ rfl
  have q1 := Hh.out.2.2.1.at 1 _ rfl
  have q2 := Hh.out.2.2.1.at 2 _ rfl
  have q3 := Hh.out.2.2.1.at 3 _ rfl
  have q4 := Hh.out.2.2.1.at 4 _ rfl
  go_wp2_with fail
  refine (ksm wh Hh.out.1.glob.g).mono ?_
  rintro e wi ⟨rfl, hb⟩
  have Hi : Bx _ := ⟨And.intro (Hh.out.1.step hb) (And.intro (Hh.out.2.1.below hb) (And.intro (Hh.out.2.2.2.1.below hb) (Hh.out.2.2.2.2.below hb)))⟩
  clear hb q0 q1 q2 q3 q4
  go_wp2_with fail
  refine (sameints_any A5 A6 (deaL D) c5 c6 wi Hi.out.2.2.1 Hi.out.2.2.2).mono ?_
  rintro e wj ⟨rfl, hb⟩
  have Hj : Bx _ := ⟨And.intro (Hi.out.1.step hb) (Hi.out.2.1.below hb)⟩
  clear hb
  have q0 := Hj.out.2.at 0 _ rfl
  have q1 := Hj.out.2.at 1 _ rfl
  have q2 := Hj.out.2.at 2 _ rfl
  have q3 := Hj.out.2.at 3 _ rfl
  have q4 := Hj.out.2.at 4 _ rfl
  go_wp2_with fail
  refine (ksm wj Hj.out.1.glob.g).mono ?_
  rintro e wk ⟨rfl, hb⟩
  have Hk : Bx _ := ⟨Hj.out.1.step hb⟩
  clear hb q0 q1 q2 q3 q4
  go_wp2
  go_ret
  exact ⟨rfl, by rw [HZ.out]; exact Hk.out.below⟩
end Go.Proofs.YtbcajmkmadgbhaaGreatDoor
