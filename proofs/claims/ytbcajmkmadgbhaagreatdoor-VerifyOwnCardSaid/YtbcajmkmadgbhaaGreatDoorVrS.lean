/- Verify, the document's answer: emitted, Program. -/
import Derived.Test.YtbcajmkmadgbhaaGreatDoorVrR
set_option linter.unusedSimpArgs false
set_option linter.unusedVariables false
namespace Go.Proofs.YtbcajmkmadgbhaaGreatDoor
open Go.RowKit
def emitB (D : PrgD) : Bool := (List.range D.aliases.length).all fun n => countE n D.output == 1
theorem emitB_iff (D : PrgD) : emitB D = true ↔ EmitP D := by
  unfold emitB EmitP
  simp
theorem rnew_any (c : Int) (w : World) : Calls Tryz.prog 20 #[.int .i64 c] w fun e w' => e = .returned (badV c) ∧ Below w.heap.size w w' := by
  go_enter Tryz.func20, Tryz.ntmps20
  go_wp2
  exact bodyPost_ret (v := badV c) (by simp [results, Tryz.results20, go_sem]) rfl ⟨rfl, below1 _ _⟩
/-- what the document's Program tells -/
def verB (o : Option (Int × Option Nat)) : Value := match o with
  | none => badV 0
  | some (c, none) => badV c
  | some (c, some n) => badAt (n : Int) c
set_option maxHeartbeats 8000000 in
set_option maxRecDepth 100000 in
theorem remitted_any (D : PrgD) (L : PLoc) (w : World) (hM : PrgM w D L) (hB : PrgB D) (hP : HeadP D) :
    Calls Tryz.prog 23 #[prgV D L] w fun e w' => e = .returned (.bool (emitB D)) ∧ Below w.heap.size w w' := by
  have H0 : Bx (PBox (w.alloc (.cells (prgC D L) 28)) w.heap.size D L ∧ Below w.heap.size w (w.alloc (.cells (prgC D L) 28)) ∧ PrgM (w.alloc (.cells (prgC D L) 28)) D L) := ⟨PBox.alloc w D L _, below1 _ _, hM.below (below1 _ _)⟩
  have HB : Bx _ := ⟨And.intro hB hP⟩
  obtain ⟨V, hV⟩ : ∃ V, V = emitB D := ⟨_, rfl⟩
  rw [← hV]
  have HV : Bx _ := ⟨hV⟩
  clear hV hM hB hP
  go_enter Tryz.func23, Tryz.ntmps23
  go_upto_region 1 with (fail)
  generalize (w.alloc (.cells (prgC D L) 28)) = w0 at *
  generalize hS : w.heap.size = S at *
  have HZ : Bx (w.heap.size = S) := ⟨hS⟩
  clear hS
  obtain ⟨Aou, hAou⟩ : ∃ x, L.ao = x := ⟨_, rfl⟩
  have p13 : w0.cell? ⟨S, 13, none⟩ = some (.slice Aou D.output.length L.co) := by rw [← hAou]; exact H0.out.1.cell 13 _ rfl
  have p6 := H0.out.1.cell 6 _ rfl
  have HAou : Bx (L.ao = Aou) := ⟨hAou⟩
  clear hAou
  go_wp2_with fail
  go_loopw [3] (fun i wr => ∃ k : Nat, k ≤ D.aliases.length ∧ i = .int .i64 (k : Int) ∧ w0 = wr ∧ Bx (∀ n, n < k → countE n D.output = 1)) (fun i _ => D.aliases.length - (intOf i).toNat)
  case atStart => exact ⟨0, by omega, rfl, rfl, ⟨fun n h => absurd h (by omega)⟩⟩
  case round =>
    obtain ⟨k, hk, rfl, rfl, HI⟩ := hrel
    have hna := HB.out.2.a2
    have hno := HB.out.2.ou
    by_cases hlt : k < D.aliases.length
    · go_wp2_with fail
      go_loopw [4, 5] (fun n i wr => ∃ m : Nat, m ≤ D.output.length ∧ i = .int .i64 (m : Int) ∧ n = .int .i64 ((cntC (D.output.take m) (k : Int) : Nat) : Int) ∧ w0 = wr) (fun _ i _ => D.output.length - (intOf i).toNat)
      case atStart => exact ⟨0, by omega, rfl, rfl, rfl⟩
      case round =>
        obtain ⟨m, hm, rfl, rfl, rfl⟩ := hrel
        by_cases hlm : m < D.output.length
        · have hrw := H0.out.2.2.output
          rw [HAou.out] at hrw
          obtain ⟨b, off, rfl, hrow⟩ := hrw.row (by omega)
          have hx : D.output[m]? = some D.output[m] := List.getElem?_eq_getElem hlm
          have r0 : w0.cell? ⟨b, off + m * 3, none⟩ = some (.int .u8 (D.output[m].c : Int)) := hrow m _ hx 0 _ rfl
          have r1 : w0.cell? ⟨b, off + m * 3 + 1, none⟩ = some (.int .i64 D.output[m].a) := hrow m _ hx 1 _ rfl
          have HD : Bx (cntC (D.output.take (m + 1)) (k : Int) = cntC (D.output.take m) (k : Int) + if D.output[m].c == 23 && D.output[m].a == (k : Int) then 1 else 0) := ⟨by rw [List.take_succ_eq_append_getElem hlm, cntC_snoc]⟩
          have hC : cntC (D.output.take m) (k : Int) ≤ 65536 := Nat.le_trans (cntC_le _ _) (Nat.le_trans (List.length_take_le _ _) (by omega))
          generalize D.output[m] = i at *
          obtain ⟨c, a, bb⟩ := i
          clear hrow hx hrw
          obtain ⟨e1, he1⟩ : ∃ e, (((c : Int) == 23) : Bool) = e := ⟨_, rfl⟩
          obtain ⟨e2, he2⟩ : ∃ e, ((a == (k : Int)) : Bool) = e := ⟨_, rfl⟩
          have HE : Bx (cntC (D.output.take (m + 1)) (k : Int) = cntC (D.output.take m) (k : Int) + if e1 && e2 then 1 else 0) := ⟨by rw [HD.out, ← he1, ← he2]; rw [show (((c : Int) == 23) : Bool) = (c == 23) from beq_code c 23]⟩
          clear HD
          generalize cntC (D.output.take m) (k : Int) = C at *
          generalize hC2 : cntC (D.output.take (m + 1)) (k : Int) = C2 at HE
          have HC2 : Bx (cntC (D.output.take (m + 1)) (k : Int) = C2) := ⟨hC2⟩
          clear hC2
          cases e1
          · have HF : Bx (C2 = C) := ⟨by rw [HE.out]; rfl⟩
            go_wp2_with fail
            exact ⟨⟨m + 1, by omega, by rw [Int.natCast_succ], by rw [HC2.out, HF.out], trivial⟩, by simp only [intOf]; omega⟩
          · cases e2
            · have HF : Bx (C2 = C) := ⟨by rw [HE.out]; rfl⟩
              go_wp2_with fail
              exact ⟨⟨m + 1, by omega, by rw [Int.natCast_succ], by rw [HC2.out, HF.out], trivial⟩, by simp only [intOf]; omega⟩
            · have HF : Bx (C2 = C + 1) := ⟨by rw [HE.out]; rfl⟩
              go_wp2_with fail
              exact ⟨⟨m + 1, by omega, by rw [Int.natCast_succ], by rw [HC2.out, HF.out, Int.natCast_succ], trivial⟩, by simp only [intOf]; omega⟩
        · obtain rfl : m = D.output.length := by omega
          rw [List.take_length]
          have hC : cntC D.output (k : Int) ≤ 65536 := Nat.le_trans (cntC_le _ _) (by omega)
          by_cases hc : countE k D.output = 1
          · have HN : Bx (∀ n, n < k + 1 → countE n D.output = 1) := ⟨fun n h => by
              rcases Nat.lt_or_ge n k with h1 | h1
              · exact HI.out n h1
              · have : n = k := by omega
                subst this; exact hc⟩
            have hc1 : (((cntC D.output (k : Int) : Nat) : Int) != 1) = false := by rw [show cntC D.output (k : Int) = 1 from hc]; rfl
            have hc2 : (!(((cntC D.output (k : Int) : Nat) : Int) == 1)) = false := hc1
            generalize cntC D.output (k : Int) = C at *
            clear hc
            go_wp2_with fail
            exact ⟨⟨k + 1, by omega, by rw [Int.natCast_succ], trivial, HN⟩, by simp only [intOf]; omega⟩
          · have HE : Bx (V = false) := ⟨by
              rw [HV.out]
              cases he : emitB D with
              | false => rfl
              | true => exact absurd ((emitB_iff D).1 he k hlt) hc⟩
            have hc1 : (((cntC D.output (k : Int) : Nat) : Int) != 1) = true := by
              have : cntC D.output (k : Int) ≠ 1 := hc
              simp; omega
            have hc2 : (!(((cntC D.output (k : Int) : Nat) : Int) == 1)) = true := hc1
            generalize cntC D.output (k : Int) = C at *
            clear hc
            go_wp2_with fail
            go_ret
            exact ⟨by rw [HE.out]; rfl, by rw [HZ.out]; exact H0.out.2.1⟩
    · obtain rfl : k = D.aliases.length := by omega
      have HE : Bx (V = true) := ⟨by rw [HV.out, (emitB_iff D).2 fun n h => HI.out n h]⟩
      go_wp2_with fail
      go_ret
      exact ⟨by rw [HE.out]; rfl, by rw [HZ.out]; exact H0.out.2.1⟩
set_option maxHeartbeats 16000000 in
set_option maxRecDepth 100000 in
theorem rprogram_any (D : PrgD) (L : PLoc) (w : World) (hM : PrgM w D L) (hB : PrgB D) (hG : GlobK w) :
    Calls Tryz.prog 5 #[prgV D L] w fun e w' => e = .returned (verB (verF D)) ∧ Below w.heap.size w w' := by
  have H0 : Bx _ := ⟨EcB.alloc w D L 28 60 hM⟩
  have HB : Bx _ := ⟨And.intro hB hG⟩
  obtain ⟨V, hV⟩ : ∃ V, V = verB (verF D) := ⟨_, rfl⟩
  rw [← hV]
  have HV : Bx _ := ⟨hV⟩
  clear hV hM hG hB
  go_enter Tryz.func5, Tryz.ntmps5
  go_upto_region 1 with (fail)
  generalize ((w.alloc (.cells (prgC D L) 28)).alloc (.cells #[.int .i64 0, .int .i64 0, .int .i64 0, .bool false, .bool false] 60)) = w0 at *
  generalize hS : w.heap.size = S at *
  have HZ : Bx (w.heap.size = S) := ⟨hS⟩
  clear hS
  have p0 := H0.out.box.cell 0 _ rfl
  have p1 := H0.out.box.cell 1 _ rfl
  have p2 := H0.out.box.cell 2 _ rfl
  have p3 := H0.out.box.cell 3 _ rfl
  have p4 := H0.out.box.cell 4 _ rfl
  have p5 := H0.out.box.cell 5 _ rfl
  have p6 := H0.out.box.cell 6 _ rfl
  have p7 := H0.out.box.cell 7 _ rfl
  have p8 := H0.out.box.cell 8 _ rfl
  have p9 := H0.out.box.cell 9 _ rfl
  have p10 := H0.out.box.cell 10 _ rfl
  have p11 := H0.out.box.cell 11 _ rfl
  have p12 := H0.out.box.cell 12 _ rfl
  have p13 := H0.out.box.cell 13 _ rfl
  have kh := rhead_any D L w0 H0.out.mem HB.out.1 (HB.out.2.below (by rw [HZ.out]; exact H0.out.below))
  cases hh : headB D with
  | false =>
    rw [hh] at kh
    have HE : Bx (V = badV 192) := ⟨by rw [HV.out, verF_head hh]; rfl⟩
    clear hh
    go_wp2_with fail
    refine kh.mono ?_
    rintro e w1 ⟨rfl, hb⟩
    have H1 : Bx _ := ⟨H0.out.step hb⟩
    clear hb kh p0 p1 p2 p3 p4 p5 p6 p7 p8 p9 p10 p11 p12 p13
    go_wp2_with fail
    refine (rnew_any 192 _).mono ?_
    rintro e w2 ⟨rfl, hb⟩
    have H2 : Bx _ := ⟨H1.out.step hb⟩
    clear hb
    obtain ⟨⟨z0, z1, z2, z3, z4⟩, y⟩ := bad_zy H2.out.bad
    have y0 := y 0
    have y1 := y 1
    have y2 := y 2
    have y3 := y 3
    have y4 := y 4
    clear y
    go_wp2
    refine bodyPost_ret (by simp [results, Tryz.results5, go_sem, z0, z1, z2, z3, z4, y0, y1, y2, y3, y4]; first | done | rfl) rfl ?_
    exact ⟨by first | (rw [HE.out]; done) | (rw [HE.out]; rfl), by rw [HZ.out]; exact bset5 H2.out.below _ _ _ _ _⟩
  | true =>
    rw [hh] at kh
    have HH : Bx _ := ⟨hh⟩
    have HP : Bx (HeadP D) := ⟨(headB_iff D).1 hh⟩
    clear hh
    go_wp2_with fail
    refine kh.mono ?_
    rintro e w1 ⟨rfl, hb⟩
    have H1 : Bx _ := ⟨H0.out.step hb⟩
    clear hb kh p0 p1 p2 p3 p4 p5 p6 p7 p8 p9 p10 p11 p12 p13
    have p0 := H1.out.box.cell 0 _ rfl
    have p1 := H1.out.box.cell 1 _ rfl
    have p2 := H1.out.box.cell 2 _ rfl
    have p3 := H1.out.box.cell 3 _ rfl
    have p4 := H1.out.box.cell 4 _ rfl
    have p5 := H1.out.box.cell 5 _ rfl
    have p6 := H1.out.box.cell 6 _ rfl
    have p7 := H1.out.box.cell 7 _ rfl
    have p8 := H1.out.box.cell 8 _ rfl
    have p9 := H1.out.box.cell 9 _ rfl
    have p10 := H1.out.box.cell 10 _ rfl
    have p11 := H1.out.box.cell 11 _ rfl
    have p12 := H1.out.box.cell 12 _ rfl
    have p13 := H1.out.box.cell 13 _ rfl
    have ke := each_any L.af D.filter L.cf true 0 D L w1 H1.out.mem H1.out.mem.filter HB.out.1.filter (by decide) (Nat.le_trans HP.out.fi (by decide))
    cases hf : formF true D D.filter with
    | some x =>
      obtain ⟨n, c⟩ := x
      rw [hf] at ke
      have hc1 : 1 ≤ c := formF_pos hf
      have HE : Bx (V = badAt ((n : Int)) c) := ⟨by rw [HV.out, verF_form1 HH.out hf]; simp [verB]⟩
      have ke' : Calls Tryz.prog 21 #[prgV D L, .slice L.af D.filter.length L.cf, .int .i64 0, .int .u8 13] w1 fun e w' => e = .returned (badAt ((n : Int)) c) ∧ Below w1.heap.size w1 w' := ke.mono fun e w' h => ⟨by rw [h.1]; show Ending.returned (badAt (((0 : Nat) : Int) + (n : Int)) c) = _; first | rfl | simp, h.2⟩
      clear hf ke
      go_wp2_with fail
      refine ke'.mono ?_
      rintro e w7 ⟨rfl, hb⟩
      have HX7 : Bx _ := ⟨H1.out.step hb⟩
      have HX8 : Bx _ := ⟨HX7.out.step (below1 w7 (.cells #[.int .i64 c, .int .i64 ((n : Int)), .int .i64 0, .bool true, .bool false] 60))⟩
      have hc0 : (c != 0) = true := by simp; omega
      have hc2 : (!(c == 0)) = true := hc0
      clear hb ke' p0 p1 p2 p3 p4 p5 p6 p7 p8 p9 p10 p11 p12 p13
      obtain ⟨⟨z0, z1, z2, z3, z4⟩, y⟩ := bad_zy HX8.out.bad
      have y0 := y 0
      have y1 := y 1
      have y2 := y 2
      have y3 := y 3
      have y4 := y 4
      clear y
      go_wp2
      refine bodyPost_ret (by simp [results, Tryz.results5, go_sem, z0, z1, z2, z3, z4, y0, y1, y2, y3, y4]; first | done | rfl) rfl ?_
      exact ⟨by first | (rw [HE.out]; done) | (rw [HE.out]; rfl), by rw [HZ.out]; exact bset5 HX8.out.below _ _ _ _ _⟩
    | none =>
      rw [hf] at ke
      have HF1 : Bx _ := ⟨hf⟩
      have ke' : Calls Tryz.prog 21 #[prgV D L, .slice L.af D.filter.length L.cf, .int .i64 0, .int .u8 13] w1 fun e w' => e = .returned (badV 0) ∧ Below w1.heap.size w1 w' := ke
      clear hf ke
      go_wp2_with fail
      refine ke'.mono ?_
      rintro e w10 ⟨rfl, hb⟩
      have HX10 : Bx _ := ⟨(H1.out.step hb).step (below1 w10 (.cells #[.int .i64 0, .int .i64 0, .int .i64 0, .bool false, .bool false] 60))⟩
      clear hb ke' p0 p1 p2 p3 p4 p5 p6 p7 p8 p9 p10 p11 p12 p13
      go_upto_region 7 with (fail)
      generalize (w10.alloc (.cells #[.int .i64 0, .int .i64 0, .int .i64 0, .bool false, .bool false] 60)) = w10x at *
      have p0 := HX10.out.box.cell 0 _ rfl
      have p1 := HX10.out.box.cell 1 _ rfl
      have p2 := HX10.out.box.cell 2 _ rfl
      have p3 := HX10.out.box.cell 3 _ rfl
      have p4 := HX10.out.box.cell 4 _ rfl
      have p5 := HX10.out.box.cell 5 _ rfl
      have p6 := HX10.out.box.cell 6 _ rfl
      have p7 := HX10.out.box.cell 7 _ rfl
      have p8 := HX10.out.box.cell 8 _ rfl
      have p9 := HX10.out.box.cell 9 _ rfl
      have p10 := HX10.out.box.cell 10 _ rfl
      have p11 := HX10.out.box.cell 11 _ rfl
      have p12 := HX10.out.box.cell 12 _ rfl
      have p13 := HX10.out.box.cell 13 _ rfl
      have ke := each_any L.ao D.output L.co false D.filter.length D L w10x HX10.out.mem HX10.out.mem.output HB.out.1.output (Nat.le_trans HP.out.fi (by decide)) (Nat.le_trans HP.out.ou (by decide))
      cases hf : formF false D D.output with
      | some x =>
        obtain ⟨n, c⟩ := x
        rw [hf] at ke
        have hc1 : 1 ≤ c := formF_pos hf
        have HE : Bx (V = badAt (((D.filter.length : Nat) : Int) + (n : Int)) c) := ⟨by rw [HV.out, verF_form2 HH.out HF1.out hf]; simp [verB]⟩
        have ke' : Calls Tryz.prog 21 #[prgV D L, .slice L.ao D.output.length L.co, .int .i64 (D.filter.length : Nat), .int .u8 24] w10x fun e w' => e = .returned (badAt (((D.filter.length : Nat) : Int) + (n : Int)) c) ∧ Below w10x.heap.size w10x w' := ke.mono fun e w' h => ⟨by rw [h.1]; show Ending.returned (badAt (((D.filter.length : Nat) : Int) + (n : Int)) c) = _; first | rfl | simp, h.2⟩
        clear hf ke
        go_wp2_with fail
        refine ke'.mono ?_
        rintro e w7 ⟨rfl, hb⟩
        have HX7 : Bx _ := ⟨HX10.out.step hb⟩
        have HX8 : Bx _ := ⟨HX7.out.step (below1 w7 (.cells #[.int .i64 c, .int .i64 (((D.filter.length : Nat) : Int) + (n : Int)), .int .i64 0, .bool true, .bool false] 60))⟩
        have hc0 : (c != 0) = true := by simp; omega
        have hc2 : (!(c == 0)) = true := hc0
        clear hb ke' p0 p1 p2 p3 p4 p5 p6 p7 p8 p9 p10 p11 p12 p13
        obtain ⟨⟨z0, z1, z2, z3, z4⟩, y⟩ := bad_zy HX8.out.bad
        have y0 := y 0
        have y1 := y 1
        have y2 := y 2
        have y3 := y 3
        have y4 := y 4
        clear y
        go_wp2
        refine bodyPost_ret (by simp [results, Tryz.results5, go_sem, z0, z1, z2, z3, z4, y0, y1, y2, y3, y4]; first | done | rfl) rfl ?_
        exact ⟨by first | (rw [HE.out]; done) | (rw [HE.out]; rfl), by rw [HZ.out]; exact bset5 HX8.out.below _ _ _ _ _⟩
      | none =>
        rw [hf] at ke
        have HF2 : Bx _ := ⟨hf⟩
        have ke' : Calls Tryz.prog 21 #[prgV D L, .slice L.ao D.output.length L.co, .int .i64 (D.filter.length : Nat), .int .u8 24] w10x fun e w' => e = .returned (badV 0) ∧ Below w10x.heap.size w10x w' := ke
        clear hf ke
        go_wp2_with fail
        refine ke'.mono ?_
        rintro e w11 ⟨rfl, hb⟩
        have HX11 : Bx _ := ⟨(HX10.out.step hb).step (below1 w11 (.cells #[.int .i64 0, .int .i64 0, .int .i64 0, .bool false, .bool false] 60))⟩
        clear hb ke' p0 p1 p2 p3 p4 p5 p6 p7 p8 p9 p10 p11 p12 p13
        go_upto_region 10 with (fail)
        generalize (w11.alloc (.cells #[.int .i64 0, .int .i64 0, .int .i64 0, .bool false, .bool false] 60)) = w11x at *
        have p12 := HX11.out.box.cell 12 _ rfl
        have kh := rheights_any L.af D.filter L.cf 0 w11x HX11.out.mem.filter HB.out.1.filter (formF_none HF1.out).1 (formF_none HF1.out).2.1 (by decide) (Nat.le_trans HP.out.fi (by decide))
        rw [hei_eq (formF_none HF1.out).1 (formF_none HF1.out).2.1] at kh
        cases hh : heiF D.filter 0 hs0 with
        | inl n =>
          rw [hh] at kh
          have HE : Bx (V = badAt ((n : Int)) 190) := ⟨by rw [HV.out, verF_hei1 HH.out HF1.out HF2.out hh]; simp [verB]⟩
          have kh' : Calls Tryz.prog 22 #[.slice L.af D.filter.length L.cf, .int .i64 0] w11x fun e w' => e = .returned (.tuple #[.slice none 0 0, badAt ((n : Int)) 190]) ∧ Below w11x.heap.size w11x w' := kh.mono fun e w' h => by obtain ⟨v, h1, h2, h3⟩ := h; exact ⟨by rw [h1, show v = _ from h2]; first | done | simp, h3⟩
          clear hh kh
          go_wp2_with fail
          refine kh'.mono ?_
          rintro e w7 ⟨rfl, hb⟩
          have HX7 : Bx _ := ⟨HX11.out.step hb⟩
          have HX8 : Bx _ := ⟨HX7.out.step (below1 w7 (.cells #[.int .i64 190, .int .i64 ((n : Int)), .int .i64 0, .bool true, .bool false] 60))⟩
          clear hb kh' p12
          obtain ⟨⟨z0, z1, z2, z3, z4⟩, y⟩ := bad_zy HX8.out.bad
          have y0 := y 0
          have y1 := y 1
          have y2 := y 2
          have y3 := y 3
          have y4 := y 4
          clear y
          go_wp2
          refine bodyPost_ret (by simp [results, Tryz.results5, go_sem, z0, z1, z2, z3, z4, y0, y1, y2, y3, y4]; first | done | rfl) rfl ?_
          exact ⟨by first | (rw [HE.out]; done) | (rw [HE.out]; rfl), by rw [HZ.out]; exact bset5 HX8.out.below _ _ _ _ _⟩
        | inr ls =>
          rw [hh] at kh
          have HL1 : Bx (∃ ls, heiF D.filter 0 hs0 = .inr ls) := ⟨⟨_, hh⟩⟩
          have kh' : Calls Tryz.prog 22 #[.slice L.af D.filter.length L.cf, .int .i64 0] w11x fun e w' => ∃ b, e = .returned (.tuple #[.slice (some ⟨b, 0, none⟩) ls.length ls.length, badV 0]) ∧ Below w11x.heap.size w11x w' := kh.mono fun e w' h => by obtain ⟨v, h1, ⟨b, h2, _⟩, h3⟩ := h; exact ⟨b, by rw [h1, h2], h3⟩
          clear hh kh
          go_wp2_with fail
          refine kh'.mono ?_
          rintro e w12 ⟨hb_, rfl, hb⟩
          have HX12 : Bx _ := ⟨(HX11.out.step hb).step (below1 w12 (.cells #[.int .i64 0, .int .i64 0, .int .i64 0, .bool false, .bool false] 60))⟩
          clear hb kh' p12
          go_upto_region 13 with (fail)
          generalize (w12.alloc (.cells #[.int .i64 0, .int .i64 0, .int .i64 0, .bool false, .bool false] 60)) = w12x at *
          have p13 := HX12.out.box.cell 13 _ rfl
          have kh := rheights_any L.ao D.output L.co D.filter.length w12x HX12.out.mem.output HB.out.1.output (formF_none HF2.out).1 (formF_none HF2.out).2.1 (Nat.le_trans HP.out.fi (by decide)) (Nat.le_trans HP.out.ou (by decide))
          rw [hei_eq (formF_none HF2.out).1 (formF_none HF2.out).2.1] at kh
          cases hh : heiF D.output 0 hs0 with
          | inl n =>
            rw [hh] at kh
            have HE : Bx (V = badAt (((D.filter.length : Nat) : Int) + (n : Int)) 190) := ⟨by rw [HV.out, verF_hei2 HH.out HF1.out HF2.out HL1.out.choose_spec hh]; simp [verB]⟩
            have kh' : Calls Tryz.prog 22 #[.slice L.ao D.output.length L.co, .int .i64 (D.filter.length : Nat)] w12x fun e w' => e = .returned (.tuple #[.slice none 0 0, badAt (((D.filter.length : Nat) : Int) + (n : Int)) 190]) ∧ Below w12x.heap.size w12x w' := kh.mono fun e w' h => by obtain ⟨v, h1, h2, h3⟩ := h; exact ⟨by rw [h1, show v = _ from h2]; first | done | simp, h3⟩
            clear hh kh
            go_wp2_with fail
            refine kh'.mono ?_
            rintro e w7 ⟨rfl, hb⟩
            have HX7 : Bx _ := ⟨HX12.out.step hb⟩
            have HX8 : Bx _ := ⟨HX7.out.step (below1 w7 (.cells #[.int .i64 190, .int .i64 (((D.filter.length : Nat) : Int) + (n : Int)), .int .i64 0, .bool true, .bool false] 60))⟩
            clear hb kh' p13
            obtain ⟨⟨z0, z1, z2, z3, z4⟩, y⟩ := bad_zy HX8.out.bad
            have y0 := y 0
            have y1 := y 1
            have y2 := y 2
            have y3 := y 3
            have y4 := y 4
            clear y
            go_wp2
            refine bodyPost_ret (by simp [results, Tryz.results5, go_sem, z0, z1, z2, z3, z4, y0, y1, y2, y3, y4]; first | done | rfl) rfl ?_
            exact ⟨by first | (rw [HE.out]; done) | (rw [HE.out]; rfl), by rw [HZ.out]; exact bset5 HX8.out.below _ _ _ _ _⟩
          | inr ls =>
            rw [hh] at kh
            have HL2 : Bx (∃ ls, heiF D.output 0 hs0 = .inr ls) := ⟨⟨_, hh⟩⟩
            have kh' : Calls Tryz.prog 22 #[.slice L.ao D.output.length L.co, .int .i64 (D.filter.length : Nat)] w12x fun e w' => ∃ b, e = .returned (.tuple #[.slice (some ⟨b, 0, none⟩) ls.length ls.length, badV 0]) ∧ Below w12x.heap.size w12x w' := kh.mono fun e w' h => by obtain ⟨v, h1, ⟨b, h2, _⟩, h3⟩ := h; exact ⟨b, by rw [h1, h2], h3⟩
            clear hh kh
            go_wp2_with fail
            refine kh'.mono ?_
            rintro e w13 ⟨hb_, rfl, hb⟩
            have HX13 : Bx _ := ⟨(HX12.out.step hb).step (below1 w13 (.cells #[.int .i64 0, .int .i64 0, .int .i64 0, .bool false, .bool false] 60))⟩
            clear hb kh' p13
            go_upto_region 16 with (fail)
            generalize (w13.alloc (.cells #[.int .i64 0, .int .i64 0, .int .i64 0, .bool false, .bool false] 60)) = w13x at *
            have p0 := HX13.out.box.cell 0 _ rfl
            have p1 := HX13.out.box.cell 1 _ rfl
            have p2 := HX13.out.box.cell 2 _ rfl
            have p3 := HX13.out.box.cell 3 _ rfl
            have p4 := HX13.out.box.cell 4 _ rfl
            have p5 := HX13.out.box.cell 5 _ rfl
            have p6 := HX13.out.box.cell 6 _ rfl
            have p7 := HX13.out.box.cell 7 _ rfl
            have p8 := HX13.out.box.cell 8 _ rfl
            have p9 := HX13.out.box.cell 9 _ rfl
            have p10 := HX13.out.box.cell 10 _ rfl
            have p11 := HX13.out.box.cell 11 _ rfl
            have p12 := HX13.out.box.cell 12 _ rfl
            have p13 := HX13.out.box.cell 13 _ rfl
            have kem := remitted_any D L w13x HX13.out.mem HB.out.1 HP.out
            cases hem : emitB D with
            | true =>
              rw [hem] at kem
              have HE : Bx (V = badV 0) := ⟨by rw [HV.out, (verF_emit HH.out HF1.out HF2.out HL1.out.choose_spec HL2.out.choose_spec).1 ((emitB_iff D).1 hem)]; rfl⟩
              clear hem
              go_wp2_with fail
              refine kem.mono ?_
              rintro e w14 ⟨rfl, hb⟩
              have HX14 : Bx _ := ⟨HX13.out.step hb⟩
              clear hb kem p0 p1 p2 p3 p4 p5 p6 p7 p8 p9 p10 p11 p12 p13
              obtain ⟨⟨z0, z1, z2, z3, z4⟩, y⟩ := bad_zy HX14.out.bad
              have y0 := y 0
              have y1 := y 1
              have y2 := y 2
              have y3 := y 3
              have y4 := y 4
              clear y
              go_wp2
              refine bodyPost_ret (by simp [results, Tryz.results5, go_sem, z0, z1, z2, z3, z4, y0, y1, y2, y3, y4]; first | done | rfl) rfl ?_
              exact ⟨by first | (rw [HE.out]; done) | (rw [HE.out]; rfl), by rw [HZ.out]; exact bset5 HX14.out.below _ _ _ _ _⟩
            | false =>
              rw [hem] at kem
              have HE : Bx (V = badV 193) := ⟨by rw [HV.out, (verF_emit HH.out HF1.out HF2.out HL1.out.choose_spec HL2.out.choose_spec).2 (fun h => by rw [(emitB_iff D).2 h] at hem; cases hem)]; rfl⟩
              clear hem
              go_wp2_with fail
              refine kem.mono ?_
              rintro e w14 ⟨rfl, hb⟩
              have HX14 : Bx _ := ⟨HX13.out.step hb⟩
              clear hb kem p0 p1 p2 p3 p4 p5 p6 p7 p8 p9 p10 p11 p12 p13
              go_wp2_with fail
              refine (rnew_any 193 _).mono ?_
              rintro e w15 ⟨rfl, hb⟩
              have HX15 : Bx _ := ⟨HX14.out.step hb⟩
              clear hb
              obtain ⟨⟨z0, z1, z2, z3, z4⟩, y⟩ := bad_zy HX15.out.bad
              have y0 := y 0
              have y1 := y 1
              have y2 := y 2
              have y3 := y 3
              have y4 := y 4
              clear y
              go_wp2
              refine bodyPost_ret (by simp [results, Tryz.results5, go_sem, z0, z1, z2, z3, z4, y0, y1, y2, y3, y4]; first | done | rfl) rfl ?_
              exact ⟨by first | (rw [HE.out]; done) | (rw [HE.out]; rfl), by rw [HZ.out]; exact bset5 HX15.out.below _ _ _ _ _⟩
end Go.Proofs.YtbcajmkmadgbhaaGreatDoor
