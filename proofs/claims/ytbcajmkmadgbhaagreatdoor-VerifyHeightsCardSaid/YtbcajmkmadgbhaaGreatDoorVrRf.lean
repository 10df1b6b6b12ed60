/- Verify, the document's answer: Dead. -/
import Derived.Test.YtbcajmkmadgbhaaGreatDoorVrRg
import Derived.Test.YtbcajmkmadgbhaaGreatDoorVrBd
set_option linter.unusedSimpArgs false
set_option linter.unusedVariables false
namespace Go.Proofs.YtbcajmkmadgbhaaGreatDoor
open Go.RowKit
/-- what the document's Dead hands back -/
def RdeOut (w w' : World) (D : PrgD) (v : Value) : Prop := match verF D with
  | none => ∃ A c, v = .tuple #[.slice A (deadL D).length c, badV 0] ∧ I64L w' A (deadL D) ∧ ∀ b off, A = some ⟨b, off, none⟩ → w.heap.size ≤ b
  | some x => v = .tuple #[.slice none 0 0, verB (some x)]
theorem st0 {w : World} {X : Nat} (L : List InsD) (m : Nat) : StR w none X ((ahdF L 0) (m : Int)) (.slice none 0 0) := by
  show StR w none X (putT (fun _ => none) 0 [] (m : Int)) _
  unfold putT
  split
  · exact ⟨none, 0, rfl, RowL.nil, Nat.le_refl _, fun b off e => by cases e⟩
  · rfl
theorem come0 (L : List InsD) (m : Nat) : ((ahdF L 0) (m : Int)).isSome = if m = 0 then true else false := by
  show (putT (fun _ => none) 0 [] (m : Int)).isSome = _
  unfold putT
  by_cases h : m = 0
  · subst h; rfl
  · rw [if_neg (by omega), if_neg h]; rfl
theorem made_st (n : Nat) : madeCells #[Value.slice none 0 0] n = (List.replicate n (Value.slice none 0 0)).toArray := by
  apply Array.ext'
  rw [toList_madeCells_one]
set_option maxHeartbeats 8000000 in
set_option maxRecDepth 100000 in
theorem rdead_any (D : PrgD) (L : PLoc) (w : World) (hM : PrgM w D L) (hB : PrgB D) (hG : GlobK w) :
    Calls Tryz.prog 18 #[prgV D L] w fun e w' => ∃ v, e = .returned v ∧ RdeOut w w' D v ∧ Below w.heap.size w w' := by
  have H0 : Bx _ := ⟨EcB.alloc w D L 28 60 hM⟩
  have HB : Bx _ := ⟨And.intro hB hG⟩
  clear hM hG hB
  go_enter Tryz.func18, Tryz.ntmps18
  go_upto_region 1 with (fail)
  generalize ((w.alloc (.cells (prgC D L) 28)).alloc (.cells #[.int .i64 0, .int .i64 0, .int .i64 0, .bool false, .bool false] 60)) = w0 at *
  generalize hS : w.heap.size = S at *
  have HZ : Bx (w.heap.size = S) := ⟨hS⟩
  clear hS
  have p0 := H0.out.box.cell 0 _ rfl
  have p1 := H0.out.box.cell 1 _ rfl
  have p2 := H0.out.box.cell 2 _ rfl
  have p3 := H0.out.box.cell 3 _ rfl
  have p4 := H0.out.box.cell 4 _ rfl
  have p5 := H0.out.box.cell 5 _ rfl
  have p6 := H0.out.box.cell 6 _ rfl
  have p7 := H0.out.box.cell 7 _ rfl
  have p8 := H0.out.box.cell 8 _ rfl
  have p9 := H0.out.box.cell 9 _ rfl
  have p10 := H0.out.box.cell 10 _ rfl
  have p11 := H0.out.box.cell 11 _ rfl
  have p12 := H0.out.box.cell 12 _ rfl
  have p13 := H0.out.box.cell 13 _ rfl
  have kp := rprogram_any D L w0 H0.out.mem HB.out.1 (HB.out.2.below (by rw [HZ.out]; exact H0.out.below))
  cases hv : verF D with
  | some x =>
    obtain ⟨c, o⟩ := x
    obtain ⟨nn, bb, hu⟩ := verB_cells (c := c) (o := o)
    have hc1 := verF_pos hv
    have hcb : (c == 0) = false := by simp; omega
    have hcb2 : (c != 0) = true := by simp; omega
    rw [hv, hu] at kp
    have HE : Bx _ := ⟨And.intro hv hu⟩
    clear hv hu
    go_wp2_with fail
    refine kp.mono ?_
    rintro e w1 ⟨rfl, hb⟩
    have HC4 : Bx _ := ⟨CB.new w1 #[.int .i64 c, .int .i64 nn, .int .i64 0, .bool bb, .bool false] 60⟩
    have H1 : Bx _ := ⟨(H0.out.step hb).step (below1 w1 (.cells #[.int .i64 c, .int .i64 nn, .int .i64 0, .bool bb, .bool false] 60))⟩
    clear hb kp p0 p1 p2 p3 p4 p5 p6 p7 p8 p9 p10 p11 p12 p13
    go_upto_region 2 with (fail)
    generalize (w1.alloc (.cells #[.int .i64 c, .int .i64 nn, .int .i64 0, .bool bb, .bool false] 60)) = w2 at *
    generalize w1.heap.size = NB at *
    have n0 := HC4.out.at 0 _ rfl
    have n1 := HC4.out.at 1 _ rfl
    have n2 := HC4.out.at 2 _ rfl
    have n3 := HC4.out.at 3 _ rfl
    have n4 := HC4.out.at 4 _ rfl
    go_wp2_with fail
    obtain ⟨⟨z0, z1, z2, z3, z4⟩, y⟩ := bad_zy H1.out.bad
    have y0 := y 0
    have y1 := y 1
    have y2 := y 2
    have y3 := y 3
    have y4 := y 4
    clear y
    go_region
    go_wp2
    refine bodyPost_ret (v := .tuple #[.slice none 0 0, .agg #[.int .i64 c, .int .i64 nn, .int .i64 0, .bool bb, .bool false]]) (by simp [results, Tryz.results18, go_sem, z0, z1, z2, z3, z4, y0, y1, y2, y3, y4]; first | done | rfl) rfl ?_
    exact ⟨_, rfl, by unfold RdeOut; rw [HE.out.1]; simp only; rw [HE.out.2], by rw [HZ.out]; exact (bset5 H1.out.below _ _ _ _ _).drew⟩
  | none =>
    rw [hv] at kp
    have HV : Bx _ := ⟨hv⟩
    clear hv
    simp only [verB] at kp
    go_wp2_with fail
    refine kp.mono ?_
    rintro e w1 ⟨rfl, hb⟩
    have HC4 : Bx _ := ⟨CB.new w1 badC 60⟩
    have H1 : Bx _ := ⟨(H0.out.step hb).step (below1 w1 (.cells badC 60))⟩
    clear hb kp p0 p1 p2 p3 p4 p5 p6 p7 p8 p9 p10 p11 p12 p13
    go_upto_region 2 with (fail)
    generalize (w1.alloc (.cells #[.int .i64 0, .int .i64 0, .int .i64 0, .bool false, .bool false] 60)) = w2 at *
    generalize w1.heap.size = NB at *
    have n0 := HC4.out.at 0 _ rfl
    obtain ⟨hs0, hP0, hlen⟩ := pass_of HV.out
    have HP : Bx _ := ⟨hP0⟩
    clear hP0
    have hms := run_make_row' (P := Tryz.prog) 30 62 (.slice none 0 0) 24 Tryz.underlying30 (by kernel_rfl) rfl .i64 .i64 D.filter.length (by omega) (by omega)
    have hmb := run_make_row' (P := Tryz.prog) 110 4 (.bool false) 1 Tryz.underlying110 (by kernel_rfl) rfl .i64 .i64 D.filter.length (by omega) (by omega)
    obtain ⟨Afi, hAfi⟩ : ∃ x, L.af = x := ⟨_, rfl⟩
    have p12 : w2.cell? ⟨S, 12, none⟩ = some (.slice Afi D.filter.length L.cf) := by rw [← hAfi]; exact H1.out.box.cell 12 _ rfl
    have HAF : Bx _ := ⟨hAfi⟩
    clear hAfi
    have hpos : decide ((0 : Int) < (D.filter.length : Int)) = true := decide_eq_true (by have := HP.out.pos; omega)
    have hpos2 := HP.out.pos
    have HX0 : Bx (RdB w ((w2.alloc (.cells (madeCells #[.bool false] D.filter.length) 4)).alloc (.cells (madeCells #[.slice none 0 0] D.filter.length) 62)) S w2.heap.size (w2.heap.size + 1) D L (fun _ => false) (fun m => (ahdF D.filter 0) (m : Int)) none [] (.slice none 0 0)) := ⟨by
      obtain ⟨T0, h0⟩ := H1.out.bad
      have hlt := block_lt h0
      refine ⟨H1.out.step (below2 _ _ _), ⟨List.replicate D.filter.length false, ⟨4, ?_⟩, by simp, fun m hm => by rw [List.getElem?_replicate, if_pos hm]⟩, ⟨List.replicate D.filter.length (.slice none 0 0), ⟨62, ?_⟩, by simp, fun m hm => ⟨_, by rw [List.getElem?_replicate, if_pos hm], st0 _ _⟩⟩, StkAt.nil _ _ _, hlt, by omega, fun x e => by cases e⟩
      · rw [(below1 (w2.alloc _) _).block w2.heap.size (by simp only [heap_push, Array.size_push]; omega), heap_alloc_new w2 _, made_bool]
      · have h := heap_alloc_new (w2.alloc (.cells (madeCells #[.bool false] D.filter.length) 4)) (.cells (madeCells #[.slice none 0 0] D.filter.length) 62)
        rw [show (w2.alloc (.cells (madeCells #[.bool false] D.filter.length) 4)).heap.size = w2.heap.size + 1 by simp only [heap_push, Array.size_push]] at h
        rw [h, made_st]⟩
    go_upto_region 7 with (fail)
    generalize ((w2.alloc (.cells (madeCells #[.bool false] D.filter.length) 4)).alloc (.cells (madeCells #[.slice none 0 0] D.filter.length) 62)) = w3 at *
    generalize w2.heap.size = cb at *
    clear n0 p12 hms hmb
    obtain ⟨c0, fz0⟩ := HX0.out.cAt (m := 0) HP.out.pos
    have HX1 : Bx (RdB w (w3.setCell ⟨cb, 0, none⟩ (.bool true)) S cb (cb + 1) D L (fun m => ((ahdF D.filter 0) (m : Int)).isSome) (fun m => (ahdF D.filter 0) (m : Int)) none [] (.slice none 0 0)) := ⟨(HX0.out.setC (m := 0) HP.out.pos).congr (fun m hm => come0 _ m) (fun m hm => rfl)⟩
    clear HX0
    go_upto_region 8 with (fail)
    generalize (w3.setCell ⟨cb, 0, none⟩ (.bool true)) = w4 at *
    clear c0 fz0 hpos
    go_wp2_with fail
    go_loopw [8, 9] (fun o i wr => ∃ (j : Nat) (B : Option Nat) (d : List Int), j ≤ D.filter.length ∧ d.length ≤ j ∧ i = .int .i64 (j : Int) ∧ Bx (RdB w wr S cb (cb + 1) D L (fun m => ((ahdF D.filter j) (m : Int)).isSome) (fun m => (ahdF D.filter j) (m : Int)) B d o ∧ deadF (D.filter.drop j) j (ahdF D.filter j) d = deadL D)) (fun _ i _ => D.filter.length - (intOf i).toNat)
    case atStart => exact ⟨0, none, [], by omega, by simp, rfl, ⟨HX1.out, rfl⟩⟩
    case round =>
      obtain ⟨j, B, d, hj, hdl, rfl, HR⟩ := hrel
      clear HX1
      by_cases hlt : j < D.filter.length
      · obtain ⟨pb, off, hA, hrow⟩ := HR.out.1.ec.mem.filter.row (by omega)
        have hx : D.filter[j]? = some D.filter[j] := List.getElem?_eq_getElem hlt
        have hA2 : Afi = some ⟨pb, off, none⟩ := by rw [← HAF.out]; exact hA
        subst hA2
        have HF : Bx _ := ⟨And.intro (deadF_round hx d) (And.intro hx hA)⟩
        clear hA
        have HIB : Bx (InsB D.filter[j]) := ⟨HB.out.1.filter _ (List.getElem_mem hlt)⟩
        have a0 : wr.cell? ⟨pb, off + j * 3, none⟩ = some (.int .u8 (D.filter[j].c : Int)) := hrow j _ hx 0 _ rfl
        have a1 : wr.cell? ⟨pb, off + j * 3 + 1, none⟩ = some (.int .i64 D.filter[j].a) := hrow j _ hx 1 _ rfl
        have a2 : wr.cell? ⟨pb, off + j * 3 + 2, none⟩ = some (.int .i64 D.filter[j].b) := hrow j _ hx 2 _ rfl
        clear hrow hx
        have HRD : Bx _ := ⟨HR.out.2⟩
        generalize D.filter[j] = i at *
        obtain ⟨ic, ia, ib⟩ := i
        simp only [] at a0 a1 a2
        obtain ⟨c0, fz0⟩ := HR.out.1.cAt (m := j) hlt
        obtain ⟨sv, s0, fs0, hst⟩ := HR.out.1.sAt (m := j) hlt
        cases hs : ahdF D.filter j (j : Int) with
        | none =>
         as_aux_lemma =>
          have HN : Bx (deadS D.filter j d = d ++ [(j : Int)] ∧ ahdF D.filter (j + 1) = ahdF D.filter j) := ⟨by unfold deadS; rw [hs], ahdF_dead HF.out.2.1 hs⟩
          rw [hs] at c0
          simp only [Option.isSome_none] at c0
          obtain ⟨i0, hi, hiz, hi1, hi2⟩ := info_parts (show (Tryz.prog.info? 3).map (fun i => (i.zero, i.size, i.bytes)) = some (some (.int .i64 0), 1, 8) by kernel_rfl)
          have HI0 : Bx (Tryz.prog.info? 3 = some i0 ∧ i0.zero = some (.int .i64 0) ∧ i0.size = 1 ∧ i0.bytes = 8) := ⟨hi, hiz, hi1, hi2⟩
          clear hi hiz hi1 hi2 hs hst s0 fs0 a0 a1 a2 fz0
          have HO6 : Bx _ := ⟨HR.out.1.step (below1 wr (.cells #[.int .i64 (j : Int)] 3))⟩
          go_wp2_with (first | (at_builtin; refine wpList_stk_push (f := fun z : Int => Value.int .i64 z) rfl _ _ 62 rfl Tryz.underlying62 HI0.out.1 HI0.out.2.1 HI0.out.2.2.1 HI0.out.2.2.2 rfl rfl HO6.out.own ⟨wr.heap.size, 0, none⟩ 1 (j : Int) rfl (newsI wr _ _ 0 _ rfl) rfl (by unfold maxLen; omega) (by omega) ?_; intro B' v3 w5 hst htu hB'; have HN3 : Bx _ := ⟨HO6.out.more htu hB' hst⟩; clear hst htu hB') | fail)
          exact ⟨⟨j + 1, B', d ++ [(j : Int)], by omega, by rw [List.length_append, List.length_singleton]; omega, by rw [Int.natCast_succ], ⟨by rw [HN.out.2]; exact HN3.out, by rw [← HN.out.1, ← HF.out.1]; exact HRD.out⟩⟩, by simp only [intOf]; omega⟩
        | some s =>
          have HN : Bx (deadS D.filter j d = d ∧ ahdF D.filter (j + 1) = stepD ⟨ic, ia, ib⟩ j (ahdF D.filter j) s) := ⟨by unfold deadS; rw [hs], ahdF_live HF.out.2.1 hs⟩
          have HS : Bx _ := ⟨dead_round HP.out HF.out.2.1 hs⟩
          have HWH : Bx _ := ⟨ways_hs HP.out HF.out.2.1 hs⟩
          rw [hs] at c0
          simp only [Option.isSome_some] at c0
          have hst2 : StR wr B (cb + 1 + 1) (some s) sv := by have h := hst; simp only [hs] at h; exact h
          obtain ⟨As, ks, rfl, hrs, hks, hbs⟩ := hst2
          have HBE : Bx (aftR ic (tauL s) = tauL (behT ic s)) := ⟨aft_beh HS.out.thr HS.out.c1 HS.out.c2 HS.out.takes⟩
          have HFI : Bx (InsL wr (some ⟨pb, off, none⟩) D.filter) := ⟨by have h := HR.out.1.ec.mem.filter; rw [HAF.out] at h; exact h⟩
          have htp : jumpC ic = true → 0 < (tauL s).length := fun h => by
            have h1 := HS.out.takes
            rw [tauL_len]
            unfold jumpC at h
            simp at h
            rcases h with rfl | rfl
            · change (1 : Int) ≤ _ at h1; omega
            · change (1 : Int) ≤ _ at h1; omega
          have kw := ways_any (some ⟨pb, off, none⟩) As D.filter L.cf j ⟨ic, ia, ib⟩ (tauL s) ks wr HFI.out HF.out.2.1 hlen hrs (by rw [tauL_len]; exact HS.out.small) (tauL_thr s) HS.out.c2 htp
          rw [tauL_len] at kw
          have HST : Bx _ := ⟨And.intro hrs (And.intro hks hbs)⟩
          clear htp hs hst hrs hks hbs
          go_wp2_with fail
          refine kw.mono ?_
          rintro e w5 ⟨v, rfl, ⟨Aw, cw, rfl, hrw, hnw, _⟩, hb⟩
          obtain ⟨W, hW⟩ : ∃ W, waysR ⟨ic, ia, ib⟩ j D.filter.length (tauL s) = W := ⟨_, rfl⟩
          rw [hW] at hrw
          rw [hW]
          have HWW : Bx _ := ⟨hW⟩
          have hWl : W.length ≤ 2 := by
            rw [← hW]
            unfold waysR
            simp only
            repeat' split
            all_goals simp
          have HR5 : Bx _ := ⟨And.intro (HR.out.1.step hb) (And.intro hrw (HST.out.1.below hb))⟩
          have HNW : Bx (∀ b o, Aw = some ⟨b, o, none⟩ → cb + 1 < b) := ⟨fun b o e => by have := hnw b o e; have := HR.out.1.sbl; omega⟩
          have b0 := (hb.cell (cell_lt a0)).trans a0
          have b1 := (hb.cell (cell_lt a1)).trans a1
          have b2 := (hb.cell (cell_lt a2)).trans a2
          have s1 := (hb.cell (cell_lt s0)).trans s0
          clear kw hrw hnw hb hW a0 a1 a2 s0 fs0 c0 fz0
          have ka := after_any ic ia ib As (tauL s) ks w5.drew (HR5.out.2.2.below ((Below.refl _ _).drew)) (by rw [tauL_len]; exact HS.out.small) (tauL_thr s) HS.out.c1 HS.out.c2 (by rw [tauL_len]; exact HS.out.takes) (by rw [tauL_len]; exact HST.out.2.1)
          rw [tauL_len, HBE.out] at ka
          go_wp2_with fail
          go_still_tail 8, (by kernel_rfl)
          repeat still_step
          change wpList _ _ _ _ _ w5.drew
          go_wp2_with fail
          refine ka.mono ?_
          rintro e w6 ⟨v, rfl, ⟨An, cn, rfl, hrn, hnn, _⟩, hb⟩
          rw [tauL_len]
          obtain ⟨N, hN⟩ : ∃ N, behT ic s = N := ⟨_, rfl⟩
          rw [hN] at hrn
          rw [hN]
          have hNs : N.length ≤ 1000 := by rw [← hN]; exact HS.out.bs
          have HNN : Bx _ := ⟨And.intro hN (show Thr N by rw [← hN]; exact behT_thr HS.out.thr)⟩
          have HR6 : Bx _ := ⟨And.intro ((HR5.out.1.step ((Below.refl _ _).drew)).step hb) (And.intro ((HR5.out.2.1.below ((Below.refl _ _).drew)).below hb) hrn)⟩
          have HAN : Bx (∀ b o, An = some ⟨b, o, none⟩ → cb + 1 < b) := ⟨fun b o e => by have h1 := hnn b o e; have := HR5.out.1.sbl; have h2 : w5.heap.size ≤ b := h1; omega⟩
          obtain ⟨F, hF⟩ : ∃ F, ahdF D.filter j = F := ⟨_, rfl⟩
          have HFF : Bx _ := ⟨hF⟩
          have HLN : Bx (∀ (m : Nat) t, m < D.filter.length → F m = some t → hs0[m]? = some (t.length : Int)) := ⟨by rw [← hF]; exact ahdF_len HP.out.formed HP.out.hei HP.out.ok HP.out.pos j⟩
          have HTF : Bx (∀ m t, F m = some t → Thr t) := ⟨by rw [← hF]; exact fun m t h => ahdF_thr j m t h⟩
          clear ka hrn hnn hb hN b0 b1 b2 s1 hF
          go_wp2_with fail
          go_loopw [12] (fun vk wq => ∃ q : Nat, q ≤ W.length ∧ vk = .int .i64 (q : Int) ∧ Bx (RdB w wq S cb (cb + 1) D L (fun m => ((foldC (W.take q) N F) (m : Int)).isSome) (fun m => (foldC (W.take q) N F) (m : Int)) B d u8 ∧ I64L wq Aw W ∧ I64L wq An (tauL N))) (fun vk _ => W.length - (intOf vk).toNat)
          case atStart => exact ⟨0, by omega, rfl, ⟨by have h := HR6.out; rw [HFF.out] at h; exact h⟩⟩
          case round =>
            obtain ⟨q, hq, rfl, HQ⟩ := hrel
            clear HR6
            by_cases hlq : q < W.length
            · obtain ⟨x, hx⟩ : ∃ x, W[q]? = some x := ⟨_, List.getElem?_eq_getElem hlq⟩
              obtain ⟨m, rfl, hm, hhm⟩ := HWH.out x (by rw [HWW.out]; exact List.mem_of_getElem? hx)
              obtain ⟨bw, ow, rfl, hcw⟩ := row_one HQ.out.2.1 (by omega)
              have rw0 : wr.cell? ⟨bw, ow + q, none⟩ = some (.int .i64 (m : Int)) := hcw q _ hx
              have HFT : Bx (foldC (W.take (q + 1)) N F = comeT (foldC (W.take q) N F) (m : Int) N) := ⟨foldC_take hx⟩
              have HL1 := foldC_len (N := D.filter.length) (hs := hs0) (b := N) (W.take q) F HLN.out (fun y hy => by
                obtain ⟨m', h1, h2, h3⟩ := HWH.out y (by rw [HWW.out]; exact List.mem_of_mem_take hy)
                exact ⟨m', h1, h2, by rw [← HNN.out.1]; exact h3⟩)
              have HT1 := foldC_thr (b := N) HNN.out.2 (W.take q) F HTF.out
              obtain ⟨G, hG⟩ : ∃ G, foldC (W.take q) N F = G := ⟨_, rfl⟩
              rw [hG] at HL1 HT1 HFT
              have hQ := HQ.out
              rw [hG] at hQ
              have HQ2 : Bx _ := ⟨hQ⟩
              clear hcw hx hQ hG HQ
              obtain ⟨c1, fz1⟩ := HQ2.out.1.cAt hm
              obtain ⟨sv, s1, fs1, hst⟩ := HQ2.out.1.sAt hm
              have kj : ∃ t', Bx (∀ j : Nat, (if j = m then some t' else G (j : Int)) = comeT G (m : Int) N (j : Int)) ∧ Calls Tryz.prog 65 #[.bool (G (m : Int)).isSome, sv, .slice An N.length cn] wr.drew fun e w' => ∃ Aj cj, e = .returned (.slice Aj t'.length cj) ∧ Bx (I64L w' Aj (tauL t') ∧ t'.length ≤ cj ∧ ∀ b o, Aj = some ⟨b, o, none⟩ → wr.heap.size ≤ b) ∧ Below wr.heap.size wr.drew w' := by
                have hN2 := HQ2.out.2.2.below (show Below wr.heap.size wr wr.drew from (Below.refl _ _).drew)
                cases hGm : G (m : Int) with
                | none =>
                  rw [hGm] at hst
                  have e : sv = .slice none 0 0 := hst
                  subst e
                  refine ⟨N, ⟨fun j => ?_⟩, ?_⟩
                  · unfold comeT putT
                    rw [hGm]
                    by_cases h : j = m
                    · subst h; simp
                    · rw [if_neg h, if_neg (by omega)]
                  · have h := joined_any false none An [] (tauL N) 0 cn wr.drew RowL.nil hN2 (fun h => by cases h) (by rw [tauL_len]; exact hNs) (by simp)
                    rw [tauL_len, join_new] at h
                    refine h.mono ?_
                    rintro e w' ⟨v, rfl, ⟨Aj, cj, rfl, h1, h2, h3⟩, hb⟩
                    rw [tauL_len] at h3 ⊢
                    exact ⟨Aj, cj, rfl, ⟨h1, h3, h2⟩, hb⟩
                | some t =>
                  rw [hGm] at hst
                  obtain ⟨At, kt, e, hrt, hkt, hbt⟩ := hst
                  subst e
                  have htl : t.length = N.length := by
                    have h1 := HL1 m t hm hGm
                    rw [hhm] at h1
                    injection h1 with h1
                    rw [HNN.out.1] at h1
                    omega
                  refine ⟨togT t N, ⟨fun j => ?_⟩, ?_⟩
                  · unfold comeT putT
                    rw [hGm]
                    by_cases h : j = m
                    · subst h; simp
                    · rw [if_neg h, if_neg (by omega)]
                  · have h := joined_any true At An (tauL t) (tauL N) kt cn wr.drew (hrt.below ((Below.refl _ _).drew)) hN2 (fun _ => by rw [tauL_len, tauL_len]; exact htl) (by rw [tauL_len]; exact hNs) (by rw [tauL_len]; omega)
                    rw [tauL_len, tauL_len, join_tog (HT1 m t hGm) HNN.out.2 htl] at h
                    refine h.mono ?_
                    rintro e w' ⟨v, rfl, ⟨Aj, cj, rfl, h1, h2, h3⟩, hb⟩
                    rw [tauL_len] at h3 ⊢
                    exact ⟨Aj, cj, rfl, ⟨h1, h3, h2⟩, hb⟩
              obtain ⟨t', HCT, kj⟩ := kj
              have HBo : Bx _ := ⟨HQ2.out.1.own.lt⟩
              obtain ⟨bc, hbc⟩ : ∃ b, (G (m : Int)).isSome = b := ⟨_, rfl⟩
              rw [hbc] at kj c1
              clear HL1 HT1 hst hbc
              go_upto_region 20 with (fail)
              clear rw0
              go_region_with (first | (go_at_call 65; refine kj.mono ?_; rintro e w7 ⟨Aj, cj, rfl, hj7, hb7⟩; have k1 := (hb7.cell (cell_lt (show wr.drew.cell? _ = _ from s1))).trans s1; have k2 := (hb7.frozen (cell_lt (show wr.drew.cell? _ = _ from s1))).trans fs1; have H7 := Bx.mk (And.intro hj7.out hb7); clear hj7 hb7))
              all_goals
                have HQ7 : Bx (RdB w w7 S cb (cb + 1) D L (fun j => (G (j : Int)).isSome) (fun j => G (j : Int)) B d u8 ∧ I64L w7 (some ⟨bw, ow, none⟩) W ∧ I64L w7 An (tauL N)) := ⟨(HQ2.out.1.step ((Below.refl _ _).drew)).step H7.out.2, (HQ2.out.2.1.below ((Below.refl _ _).drew)).below H7.out.2, (HQ2.out.2.2.below ((Below.refl _ _).drew)).below H7.out.2⟩
                have HQ8 : Bx (RdB w (w7.setCell ⟨cb + 1, m, none⟩ (.slice Aj t'.length cj)) S cb (cb + 1) D L (fun j => (G (j : Int)).isSome) (fun j => if j = m then some t' else G (j : Int)) B d u8) := ⟨HQ7.out.1.setS hm H7.out.1.1 H7.out.1.2.1 (fun b o e hp => by
                  obtain ⟨b', o', e', hl'⟩ := RowL.row_lt H7.out.1.1 (fun _ => by simp) (by rw [tauL_len]; exact hp)
                  rw [e] at e'
                  injection e' with e'
                  injection e' with e1 e2
                  have h1 := H7.out.1.2.2 b o e
                  have h2 := HQ2.out.1.sbl
                  refine ⟨by omega, by rw [e1]; exact hl', fun eB => by have := HBo.out b eB; omega⟩)⟩
                obtain ⟨c8, fz8⟩ := HQ8.out.cAt hm
                have HQ9 : Bx (RdB w ((w7.setCell ⟨cb + 1, m, none⟩ (.slice Aj t'.length cj)).setCell ⟨cb, m, none⟩ (.bool true)) S cb (cb + 1) D L (fun m => ((foldC (W.take (q + 1)) N F) (m : Int)).isSome) (fun m => (foldC (W.take (q + 1)) N F) (m : Int)) B d u8 ∧ I64L ((w7.setCell ⟨cb + 1, m, none⟩ (.slice Aj t'.length cj)).setCell ⟨cb, m, none⟩ (.bool true)) (some ⟨bw, ow, none⟩) W ∧ I64L ((w7.setCell ⟨cb + 1, m, none⟩ (.slice Aj t'.length cj)).setCell ⟨cb, m, none⟩ (.bool true)) An (tauL N)) := ⟨(HQ8.out.setC hm).congr (fun j hj => by
                    rw [HFT.out, ← HCT.out j]
                    by_cases h : j = m
                    · rw [if_pos h, if_pos h]; rfl
                    · rw [if_neg h, if_neg h]) (fun j hj => by rw [HFT.out, ← HCT.out j]),
                  row_turned (row_turned HQ7.out.2.1 (Turned.set (cb + 1) m _) (fun b o e _ hb => by simp at hb; have := HNW.out b o e; omega)) (Turned.set cb m _) (fun b o e _ hb => by simp at hb; have := HNW.out b o e; omega),
                  row_turned (row_turned HQ7.out.2.2 (Turned.set (cb + 1) m _) (fun b o e _ hb => by simp at hb; have := HAN.out b o e; omega)) (Turned.set cb m _) (fun b o e _ hb => by simp at hb; have := HAN.out b o e; omega)⟩
                clear HQ7 HQ8 H7 k1 k2 s1 fs1 c1 fz1 kj
                go_wp2_with fail
                exact ⟨⟨q + 1, by omega, by rw [Int.natCast_succ], HQ9⟩, by simp only [intOf]; omega⟩
            · have hqW : q = W.length := by omega
              have HZ2 : Bx (RdB w wr S cb (cb + 1) D L (fun m => ((ahdF D.filter (j + 1)) (m : Int)).isSome) (fun m => (ahdF D.filter (j + 1)) (m : Int)) B d u8) := ⟨by
                have h := HQ.out.1
                rw [hqW, List.take_of_length_le (Nat.le_refl _)] at h
                have he : ∀ m, m < D.filter.length → ahdF D.filter (j + 1) (m : Int) = foldC W N F (m : Int) := fun m hm => by
                  rw [HN.out.2, HFF.out, ← fold_step HS.out.thr m hm, HNN.out.1, HWW.out]; rfl
                exact h.congr (fun m hm => by rw [he m hm]) (fun m hm => he m hm)⟩
              clear HQ
              go_wp2_with fail
              exact ⟨⟨j + 1, B, d, by omega, by omega, by rw [Int.natCast_succ], ⟨HZ2.out, by rw [← HN.out.1, ← HF.out.1]; exact HRD.out⟩⟩, by simp only [intOf]; omega⟩
      · have hd : d = deadL D := by
          have h := HR.out.2
          rw [show j = D.filter.length by omega, deadF_last] at h
          exact h
        obtain ⟨A, c, rfl, hrow, hnew⟩ := StkI.row HR.out.1.own
        have HE : Bx (I64L wr A d ∧ (∀ b off, A = some ⟨b, off, none⟩ → B = some b)) := ⟨hrow, hnew⟩
        have HDD : Bx _ := ⟨hd⟩
        clear hrow hnew hd
        obtain ⟨⟨z0, z1, z2, z3, z4⟩, y⟩ := bad_zy HR.out.1.ec.bad
        have y0 := y 0
        have y1 := y 1
        have y2 := y 2
        have y3 := y 3
        have y4 := y 4
        clear y
        go_wp2
        refine bodyPost_ret (v := .tuple #[.slice A d.length c, badV 0]) (by simp [results, Tryz.results18, go_sem, z0, z1, z2, z3, z4, y0, y1, y2, y3, y4]; first | done | rfl) rfl ?_
        refine ⟨_, rfl, ?_, by rw [HZ.out]; exact bset5 HR.out.1.ec.below _ _ _ _ _⟩
        unfold RdeOut
        rw [HV.out]
        refine ⟨A, c, by rw [HDD.out], ?_, fun b off e => by have h1 := HR.out.1.bo b (HE.out.2 b off e); have := HR.out.1.s1; have := HZ.out; omega⟩
        rw [← HDD.out]
        have hT : Turned [S + 1] wr (((((wr.setCell ⟨S + 1, 0, none⟩ (.int .i64 0)).setCell ⟨S + 1, 1, none⟩ (.int .i64 0)).setCell ⟨S + 1, 2, none⟩ (.int .i64 0)).setCell ⟨S + 1, 3, none⟩ (.bool false)).setCell ⟨S + 1, 4, none⟩ (.bool false)) := ((((Turned.set _ _ _).trans (Turned.set _ _ _)).trans (Turned.set _ _ _)).trans (Turned.set _ _ _)).trans (Turned.set _ _ _)
        exact row_turned HE.out.1 hT (fun b off e _ hb => by simp at hb; have h1 := HR.out.1.bo b (HE.out.2 b off e); have := HR.out.1.s1; omega)
end Go.Proofs.YtbcajmkmadgbhaaGreatDoor
