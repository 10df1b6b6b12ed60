/- weirmem.Book.aloneEntries, the first loops: the marks are written. -/
import Derived.Test.YtlodgmmhaolmaaaAl1
import Derived.Deep.RegionHeld3
set_option linter.unusedSimpArgs false
set_option linter.unusedVariables false
namespace Go.Proofs.Ytlodgmmhaolmaaa
open Go.RowKit
theorem own_at {w : World} {base m : Nat} {u : Value} {zs : List SlE} (h : w.ownsRow base 23 1 u zs.length (slC zs)) (hm : zs.length = m) : ∃ A cap, u = .slice A m cap ∧ (0 < m → ∃ g, A = some ⟨g, 0, none⟩ ∧ ∀ i, i < m → w.cell? ⟨g, i, none⟩ = some (slV (xAt zs i))) := by
  subst hm
  rcases h with ⟨h1, ⟨hv, hn⟩ | ⟨g, cap, cur, hv, hb, hg, r⟩⟩
  · exact ⟨none, 0, by rw [hv, hn], fun h0 => by omega⟩
  · refine ⟨_, cap, hv, fun h0 => ⟨g, rfl, fun i hi => ?_⟩⟩
    have hr : w.ownsRow base 23 1 (.slice (some ⟨g, 0, none⟩) zs.length cap) zs.length (slC zs) := ⟨h1, Or.inr ⟨g, cap, cur, rfl, hb, hg, r⟩⟩
    rw [hr.cellAt i (by omega)]
    exact slC_at zs i hi
theorem slV_one1 (x : SlE) : ∀ u ∈ [slV x], u.oneCell' = true := fun u hu => by
  simp only [List.mem_cons, List.not_mem_nil, or_false] at hu
  subst hu
  rfl
theorem Rd.cells {w : World} {xa : Option Addr} {n c j q : Nat} {mt : List UInt8} {m : Nat} (h : Rd w (xa, n, c) m j) (hq : q < m) (hm : markT j = mt) : ∃ g, xa = some ⟨g, 0, none⟩ ∧ w.cell? ⟨g, q * 2, none⟩ = some (.int .i64 0) ∧ w.cell? ⟨g, q * 2 + 1, none⟩ = some (strV mt) := by
  obtain ⟨g, _, h2, h3⟩ := h (by omega)
  exact ⟨g, h2, (h3 q hq).1, by rw [← hm]; exact (h3 q hq).2⟩
set_option maxHeartbeats 4000000 in
set_option maxRecDepth 100000 in
theorem alone_ents (b : Nat) (v : Value) (xs : List SlE) (w : World) (h0 : Mk w w b v xs 0 0) (hm : (xs.length + 1) * 24 ≤ 140737488355328) (hn20 : ∀ j, j < xs.length → ((xAt xs j).2.1 + 21) * 24 ≤ 140737488355328) :
    Calls Try.prog 54 #[.pointer (some ⟨b, 0, none⟩)] w fun e w' => e = .returned (.bool true) ∧ Turned (blocksOf xs) w w' := by
  obtain ⟨A, cap, hv, _⟩ := h0.book.at
  obtain ⟨m, hml⟩ : ∃ m, xs.length = m := ⟨_, rfl⟩
  rw [hml] at hv hm
  have H0 := Bx.mk h0
  have HM := Bx.mk hml
  have HV := Bx.mk hv
  have HL20 := Bx.mk hn20
  obtain ⟨i2, hi2, hiz2, hs2, hb2⟩ := info2
  have HI2 : Bx _ := ⟨And.intro hi2 (And.intro hiz2 (And.intro hs2 hb2))⟩
  clear h0 hml hv hn20 hi2 hiz2 hs2 hb2
  go_enter Try.func54, Try.ntmps54
  go_wp2_with fail
  go_loopw [3, 4] (fun i _ wr => ∃ n : Nat, i = .int .i64 n ∧ n ≤ m ∧ Bx (Mk w wr b v xs n 0)) (fun i _ _ => m - (intOf i).toNat)
  case atStart => exact ⟨0, rfl, by omega, H0⟩
  case round =>
    obtain ⟨n, rfl, hn, HI⟩ := hrel
    have c12 := HI.out.book.cell
    rw [HV.out] at c12
    by_cases hlt : n < m
    · go_wp2_with fail
      go_loopw [4] (fun k wr => ∃ q : Nat, k = .int .i64 q ∧ q ≤ (xAt xs n).2.1 ∧ Bx (Mk w wr b v xs n q)) (fun k _ => (xAt xs n).2.1 - (intOf k).toNat)
      case atStart => exact ⟨0, rfl, by omega, HI⟩
      case round =>
        obtain ⟨q, rfl, hq, HJ⟩ := hrel
        clear HI c12
        rename World => w0
        have d12 := HJ.out.book.cell
        rw [HV.out] at d12
        obtain ⟨A', cap', ev, hc⟩ := HJ.out.book.at
        rw [HV.out, HM.out] at ev
        injection ev with eA _ eC
        obtain ⟨vb, hvb, hcell⟩ := hc (by rw [HM.out]; omega)
        have hvA : A = some ⟨vb, 0, none⟩ := eA.trans hvb
        subst hvA
        have dn := hcell n (by rw [HM.out]; exact hlt)
        obtain ⟨x, hx⟩ : ∃ x, xAt xs n = x := ⟨_, rfl⟩
        obtain ⟨xa, xn, xc⟩ := x
        rw [hx] at dn hq ⊢
        simp only at hq ⊢
        unfold slV at dn
        simp only at dn
        have HX := Bx.mk hx
        clear hx hcell hc hvb eA eC A' cap'
        by_cases hqn : q < xn
        · obtain ⟨g, cx, ex, hmx, ⟨u0, u1, g0, g1⟩, f0, f1, _⟩ := HJ.out.row (k := q) (by rw [HM.out]; exact hlt) (by rw [HX.out]; exact hqn)
          rw [HX.out] at ex hmx
          unfold maxLen at hmx
          injection ex with ex1 ex2
          injection ex2 with _ ex2
          subst ex1 ex2
          have km : ∀ x, Calls Try.prog 75 #[.int .i64 n] x fun e w' => e = .returned (strV (markT n)) ∧ Below x.heap.size x w' := fun x => mark_any n x (by omega)
          obtain ⟨mt, hmt⟩ : ∃ mt, markT n = mt := ⟨_, rfl⟩
          have HMT := Bx.mk hmt
          rw [hmt] at km
          clear hmt
          go_wp2_with fail
          go_region_with (first | (go_at_call 75; refine (km _).mono ?_; rintro e w1 ⟨rfl, hb1⟩; have k12 : w1.cell? ⟨b, 12, none⟩ = some (.slice (some ⟨vb, 0, none⟩) m cap) := (hb1.cell (cell_lt d12)).trans d12; have kn : w1.cell? ⟨vb, n, none⟩ = some (.slice (some ⟨g, 0, none⟩) xn xc) := (hb1.cell (cell_lt dn)).trans dn; have k0 : w1.cell? ⟨g, q * 2, none⟩ = some u0 := (hb1.cell (cell_lt g0)).trans g0; have k1 : w1.cell? ⟨g, q * 2 + 1, none⟩ = some u1 := (hb1.cell (cell_lt g1)).trans g1; have k2 : w1.frozen? ⟨g, q * 2, none⟩ = false := (hb1.frozen (cell_lt g0)).trans f0; have k3 : w1.frozen? ⟨g, q * 2 + 1, none⟩ = false := (hb1.frozen (cell_lt g1)).trans f1; have HN := Bx.mk ((HJ.out.step (show Below w0.heap.size w0 w1 from (Below.refl _ _).drew.trans hb1)).put (k := q) (by rw [HM.out]; exact hlt) HX.out hqn); rw [HMT.out] at HN))
          all_goals
            go_wp2
            exact ⟨⟨q + 1, by rw [Int.natCast_succ], by omega, HN⟩, by simp only [intOf]; omega⟩
        · obtain rfl : q = xn := by omega
          have HN := Bx.mk (Mk.next (i := n) (by rw [HX.out]; exact HJ.out))
          go_wp2
          exact ⟨⟨n + 1, by rw [Int.natCast_succ], by omega, HN⟩, by simp only [intOf]; omega⟩
    · obtain rfl : n = m := by omega
      have HG := Bx.mk (Gr.start (by rw [HM.out]; exact HI.out))
      clear HI hlt hn
      go_wp2_with fail
      clear c12
      go_loopw [5, 6, 7, 8] (fun u i _ _ wr => ∃ (k : Nat) (zs : List SlE), i = .int .i64 k ∧ k ≤ n ∧ Bx (zs.length = k ∧ Gr w wr b v xs k u zs)) (fun _ i _ _ _ => n - (intOf i).toNat)
      case atStart => exact ⟨0, [], rfl, by omega, ⟨rfl, HG.out⟩⟩
      case round =>
        obtain ⟨k, zs, rfl, hk, HI⟩ := hrel
        clear HG
        rename World => w0
        have d12 := HI.out.2.book.cell
        rw [HV.out] at d12
        by_cases hlt : k < n
        · obtain ⟨A', cap', ev, hc⟩ := HI.out.2.book.at
          rw [HV.out, HM.out] at ev
          injection ev with eA _ eC
          obtain ⟨vb, hvb, hcell⟩ := hc (by rw [HM.out]; omega)
          have hvA : A = some ⟨vb, 0, none⟩ := eA.trans hvb
          subst hvA
          have dn := hcell k (by rw [HM.out]; exact hlt)
          have HJ0 := Bx.mk (Gi.start HI.out.2 HI.out.1 (by rw [HM.out]; exact hlt))
          have hb20 := HL20.out k (by rw [HM.out]; exact hlt)
          obtain ⟨x, hx⟩ : ∃ x, xAt xs k = x := ⟨_, rfl⟩
          have hxn : (xAt xs k).2.1 = x.2.1 := by rw [hx]
          rw [hx] at dn HJ0 hb20
          obtain ⟨xn, hxn2⟩ : ∃ xn, x.2.1 = xn := ⟨_, rfl⟩
          have HXN : Bx ((xAt xs k).2.1 = xn) := ⟨hxn.trans hxn2⟩
          rw [hxn2] at hb20
          clear hx hcell hc hvb eA eC hxn hxn2 A' cap'
          go_wp2_with fail
          go_loopw [7, 8] (fun g c wr => ∃ (q : Nat) (y : SlE), g = slV y ∧ c = .int .i64 q ∧ q ≤ 20 ∧ Bx (Gi w wr b v xs k q _ zs y)) (fun _ c _ => 20 - (intOf c).toNat)
          case atStart => exact ⟨0, x, rfl, rfl, by omega, HJ0⟩
          case round =>
            obtain ⟨q, y, rfl, rfl, hq, HJ⟩ := hrel
            clear HJ0 HI d12 dn
            have km : ∀ x, Calls Try.prog 75 #[.int .i64 k] x fun e w' => e = .returned (strV (markT k)) ∧ Below x.heap.size x w' := fun x => mark_any k x (by omega)
            obtain ⟨mt, hmt⟩ : ∃ mt, markT k = mt := ⟨_, rfl⟩
            have HMT := Bx.mk hmt
            have HME : Bx (mkE k = (0, mt)) := ⟨by rw [← hmt]; rfl⟩
            rw [hmt] at km
            clear hmt
            rename World => w3
            by_cases hq20 : q < 20
            · obtain ⟨N, hN⟩ : ∃ N, xn + q = N := ⟨_, rfl⟩
              have HN : Bx (xn + q = N) := ⟨hN⟩
              have hNb : (N + 1) * 24 ≤ 140737488355328 := by omega
              clear hN
              go_wp2_with (first
                | (go_at_call 75; refine (km _).mono ?_; rintro e w4 ⟨rfl, hb4⟩)
                | (at_builtin; refine wpList_append_rowk rfl _ _ rfl (slV y) (List.replicate N (mkE k)) N (by simp) (0, mt) rfl (by have := (HJ.out.step hb4).step (below1 w4 (.cells #[.int .i64 0, strV mt] 27)); rw [← HN.out, ← HXN.out]; exact this.cur) ⟨w4.heap.size, 0, none⟩ rfl (news_box _ _ _ _ (box_cells w4 0 mt _).1 (box_cells w4 0 mt _).2) hNb ?_; intro g cp w5 hown hd; have HK := Bx.mk (((HJ.out.step hb4).step (below1 w4 (.cells #[.int .i64 0, strV mt] 27))).app (by rw [HXN.out, HN.out]) (by rw [HME.out] at hown ⊢; exact hown) hd); clear hown hd))
              exact ⟨⟨q + 1, (some ⟨g, 0, none⟩, N + 1, cp), rfl, by rw [Int.natCast_succ], by omega, HK⟩, by simp only [intOf]; omega⟩
            · obtain rfl : q = 20 := by omega
              clear km
              have HJ3 := HJ
              clear HJ
              obtain ⟨ya, yn, yc⟩ := y
              unfold slV
              simp only
              go_wp2_with (at_builtin; refine wpList_append_lies _ rfl _ _ 64 rfl w.heap.size 23 i2 (.slice none 0 0) 1 24 Try.underlying64 HI2.out.1 HI2.out.2.1 HI2.out.2.2.1 HI2.out.2.2.2 rfl (by decide) _ k (slC zs) rfl (by have := (HJ3.out.step (below1 w3 (.cells #[.slice ya yn yc] 23))).g.own; rw [HJ3.out.zl] at this; exact this) ⟨w3.heap.size, 0, none⟩ 1 1 [slV (ya, yn, yc)] rfl rfl (slV_one w3 (ya, yn, yc) _) (slV_one1 (ya, yn, yc)) (by decide) (by unfold maxLen; omega) (by omega) (by have := HJ3.out.g.t.size; simp only [heap_push, Array.size_push]; omega) _ rfl ?_; intro g cap2 w4 hown hg hat hlt4; have HK := Bx.mk ((HJ3.out.step (below1 w3 (.cells #[.slice ya yn yc] 23))).fin hown hg (by rcases hat with e | e; (exact Or.inl e); (exact Or.inr (Nat.le_of_eq e.symm)))); have HZ : Bx ((zs ++ [(ya, yn, yc)]).length = k + 1) := ⟨by simp [HJ3.out.zl]⟩; clear hown hg hat hlt4)
              exact ⟨⟨k + 1, zs ++ [(ya, yn, yc)], by rw [Int.natCast_succ], by omega, ⟨HZ.out, HK.out⟩⟩, by simp only [intOf]; omega⟩
        · obtain rfl : k = n := by omega
          obtain ⟨A2, c2, hu, hc2⟩ := own_at HI.out.2.own HI.out.1
          subst hu
          have HG := Bx.mk (And.intro HI.out hc2)
          clear hc2 hlt hk HI
          go_wp2_with fail
          clear d12
          go_loopw [9, 10, 12] (fun i _ _ wr => ∃ j : Nat, i = .int .i64 j ∧ j ≤ k ∧ Bx (Below w0.heap.size w0 wr)) (fun i _ _ _ => k - (intOf i).toNat)
          case atStart => exact ⟨0, rfl, by omega, ⟨Below.refl _ _⟩⟩
          case round =>
            obtain ⟨j, rfl, hj, HB⟩ := hrel
            rename World => w3
            by_cases hlt : j < k
            · have km : ∀ x, Calls Try.prog 75 #[.int .i64 j] x fun e w' => e = .returned (strV (markT j)) ∧ Below x.heap.size x w' := fun x => mark_any j x (by omega)
              obtain ⟨mt, hmt⟩ : ∃ mt, markT j = mt := ⟨_, rfl⟩
              have HMT := Bx.mk hmt
              rw [hmt] at km
              clear hmt
              obtain ⟨vb2, rfl, hcell2⟩ := HG.out.2 (by omega)
              have en0 := hcell2 j hlt
              obtain ⟨A', cap', ev, hc⟩ := HG.out.1.2.book.at
              rw [HV.out, HM.out] at ev
              injection ev with eA _ eC
              obtain ⟨vb, hvb, hcell⟩ := hc (by rw [HM.out]; omega)
              have hvA : A = some ⟨vb, 0, none⟩ := eA.trans hvb
              subst hvA
              have dn0 := hcell j (by rw [HM.out]; exact hlt)
              have d120 := HG.out.1.2.book.cell
              rw [HV.out] at d120
              have hz := HG.out.1.2.zrd j (by rw [HG.out.1.1]; exact hlt)
              have hr := HG.out.1.2.rd j (by rw [HM.out]; exact hlt)
              have hb20 := HL20.out j (by rw [HM.out]; exact hlt)
              obtain ⟨x, hx⟩ : ∃ x, xAt xs j = x := ⟨_, rfl⟩
              obtain ⟨z, hzz⟩ : ∃ z, xAt zs j = z := ⟨_, rfl⟩
              rw [hx] at dn0 hz hr hb20
              rw [hzz] at en0 hz
              obtain ⟨xa, xn, xc⟩ := x
              obtain ⟨za, zn, zc⟩ := z
              obtain ⟨hz1, hz2⟩ := hz
              simp only at hz1 hz2 hr hb20
              rw [← hz1] at hz2
              unfold slV at dn0 en0
              simp only at dn0 en0
              have HF := Bx.mk (And.intro dn0 (And.intro en0 (And.intro d120 (And.intro hz2 hr))))
              have hzn : zn * 24 ≤ 140737488355328 := by omega
              have hxn : xn * 24 ≤ 140737488355328 := by omega
              clear dn0 en0 d120 hz2 hr hx hzz hcell hc hvb eA eC A' cap' hcell2 hb20 hz1
              go_wp2_with fail
              go_loopw [10] (fun p wr => ∃ q : Nat, p = .int .i64 q ∧ q ≤ zn ∧ Bx (Below w0.heap.size w0 wr)) (fun p _ => zn - (intOf p).toNat)
              case atStart => exact ⟨0, rfl, by omega, HB⟩
              case round =>
                obtain ⟨q, rfl, hq, HB3⟩ := hrel
                clear HB
                rename World => w4
                have en : w4.cell? ⟨vb2, j, none⟩ = some (.slice za zn zc) := (HB3.out.cell (cell_lt HF.out.2.1)).trans HF.out.2.1
                by_cases hqz : q < zn
                · obtain ⟨g, rfl, g0, g1⟩ := HF.out.2.2.2.1.cells hqz HMT.out
                  have k0 : w4.cell? ⟨g, q * 2, none⟩ = some (.int .i64 0) := (HB3.out.cell (cell_lt g0)).trans g0
                  have k1 : w4.cell? ⟨g, q * 2 + 1, none⟩ = some (strV mt) := (HB3.out.cell (cell_lt g1)).trans g1
                  clear g0 g1
                  go_upto_region 25 with (fail)
                  change Code.wp _ _ _ _ (w4.alloc (.cells #[.int .i64 0, strV mt] 27))
                  have hbx := box_cells w4 0 mt 27
                  have HB4 := Bx.mk (HB3.out.trans ((below1 w4 (.cells #[.int .i64 0, strV mt] 27)).mono HB3.out.size))
                  clear k0 k1 en HB3
                  generalize w4.alloc (.cells #[.int .i64 0, strV mt] 27) = w5 at *
                  obtain ⟨B, hB⟩ : ∃ B, w4.heap.size = B := ⟨_, rfl⟩
                  rw [hB] at hbx
                  simp only [hB]
                  clear hB
                  obtain ⟨b0, b1⟩ := hbx
                  go_region_with (first | (go_at_call 75; refine (km _).mono ?_; rintro e w6 ⟨rfl, hb6⟩; have k0 : w6.cell? ⟨B, 0, none⟩ = some (.int .i64 0) := (hb6.cell (cell_lt b0)).trans b0; have k1 : w6.cell? ⟨B, 1, none⟩ = some (strV mt) := (hb6.cell (cell_lt b1)).trans b1; have HN := Bx.mk (HB4.out.trans ((show Below w5.heap.size w5 w6 from (Below.refl _ _).drew.trans hb6).mono HB4.out.size)); clear hb6))
                  all_goals
                    clear HB4 b0 b1
                    go_wp2
                    exact ⟨⟨q + 1, by rw [Int.natCast_succ], by omega, HN⟩, by simp only [intOf]; omega⟩
                · obtain rfl : q = zn := by omega
                  clear hqz hq
                  go_wp2_with fail
                  clear en
                  go_loopw [12] (fun p wr => ∃ q : Nat, p = .int .i64 q ∧ q ≤ xn ∧ Bx (Below w0.heap.size w0 wr)) (fun p _ => xn - (intOf p).toNat)
                  case atStart => exact ⟨0, rfl, by omega, HB3⟩
                  case round =>
                    obtain ⟨p, rfl, hp, HB4⟩ := hrel
                    clear HB3
                    rename World => w4
                    have HB3 := HB4
                    clear HB4
                    have en : w4.cell? ⟨vb, j, none⟩ = some (.slice xa xn xc) := (HB3.out.cell (cell_lt HF.out.1)).trans HF.out.1
                    have d12 : w4.cell? ⟨b, 12, none⟩ = some (.slice (some ⟨vb, 0, none⟩) k cap) := (HB3.out.cell (cell_lt HF.out.2.2.1)).trans HF.out.2.2.1
                    by_cases hpx : p < xn
                    · obtain ⟨g, rfl, g0, g1⟩ := HF.out.2.2.2.2.cells hpx HMT.out
                      have k0 : w4.cell? ⟨g, p * 2, none⟩ = some (.int .i64 0) := (HB3.out.cell (cell_lt g0)).trans g0
                      have k1 : w4.cell? ⟨g, p * 2 + 1, none⟩ = some (strV mt) := (HB3.out.cell (cell_lt g1)).trans g1
                      clear g0 g1
                      go_upto_region 31 with (fail)
                      change Code.wp _ _ _ _ (w4.alloc (.cells #[.int .i64 0, strV mt] 27))
                      have hbx := box_cells w4 0 mt 27
                      have HB4 := Bx.mk (HB3.out.trans ((below1 w4 (.cells #[.int .i64 0, strV mt] 27)).mono HB3.out.size))
                      clear k0 k1 en d12 HB3
                      generalize w4.alloc (.cells #[.int .i64 0, strV mt] 27) = w5 at *
                      obtain ⟨B, hB⟩ : ∃ B, w4.heap.size = B := ⟨_, rfl⟩
                      rw [hB] at hbx
                      simp only [hB]
                      clear hB
                      obtain ⟨b0, b1⟩ := hbx
                      go_region_with (first | (go_at_call 75; refine (km _).mono ?_; rintro e w6 ⟨rfl, hb6⟩; have k0 : w6.cell? ⟨B, 0, none⟩ = some (.int .i64 0) := (hb6.cell (cell_lt b0)).trans b0; have k1 : w6.cell? ⟨B, 1, none⟩ = some (strV mt) := (hb6.cell (cell_lt b1)).trans b1; have HN := Bx.mk (HB4.out.trans ((show Below w5.heap.size w5 w6 from (Below.refl _ _).drew.trans hb6).mono HB4.out.size)); clear hb6))
                      all_goals
                        clear HB4 b0 b1
                        go_wp2
                        exact ⟨⟨p + 1, by rw [Int.natCast_succ], by omega, HN⟩, by simp only [intOf]; omega⟩
                    · obtain rfl : p = xn := by omega
                      go_wp2
                      exact ⟨⟨j + 1, by rw [Int.natCast_succ], by omega, HB3⟩, by simp only [intOf]; omega⟩
            · obtain rfl : j = k := by omega
              have HT := Bx.mk (HG.out.1.2.t.trans (Turned.ofBelow HB.out))
              go_wp2_with fail
              go_ret
              exact ⟨rfl, HT.out⟩
end Go.Proofs.Ytlodgmmhaolmaaa
