/- Verify, the document's answer: the walk of heights. -/
import Derived.Test.YtbcajmkmadgbhaaGreatDoorVrQ
set_option linter.unusedSimpArgs false
set_option linter.unusedVariables false
namespace Go.Proofs.YtbcajmkmadgbhaaGreatDoor
open Go.RowKit
theorem ins_cells {w : World} {pb off : Nat} {l : List InsD} (h : InsL w (some ⟨pb, off, none⟩) l) {j c : Nat} {a b : Int} (hx : l[j]? = some ⟨c, a, b⟩) : w.cell? ⟨pb, off + j * 3, none⟩ = some (.int .u8 (c : Int)) ∧ w.cell? ⟨pb, off + j * 3 + 1, none⟩ = some (.int .i64 a) := by
  obtain ⟨pb', off', e, hrow⟩ := h.row (by have := (List.getElem?_eq_some_iff.1 hx).1; omega)
  injection e with e
  injection e with e1 e2
  subst e1
  subst e2
  exact ⟨hrow j _ hx 0 _ rfl, hrow j _ hx 1 _ rfl⟩
theorem fill_step {n k : Nat} (h : k < n) : (List.replicate k (-1 : Int) ++ List.replicate (n - k) 0).set k (-1) = List.replicate (k + 1) (-1) ++ List.replicate (n - (k + 1)) 0 := by
  obtain ⟨m, hm⟩ : ∃ m, n - k = m + 1 := ⟨n - k - 1, by omega⟩
  have hm2 : n - (k + 1) = m := by omega
  rw [hm, hm2, List.set_append, if_neg (by simp), List.length_replicate, Nat.sub_self, List.replicate_succ, List.set_cons_zero, List.replicate_succ' (n := k), List.append_assoc]
  rfl
set_option maxHeartbeats 8000000 in
set_option maxRecDepth 100000 in
theorem rheights_any (A : Option Addr) (l : List InsD) (cap : Nat) (k : Nat) (w : World) (hr : InsL w A l) (hB : ∀ i ∈ l, InsB i) (hfo : Formed l) (hpos : 0 < l.length) (hk : k ≤ 1048576) (hl : l.length ≤ 1048576) :
    Calls Tryz.prog 22 #[.slice A l.length cap, .int .i64 (k : Int)] w fun e w' => ∃ v, e = .returned v ∧ HrOut w.heap.size w' (heiR l 0 ((List.replicate l.length (-1)).set 0 0, List.replicate l.length false)) v k ∧ Below w.heap.size w w' := by
  have hmk := run_make_row' (P := Tryz.prog) 62 3 (.int .i64 0) 8 Tryz.underlying62 (by kernel_rfl) rfl .i64 .i64 l.length (by omega) (by omega)
  have hmb := run_make_row' (P := Tryz.prog) 110 4 (.bool false) 1 Tryz.underlying110 (by kernel_rfl) rfl .i64 .i64 l.length (by omega) (by omega)
  have HB : Bx _ := ⟨And.intro hr (And.intro hB hfo)⟩
  obtain ⟨R, hR⟩ : ∃ R, heiR l 0 ((List.replicate l.length (-1)).set 0 0, List.replicate l.length false) = R := ⟨_, rfl⟩
  rw [hR]
  have HR : Bx _ := ⟨hR⟩
  have HA0 : Bx (HrA w ((w.alloc (.cells #[.int .i64 0, .int .i64 0, .int .i64 0, .bool false, .bool false] 60)).alloc (.cells (madeCells #[.int .i64 0] l.length) 3)) w.heap.size (List.replicate l.length 0)) := ⟨by
    refine ⟨below2 _ _ _, ⟨60, ?_⟩, ⟨3, ?_⟩, by simp only [heap_push, Array.size_push]⟩
    · rw [(below1 (w.alloc _) _).block w.heap.size (by simp only [heap_push, Array.size_push]; omega)]; exact heap_alloc_new w _
    · have := heap_alloc_new (w.alloc (.cells #[.int .i64 0, .int .i64 0, .int .i64 0, .bool false, .bool false] 60)) (.cells (madeCells #[.int .i64 0] l.length) 3)
      rw [show (w.alloc (.cells #[.int .i64 0, .int .i64 0, .int .i64 0, .bool false, .bool false] 60)).heap.size = w.heap.size + 1 by simp only [heap_push, Array.size_push]] at this
      rw [this, made_int]⟩
  clear hr hB hfo hR
  go_enter Tryz.func22, Tryz.ntmps22
  go_upto_region 2 with (fail)
  generalize ((w.alloc (.cells #[.int .i64 0, .int .i64 0, .int .i64 0, .bool false, .bool false] 60)).alloc (.cells (madeCells #[.int .i64 0] l.length) 3)) = w0 at *
  generalize hS : w.heap.size = S at *
  have HZ : Bx (w.heap.size = S) := ⟨hS⟩
  clear hS hmk
  go_wp2_with fail
  go_loopw [7] (fun i wr => ∃ k : Nat, k ≤ l.length ∧ i = .int .i64 (k : Int) ∧ Bx (HrA w wr S (List.replicate k (-1) ++ List.replicate (l.length - k) 0))) (fun i _ => l.length - (intOf i).toNat)
  case atStart => exact ⟨0, by omega, rfl, ⟨by simpa using HA0.out⟩⟩
  case round =>
    obtain ⟨q, hq, rfl, HA⟩ := hrel
    clear HA0
    by_cases hlt : q < l.length
    · have ro := HA.out.ob.at q _ (intC_at (by simp; omega))
      have fo := HA.out.ob.free q
      have HN : Bx (HrA w (wr.setCell ⟨S + 1, q, none⟩ (.int .i64 (-1))) S (List.replicate (q + 1) (-1) ++ List.replicate (l.length - (q + 1)) 0)) := ⟨by rw [← fill_step hlt]; exact HA.out.set q (-1)⟩
      go_wp2_with fail
      exact ⟨⟨q + 1, by omega, by rw [Int.natCast_succ], HN⟩, by simp only [intOf]; omega⟩
    · obtain rfl : q = l.length := by omega
      have HA1 : Bx (HrA w wr S (List.replicate l.length (-1))) := ⟨by have h := HA.out; simpa using h⟩
      have ro := HA1.out.ob.at 0 _ (intC_at (by simp; omega))
      have fo := HA1.out.ob.free 0
      have HA2 : Bx _ := ⟨HA1.out.set 0 0⟩
      have hgt : decide ((0 : Int) < (l.length : Int)) = true := by simp; omega
      have hlt0 : 0 < l.length := hpos
      clear HA HA1
      go_upto_region 8 with (fail)
      generalize (wr.setCell ⟨S + 1, 0, none⟩ (.int .i64 0)) = w1 at *
      have HX0 : Bx (HrB w (w1.alloc (.cells (madeCells #[.bool false] l.length) 4)) S A l ((List.replicate l.length (-1)).set 0 0, List.replicate l.length false)) := ⟨by
        have hsz := HA2.out.sz
        refine ⟨HA2.out.below.alloc (by omega) _, HZ.out, ?_, ?_, ?_, by simp, by simp, HB.out.1⟩
        · obtain ⟨T, h0⟩ := HA2.out.bad
          exact ⟨T, by rw [(below1 w1 _).block S (by omega)]; exact h0⟩
        · exact HA2.out.ob.below (below1 _ _)
        · refine ⟨4, ?_⟩
          have := heap_alloc_new w1 (.cells (madeCells #[.bool false] l.length) 4)
          rw [hsz] at this
          rw [this, made_bool]⟩
      have HSZ1 : Bx (w1.heap.size = S + 2) := ⟨HA2.out.sz⟩
      have hsz1 : w1.heap.size = S + 2 := HSZ1.out
      clear ro fo HA2 hgt
      go_upto_region 9 with (fail)
      generalize (w1.alloc (.cells (madeCells #[.bool false] l.length) 4)) = w2 at *
      clear hmb hsz1 HSZ1
      go_wp2_with fail
      go_loopw [9] (fun i wr => ∃ (j : Nat) (o : List Int × List Bool), j ≤ l.length ∧ i = .int .i64 (j : Int) ∧ S = S ∧ Bx (HrB w wr S A l o ∧ heiR (l.drop j) j o = R ∧ BdR o)) (fun i _ => l.length - (intOf i).toNat)
      case atStart => exact ⟨0, _, by omega, rfl, rfl, ⟨HX0.out, HR.out, by
        intro v hv
        rcases List.mem_or_eq_of_mem_set hv with h | h
        · have := (List.mem_replicate.1 h).2; omega
        · omega⟩⟩
      case round =>
        obtain ⟨j, o, hj, rfl, _, HI⟩ := hrel
        clear HX0
        by_cases hlt : j < l.length
        · have hx0 : l[j]? = some l[j] := List.getElem?_eq_getElem hlt
          have HM : Bx (InsB l[j]) := ⟨HB.out.2.1 _ (List.getElem_mem hlt)⟩
          have HF : Bx (l.drop j = l[j] :: l.drop (j + 1)) := ⟨List.drop_eq_getElem_cons hlt⟩
          obtain ⟨pb, off, rfl, _⟩ := HI.out.1.row.row (by omega)
          generalize l[j] = i at *
          obtain ⟨c, a, b⟩ := i
          have HG : Bx _ := ⟨hx0⟩
          clear hx0
          obtain ⟨a0, a1⟩ := ins_cells HI.out.1.row HG.out
          have km := fun w => moves_any c w
          obtain ⟨T, hT⟩ : ∃ T, takesC c = T := ⟨_, rfl⟩
          obtain ⟨U, hU⟩ : ∃ U, putsC c = U := ⟨_, rfl⟩
          have HTU : Bx (takesC c = T ∧ putsC c = U) := ⟨hT, hU⟩
          obtain ⟨tb1, tb2, tb3, tb4⟩ := takes_bd c
          rw [hT] at tb1 tb2
          rw [hU] at tb3 tb4
          rw [hT, hU] at km
          clear hT hU
          have r0 := HI.out.1.o_at hlt
          have r1 := HI.out.1.p_at hlt
          obtain ⟨v, hv⟩ : ∃ v, o.1.getD j 0 = v := ⟨_, rfl⟩
          obtain ⟨pv, hpv⟩ : ∃ pv, o.2.getD j false = pv := ⟨_, rfl⟩
          rw [hv] at r0
          rw [hpv] at r1
          have hvb := HI.out.2.2.get j
          rw [hv] at hvb
          obtain ⟨hv1, hv2⟩ := hvb
          obtain ⟨Bh, hBh⟩ : ∃ Bh, v - T + U = Bh := ⟨_, rfl⟩
          have HBh : Bx (behindC c (o.1.getD j 0) = Bh) := ⟨by unfold behindC; rw [hv, HTU.out.1, HTU.out.2]; exact hBh⟩
          obtain ⟨TT, hTT⟩ : ∃ TT, decide (v < T) = TT := ⟨_, rfl⟩
          obtain ⟨Y, hY⟩ : ∃ Y, decide (200 < Bh) = Y := ⟨_, rfl⟩
          obtain ⟨W, hW⟩ : ∃ W, (Bh != 0) = W := ⟨_, rfl⟩
          have hW2 : (!(Bh == 0)) = W := hW
          obtain ⟨En, hEn⟩ : ∃ En, endC c = En := ⟨_, rfl⟩
          obtain ⟨Ju, hJu⟩ : ∃ Ju, jumpC c = Ju := ⟨_, rfl⟩
          have HEn : Bx (endC c = En) := ⟨hEn⟩
          have HJu : Bx (jumpC c = Ju) := ⟨hJu⟩
          obtain ⟨BD, hBD⟩ : ∃ BD, (pv || TT || Y || (En && W)) = BD := ⟨_, rfl⟩
          have HBd : Bx (badR ⟨c, a, b⟩ j o = BD) := ⟨by
            unfold badR
            rw [show behindC (InsD.mk c a b).c (o.1.getD j 0) = Bh from HBh.out, hv, hpv, show takesC (InsD.mk c a b).c = T from HTU.out.1, hTT, show decide (Bh > 200) = Y from hY, show endC (InsD.mk c a b).c = En from hEn, hW]
            exact hBD⟩
          have HBB2 : Bx (BD = false → -1 ≤ Bh ∧ Bh ≤ 200) := ⟨fun h => by
            rw [← hBD] at h
            simp only [Bool.or_eq_false_iff] at h
            obtain ⟨⟨⟨_, h1⟩, h2⟩, _⟩ := h
            rw [h1] at hTT
            rw [h2] at hY
            simp at hTT hY
            omega⟩
          obtain ⟨e1, he1⟩ : ∃ e, (((c : Int) == 13) : Bool) = e := ⟨_, rfl⟩
          obtain ⟨e2, he2⟩ : ∃ e, (((c : Int) == 24) : Bool) = e := ⟨_, rfl⟩
          have he3 : (e1 || e2) = En := by rw [← hEn, ← he1, ← he2]; unfold endC; rw [show (((c : Int) == 13) : Bool) = (c == 13) from beq_code c 13, show (((c : Int) == 24) : Bool) = (c == 24) from beq_code c 24]
          obtain ⟨j1, hj1⟩ : ∃ e, (((c : Int) == 10) : Bool) = e := ⟨_, rfl⟩
          obtain ⟨j2, hj2⟩ : ∃ e, (((c : Int) == 11) : Bool) = e := ⟨_, rfl⟩
          have HJ3 : Bx ((j1 || j2) = Ju) := ⟨by rw [← hJu, ← hj1, ← hj2]; unfold jumpC; rw [show (((c : Int) == 10) : Bool) = (c == 10) from beq_code c 10, show (((c : Int) == 11) : Bool) = (c == 11) from beq_code c 11]⟩
          clear hEn hJu hv hpv
          go_wp2_with fail
          refine (km _).mono ?_
          rintro e w3 ⟨rfl, rfl⟩
          clear km
          go_upto_region 14 with (fail)
          go_cut [13] from 74 to 165 (fun g wx => g = .bool En ∧ wx = wr)
          case first =>
            cases e1
            · go_wp2_with fail
              go_meet
              exact ⟨by first | (rw [← he3]; done) | (rw [← he3]; rfl), rfl⟩
            · go_wp2_with fail
              go_meet
              exact ⟨by first | (rw [← he3]; done) | (rw [← he3]; rfl), rfl⟩
          case rest =>
            obtain ⟨rfl, rfl⟩ := hcut
            clear he1 he2 he3 hBh
            go_upto_region 15 with (fail)
            go_cut [96] from 97 to 165 (fun g wx => g = .bool BD ∧ wx = wc)
            case first =>
              cases pv
              · cases TT
                · cases Y
                  · cases En
                    · go_wp2_with fail
                      go_meet
                      exact ⟨by first | (rw [← hBD]; done) | (rw [← hBD]; rfl), rfl⟩
                    · go_wp2_with fail
                      go_meet
                      exact ⟨by first | (rw [← hBD]; done) | (rw [← hBD]; rfl), rfl⟩
                  · go_wp2_with fail
                    go_meet
                    exact ⟨by first | (rw [← hBD]; done) | (rw [← hBD]; rfl), rfl⟩
                · go_wp2_with fail
                  go_meet
                  exact ⟨by first | (rw [← hBD]; done) | (rw [← hBD]; rfl), rfl⟩
              · go_wp2_with fail
                go_meet
                exact ⟨by first | (rw [← hBD]; done) | (rw [← hBD]; rfl), rfl⟩
            case rest =>
              obtain ⟨rfl, rfl⟩ := hcut
              clear hBD hTT hY hW hW2 r0 r1
              cases BD
              · have HBB3 : Bx (-1 ≤ Bh ∧ Bh ≤ 200) := ⟨HBB2.out rfl⟩
                have HN0 : Bx _ := ⟨heiR_go HI.out.2.1 HF.out HBd.out⟩
                have HBD : Bx _ := ⟨HI.out.2.2⟩
                have HX2 : Bx _ := ⟨HI.out.1.step (below1 wc (.cells #[.int .i64 ((j : Int) + 1)] 3))⟩
                have HC1 : Bx _ := ⟨CB.new wc #[.int .i64 ((j : Int) + 1)] 3⟩
                have HSz : Bx (S + 3 ≤ wc.heap.size) := ⟨HI.out.1.sz⟩
                clear HBB2
                have HBB2 : Bx (-1 ≤ Bh ∧ Bh ≤ 200) := ⟨HBB3.out⟩
                go_upto_region 18 with (fail)
                generalize wc.alloc (.cells #[.int .i64 ((j : Int) + 1)] 3) = w4 at *
                generalize wc.heap.size = NB at *
                clear a0 a1
                obtain ⟨a0, a1⟩ := ins_cells HX2.out.row HG.out
                go_cut [117] from 118 to 165 (fun g wx => g = .bool Ju ∧ wx = w4)
                case first =>
                  cases j1
                  · go_wp2_with fail
                    go_meet
                    exact ⟨by first | (rw [← HJ3.out]; done) | (rw [← HJ3.out]; rfl), rfl⟩
                  · go_wp2_with fail
                    go_meet
                    exact ⟨by first | (rw [← HJ3.out]; done) | (rw [← HJ3.out]; rfl), rfl⟩
                case rest =>
                  obtain ⟨rfl, rfl⟩ := hcut
                  clear hj1 hj2 HJ3
                  cases En
                  · have hjn : j + 1 < l.length := by
                      have h := HB.out.2.2.ends j _ HG.out
                      rw [show endC (InsD.mk c a b).c = false from HEn.out] at h
                      simp at h
                      omega
                    cases Ju
                    · have HNX : Bx (∀ tx ∈ [j + 1], tx < l.length) := ⟨fun tx h => by simp at h; omega⟩
                      have HST : Bx (stepR ⟨c, a, b⟩ j o = setsR Bh o [j + 1]) := ⟨by rw [← HBh.out]; exact stepR_now (by unfold nextR; rw [show endC (InsD.mk c a b).c = false from HEn.out, show jumpC (InsD.mk c a b).c = false from HJu.out]; rfl) (by simp)⟩
                      have HC2 : Bx (LB wc NB ([j + 1].map fun x : Nat => Value.int .i64 (x : Int)) ∧ S + 3 ≤ NB) := ⟨by obtain ⟨T, h⟩ := HC1.out; exact ⟨T, by simpa using h⟩, HSz.out⟩
                      clear HC1 a0 a1
                      go_wp2_with fail
                      go_loopw [15] (fun i wr => ∃ (k : Nat), k ≤ 1 ∧ i = .int .i64 (k : Int) ∧ Bx (HrB w wr S (some ⟨pb, off, none⟩) l (setsR Bh o ([j + 1].take k)) ∧ LB wr NB ([j + 1].map fun x : Nat => Value.int .i64 (x : Int)) ∧ S + 3 ≤ NB ∧ BdR (setsR Bh o ([j + 1].take k)))) (fun i _ => 1 - (intOf i).toNat)
                      case atStart => exact ⟨0, by omega, rfl, ⟨HX2.out, HC2.out.1, HC2.out.2, HBD.out⟩⟩
                      case round =>
                        obtain ⟨k, hk, rfl, HK⟩ := hrel
                        by_cases hkm : k < 1
                        · obtain ⟨tx, hto0⟩ : ∃ tx, [j + 1][k]? = some tx := ⟨_, List.getElem?_eq_getElem (by simpa using hkm)⟩
                          have hto : Bx (tx < l.length) := ⟨HNX.out tx (List.mem_of_getElem? hto0)⟩
                          have hto1 : tx < l.length := hto.out
                          have hkc : ((k : Int) < 1) := by omega
                          have HSS : Bx (setsR Bh o ([j + 1].take (k + 1)) = setR (setsR Bh o ([j + 1].take k)) tx Bh) := ⟨setsR_take hto0⟩
                          have rt := HK.out.2.1.at k (.int .i64 (tx : Int)) (lit_at [j + 1] k tx hto0)
                          obtain ⟨s, hs⟩ : ∃ s, setsR Bh o ([j + 1].take k) = s := ⟨_, rfl⟩
                          rw [hs] at HK HSS
                          clear hto0 hs
                          obtain ⟨ov, hov⟩ : ∃ ov, s.1.getD tx 0 = ov := ⟨_, rfl⟩
                          obtain ⟨pv, hpv⟩ : ∃ pv, s.2.getD tx false = pv := ⟨_, rfl⟩
                          have ro := HK.out.1.o_at hto.out
                          have rp := HK.out.1.p_at hto.out
                          rw [hov] at ro
                          rw [hpv] at rp
                          have fo := (HK.out.1.free tx).1
                          have fp := (HK.out.1.free tx).2
                          obtain ⟨g1, hg1⟩ : ∃ g1, decide (0 ≤ ov) = g1 := ⟨_, rfl⟩
                          obtain ⟨g2, hg2⟩ : ∃ g2, (ov != Bh) = g2 := ⟨_, rfl⟩
                          have hg3 : (!(ov == Bh)) = g2 := hg2
                          have HPV : Bx ((s.2.getD tx false || (decide (s.1.getD tx 0 ≥ 0) && s.1.getD tx 0 != Bh)) = (pv || (g1 && g2))) := ⟨by rw [hpv, hov, hg2]; rw [show decide (ov ≥ 0) = g1 from hg1]⟩
                          have hnb1 : NB ≠ S + 1 := by have := HK.out.2.2.1; omega
                          have hnb2 : NB ≠ S + 2 := by have := HK.out.2.2.1; omega
                          clear hov hpv
                          cases pv
                          · cases g1
                            · have HS2 : Bx (HrB w ((wr.setCell ⟨S + 2, tx, none⟩ (.bool false)).setCell ⟨S + 1, tx, none⟩ (.int .i64 Bh)) S (some ⟨pb, off, none⟩) l (setR s tx Bh)) := ⟨HK.out.1.set hto.out (by rw [HPV.out]; rfl)⟩
                              have HC3 : Bx (LB ((wr.setCell ⟨S + 2, tx, none⟩ (.bool false)).setCell ⟨S + 1, tx, none⟩ (.int .i64 Bh)) NB ([j + 1].map fun x : Nat => Value.int .i64 (x : Int))) := ⟨(HK.out.2.1.other (by omega)).other (by omega)⟩
                              have HN2 : Bx (HrB w ((wr.setCell ⟨S + 2, tx, none⟩ (.bool false)).setCell ⟨S + 1, tx, none⟩ (.int .i64 Bh)) S (some ⟨pb, off, none⟩) l (setsR Bh o ([j + 1].take (k + 1))) ∧ LB ((wr.setCell ⟨S + 2, tx, none⟩ (.bool false)).setCell ⟨S + 1, tx, none⟩ (.int .i64 Bh)) NB ([j + 1].map fun x : Nat => Value.int .i64 (x : Int)) ∧ S + 3 ≤ NB ∧ BdR (setsR Bh o ([j + 1].take (k + 1)))) := ⟨by rw [HSS.out]; exact HS2.out, HC3.out, HK.out.2.2.1, by rw [HSS.out]; exact HK.out.2.2.2.set HBB2.out⟩
                              clear HS2 HC3
                              go_wp2_with fail
                              exact ⟨⟨k + 1, by omega, by rw [Int.natCast_succ], HN2⟩, by simp only [intOf]; omega⟩
                            · cases g2
                              · have HS2 : Bx (HrB w ((wr.setCell ⟨S + 2, tx, none⟩ (.bool false)).setCell ⟨S + 1, tx, none⟩ (.int .i64 Bh)) S (some ⟨pb, off, none⟩) l (setR s tx Bh)) := ⟨HK.out.1.set hto.out (by rw [HPV.out]; rfl)⟩
                                have HC3 : Bx (LB ((wr.setCell ⟨S + 2, tx, none⟩ (.bool false)).setCell ⟨S + 1, tx, none⟩ (.int .i64 Bh)) NB ([j + 1].map fun x : Nat => Value.int .i64 (x : Int))) := ⟨(HK.out.2.1.other (by omega)).other (by omega)⟩
                                have HN2 : Bx (HrB w ((wr.setCell ⟨S + 2, tx, none⟩ (.bool false)).setCell ⟨S + 1, tx, none⟩ (.int .i64 Bh)) S (some ⟨pb, off, none⟩) l (setsR Bh o ([j + 1].take (k + 1))) ∧ LB ((wr.setCell ⟨S + 2, tx, none⟩ (.bool false)).setCell ⟨S + 1, tx, none⟩ (.int .i64 Bh)) NB ([j + 1].map fun x : Nat => Value.int .i64 (x : Int)) ∧ S + 3 ≤ NB ∧ BdR (setsR Bh o ([j + 1].take (k + 1)))) := ⟨by rw [HSS.out]; exact HS2.out, HC3.out, HK.out.2.2.1, by rw [HSS.out]; exact HK.out.2.2.2.set HBB2.out⟩
                                clear HS2 HC3
                                go_wp2_with fail
                                exact ⟨⟨k + 1, by omega, by rw [Int.natCast_succ], HN2⟩, by simp only [intOf]; omega⟩
                              · have HS2 : Bx (HrB w ((wr.setCell ⟨S + 2, tx, none⟩ (.bool true)).setCell ⟨S + 1, tx, none⟩ (.int .i64 Bh)) S (some ⟨pb, off, none⟩) l (setR s tx Bh)) := ⟨HK.out.1.set hto.out (by rw [HPV.out]; rfl)⟩
                                have HC3 : Bx (LB ((wr.setCell ⟨S + 2, tx, none⟩ (.bool true)).setCell ⟨S + 1, tx, none⟩ (.int .i64 Bh)) NB ([j + 1].map fun x : Nat => Value.int .i64 (x : Int))) := ⟨(HK.out.2.1.other (by omega)).other (by omega)⟩
                                have HN2 : Bx (HrB w ((wr.setCell ⟨S + 2, tx, none⟩ (.bool true)).setCell ⟨S + 1, tx, none⟩ (.int .i64 Bh)) S (some ⟨pb, off, none⟩) l (setsR Bh o ([j + 1].take (k + 1))) ∧ LB ((wr.setCell ⟨S + 2, tx, none⟩ (.bool true)).setCell ⟨S + 1, tx, none⟩ (.int .i64 Bh)) NB ([j + 1].map fun x : Nat => Value.int .i64 (x : Int)) ∧ S + 3 ≤ NB ∧ BdR (setsR Bh o ([j + 1].take (k + 1)))) := ⟨by rw [HSS.out]; exact HS2.out, HC3.out, HK.out.2.2.1, by rw [HSS.out]; exact HK.out.2.2.2.set HBB2.out⟩
                                clear HS2 HC3
                                go_wp2_with fail
                                exact ⟨⟨k + 1, by omega, by rw [Int.natCast_succ], HN2⟩, by simp only [intOf]; omega⟩
                          · have HS2 : Bx (HrB w ((wr.setCell ⟨S + 2, tx, none⟩ (.bool true)).setCell ⟨S + 1, tx, none⟩ (.int .i64 Bh)) S (some ⟨pb, off, none⟩) l (setR s tx Bh)) := ⟨HK.out.1.set hto.out (by rw [HPV.out]; rfl)⟩
                            have HC3 : Bx (LB ((wr.setCell ⟨S + 2, tx, none⟩ (.bool true)).setCell ⟨S + 1, tx, none⟩ (.int .i64 Bh)) NB ([j + 1].map fun x : Nat => Value.int .i64 (x : Int))) := ⟨(HK.out.2.1.other (by omega)).other (by omega)⟩
                            have HN2 : Bx (HrB w ((wr.setCell ⟨S + 2, tx, none⟩ (.bool true)).setCell ⟨S + 1, tx, none⟩ (.int .i64 Bh)) S (some ⟨pb, off, none⟩) l (setsR Bh o ([j + 1].take (k + 1))) ∧ LB ((wr.setCell ⟨S + 2, tx, none⟩ (.bool true)).setCell ⟨S + 1, tx, none⟩ (.int .i64 Bh)) NB ([j + 1].map fun x : Nat => Value.int .i64 (x : Int)) ∧ S + 3 ≤ NB ∧ BdR (setsR Bh o ([j + 1].take (k + 1)))) := ⟨by rw [HSS.out]; exact HS2.out, HC3.out, HK.out.2.2.1, by rw [HSS.out]; exact HK.out.2.2.2.set HBB2.out⟩
                            clear HS2 HC3
                            go_wp2_with fail
                            exact ⟨⟨k + 1, by omega, by rw [Int.natCast_succ], HN2⟩, by simp only [intOf]; omega⟩
                        · obtain rfl : k = 1 := by omega
                          have HN : Bx (HrB w wr S (some ⟨pb, off, none⟩) l (stepR ⟨c, a, b⟩ j o) ∧ heiR (l.drop (j + 1)) (j + 1) (stepR ⟨c, a, b⟩ j o) = R ∧ BdR (stepR ⟨c, a, b⟩ j o)) := ⟨by rw [HST.out]; exact HK.out.1, HN0.out, by rw [HST.out]; exact HK.out.2.2.2⟩
                          clear HK
                          go_wp2_with fail
                          exact ⟨⟨j + 1, _, by omega, by rw [Int.natCast_succ], trivial, HN⟩, by simp only [intOf]; omega⟩
                    · obtain ⟨ta, tb⟩ := HB.out.2.2.jumps j _ HG.out HJu.out
                      obtain ⟨t, rfl⟩ : ∃ t : Nat, a = t := ⟨a.toNat, by simp only at ta; omega⟩
                      have ht1 : j < t := by simp only at ta; omega
                      have ht2 : t < l.length := by simp only at tb; omega
                      have HNX : Bx (∀ tx ∈ [j + 1, t], tx < l.length) := ⟨fun tx h => by simp at h; omega⟩
                      have HST : Bx (stepR ⟨c, (t : Int), b⟩ j o = setsR Bh o [j + 1, t]) := ⟨by rw [← HBh.out]; exact stepR_now (by unfold nextR; rw [show endC (InsD.mk c (t : Int) b).c = false from HEn.out, show jumpC (InsD.mk c (t : Int) b).c = true from HJu.out]; simp) (by simp; omega)⟩
                      clear ta tb
                      have HX4 : Bx _ := ⟨HX2.out.step (below1 wc (.cells #[.int .i64 ((j : Int) + 1), .int .i64 (t : Int)] 3))⟩
                      have HC4 : Bx _ := ⟨CB.new wc #[.int .i64 ((j : Int) + 1), .int .i64 (t : Int)] 3⟩
                      have HSz2 : Bx (S + 3 ≤ wc.heap.size) := ⟨HX2.out.sz⟩
                      clear HX2 HC1 HSz
                      go_upto_region 20 with (fail)
                      generalize wc.alloc (.cells #[.int .i64 ((j : Int) + 1), .int .i64 (t : Int)] 3) = w5 at *
                      generalize wc.heap.size = NB at *
                      clear a0 a1
                      have HX2 : Bx _ := ⟨HX4.out⟩
                      have HC2 : Bx (LB w5 NB ([j + 1, t].map fun x : Nat => Value.int .i64 (x : Int)) ∧ S + 3 ≤ NB) := ⟨by obtain ⟨T, h⟩ := HC4.out; exact ⟨T, by simpa using h⟩, HSz2.out⟩
                      clear HX4 HC4
                      go_wp2_with fail
                      go_loopw [15] (fun i wr => ∃ (k : Nat), k ≤ 2 ∧ i = .int .i64 (k : Int) ∧ Bx (HrB w wr S (some ⟨pb, off, none⟩) l (setsR Bh o ([j + 1, t].take k)) ∧ LB wr NB ([j + 1, t].map fun x : Nat => Value.int .i64 (x : Int)) ∧ S + 3 ≤ NB ∧ BdR (setsR Bh o ([j + 1, t].take k)))) (fun i _ => 2 - (intOf i).toNat)
                      case atStart => exact ⟨0, by omega, rfl, ⟨HX2.out, HC2.out.1, HC2.out.2, HBD.out⟩⟩
                      case round =>
                        obtain ⟨k, hk, rfl, HK⟩ := hrel
                        by_cases hkm : k < 2
                        · obtain ⟨tx, hto0⟩ : ∃ tx, [j + 1, t][k]? = some tx := ⟨_, List.getElem?_eq_getElem (by simpa using hkm)⟩
                          have hto : Bx (tx < l.length) := ⟨HNX.out tx (List.mem_of_getElem? hto0)⟩
                          have hto1 : tx < l.length := hto.out
                          have hkc : ((k : Int) < 2) := by omega
                          have HSS : Bx (setsR Bh o ([j + 1, t].take (k + 1)) = setR (setsR Bh o ([j + 1, t].take k)) tx Bh) := ⟨setsR_take hto0⟩
                          have rt := HK.out.2.1.at k (.int .i64 (tx : Int)) (lit_at [j + 1, t] k tx hto0)
                          obtain ⟨s, hs⟩ : ∃ s, setsR Bh o ([j + 1, t].take k) = s := ⟨_, rfl⟩
                          rw [hs] at HK HSS
                          clear hto0 hs
                          obtain ⟨ov, hov⟩ : ∃ ov, s.1.getD tx 0 = ov := ⟨_, rfl⟩
                          obtain ⟨pv, hpv⟩ : ∃ pv, s.2.getD tx false = pv := ⟨_, rfl⟩
                          have ro := HK.out.1.o_at hto.out
                          have rp := HK.out.1.p_at hto.out
                          rw [hov] at ro
                          rw [hpv] at rp
                          have fo := (HK.out.1.free tx).1
                          have fp := (HK.out.1.free tx).2
                          obtain ⟨g1, hg1⟩ : ∃ g1, decide (0 ≤ ov) = g1 := ⟨_, rfl⟩
                          obtain ⟨g2, hg2⟩ : ∃ g2, (ov != Bh) = g2 := ⟨_, rfl⟩
                          have hg3 : (!(ov == Bh)) = g2 := hg2
                          have HPV : Bx ((s.2.getD tx false || (decide (s.1.getD tx 0 ≥ 0) && s.1.getD tx 0 != Bh)) = (pv || (g1 && g2))) := ⟨by rw [hpv, hov, hg2]; rw [show decide (ov ≥ 0) = g1 from hg1]⟩
                          have hnb1 : NB ≠ S + 1 := by have := HK.out.2.2.1; omega
                          have hnb2 : NB ≠ S + 2 := by have := HK.out.2.2.1; omega
                          clear hov hpv
                          cases pv
                          · cases g1
                            · have HS2 : Bx (HrB w ((wr.setCell ⟨S + 2, tx, none⟩ (.bool false)).setCell ⟨S + 1, tx, none⟩ (.int .i64 Bh)) S (some ⟨pb, off, none⟩) l (setR s tx Bh)) := ⟨HK.out.1.set hto.out (by rw [HPV.out]; rfl)⟩
                              have HC3 : Bx (LB ((wr.setCell ⟨S + 2, tx, none⟩ (.bool false)).setCell ⟨S + 1, tx, none⟩ (.int .i64 Bh)) NB ([j + 1, t].map fun x : Nat => Value.int .i64 (x : Int))) := ⟨(HK.out.2.1.other (by omega)).other (by omega)⟩
                              have HN2 : Bx (HrB w ((wr.setCell ⟨S + 2, tx, none⟩ (.bool false)).setCell ⟨S + 1, tx, none⟩ (.int .i64 Bh)) S (some ⟨pb, off, none⟩) l (setsR Bh o ([j + 1, t].take (k + 1))) ∧ LB ((wr.setCell ⟨S + 2, tx, none⟩ (.bool false)).setCell ⟨S + 1, tx, none⟩ (.int .i64 Bh)) NB ([j + 1, t].map fun x : Nat => Value.int .i64 (x : Int)) ∧ S + 3 ≤ NB ∧ BdR (setsR Bh o ([j + 1, t].take (k + 1)))) := ⟨by rw [HSS.out]; exact HS2.out, HC3.out, HK.out.2.2.1, by rw [HSS.out]; exact HK.out.2.2.2.set HBB2.out⟩
                              clear HS2 HC3
                              go_wp2_with fail
                              exact ⟨⟨k + 1, by omega, by rw [Int.natCast_succ], HN2⟩, by simp only [intOf]; omega⟩
                            · cases g2
                              · have HS2 : Bx (HrB w ((wr.setCell ⟨S + 2, tx, none⟩ (.bool false)).setCell ⟨S + 1, tx, none⟩ (.int .i64 Bh)) S (some ⟨pb, off, none⟩) l (setR s tx Bh)) := ⟨HK.out.1.set hto.out (by rw [HPV.out]; rfl)⟩
                                have HC3 : Bx (LB ((wr.setCell ⟨S + 2, tx, none⟩ (.bool false)).setCell ⟨S + 1, tx, none⟩ (.int .i64 Bh)) NB ([j + 1, t].map fun x : Nat => Value.int .i64 (x : Int))) := ⟨(HK.out.2.1.other (by omega)).other (by omega)⟩
                                have HN2 : Bx (HrB w ((wr.setCell ⟨S + 2, tx, none⟩ (.bool false)).setCell ⟨S + 1, tx, none⟩ (.int .i64 Bh)) S (some ⟨pb, off, none⟩) l (setsR Bh o ([j + 1, t].take (k + 1))) ∧ LB ((wr.setCell ⟨S + 2, tx, none⟩ (.bool false)).setCell ⟨S + 1, tx, none⟩ (.int .i64 Bh)) NB ([j + 1, t].map fun x : Nat => Value.int .i64 (x : Int)) ∧ S + 3 ≤ NB ∧ BdR (setsR Bh o ([j + 1, t].take (k + 1)))) := ⟨by rw [HSS.out]; exact HS2.out, HC3.out, HK.out.2.2.1, by rw [HSS.out]; exact HK.out.2.2.2.set HBB2.out⟩
                                clear HS2 HC3
                                go_wp2_with fail
                                exact ⟨⟨k + 1, by omega, by rw [Int.natCast_succ], HN2⟩, by simp only [intOf]; omega⟩
                              · have HS2 : Bx (HrB w ((wr.setCell ⟨S + 2, tx, none⟩ (.bool true)).setCell ⟨S + 1, tx, none⟩ (.int .i64 Bh)) S (some ⟨pb, off, none⟩) l (setR s tx Bh)) := ⟨HK.out.1.set hto.out (by rw [HPV.out]; rfl)⟩
                                have HC3 : Bx (LB ((wr.setCell ⟨S + 2, tx, none⟩ (.bool true)).setCell ⟨S + 1, tx, none⟩ (.int .i64 Bh)) NB ([j + 1, t].map fun x : Nat => Value.int .i64 (x : Int))) := ⟨(HK.out.2.1.other (by omega)).other (by omega)⟩
                                have HN2 : Bx (HrB w ((wr.setCell ⟨S + 2, tx, none⟩ (.bool true)).setCell ⟨S + 1, tx, none⟩ (.int .i64 Bh)) S (some ⟨pb, off, none⟩) l (setsR Bh o ([j + 1, t].take (k + 1))) ∧ LB ((wr.setCell ⟨S + 2, tx, none⟩ (.bool true)).setCell ⟨S + 1, tx, none⟩ (.int .i64 Bh)) NB ([j + 1, t].map fun x : Nat => Value.int .i64 (x : Int)) ∧ S + 3 ≤ NB ∧ BdR (setsR Bh o ([j + 1, t].take (k + 1)))) := ⟨by rw [HSS.out]; exact HS2.out, HC3.out, HK.out.2.2.1, by rw [HSS.out]; exact HK.out.2.2.2.set HBB2.out⟩
                                clear HS2 HC3
                                go_wp2_with fail
                                exact ⟨⟨k + 1, by omega, by rw [Int.natCast_succ], HN2⟩, by simp only [intOf]; omega⟩
                          · have HS2 : Bx (HrB w ((wr.setCell ⟨S + 2, tx, none⟩ (.bool true)).setCell ⟨S + 1, tx, none⟩ (.int .i64 Bh)) S (some ⟨pb, off, none⟩) l (setR s tx Bh)) := ⟨HK.out.1.set hto.out (by rw [HPV.out]; rfl)⟩
                            have HC3 : Bx (LB ((wr.setCell ⟨S + 2, tx, none⟩ (.bool true)).setCell ⟨S + 1, tx, none⟩ (.int .i64 Bh)) NB ([j + 1, t].map fun x : Nat => Value.int .i64 (x : Int))) := ⟨(HK.out.2.1.other (by omega)).other (by omega)⟩
                            have HN2 : Bx (HrB w ((wr.setCell ⟨S + 2, tx, none⟩ (.bool true)).setCell ⟨S + 1, tx, none⟩ (.int .i64 Bh)) S (some ⟨pb, off, none⟩) l (setsR Bh o ([j + 1, t].take (k + 1))) ∧ LB ((wr.setCell ⟨S + 2, tx, none⟩ (.bool true)).setCell ⟨S + 1, tx, none⟩ (.int .i64 Bh)) NB ([j + 1, t].map fun x : Nat => Value.int .i64 (x : Int)) ∧ S + 3 ≤ NB ∧ BdR (setsR Bh o ([j + 1, t].take (k + 1)))) := ⟨by rw [HSS.out]; exact HS2.out, HC3.out, HK.out.2.2.1, by rw [HSS.out]; exact HK.out.2.2.2.set HBB2.out⟩
                            clear HS2 HC3
                            go_wp2_with fail
                            exact ⟨⟨k + 1, by omega, by rw [Int.natCast_succ], HN2⟩, by simp only [intOf]; omega⟩
                        · obtain rfl : k = 2 := by omega
                          have HN : Bx (HrB w wr S (some ⟨pb, off, none⟩) l (stepR ⟨c, (t : Int), b⟩ j o) ∧ heiR (l.drop (j + 1)) (j + 1) (stepR ⟨c, (t : Int), b⟩ j o) = R ∧ BdR (stepR ⟨c, (t : Int), b⟩ j o)) := ⟨by rw [HST.out]; exact HK.out.1, HN0.out, by rw [HST.out]; exact HK.out.2.2.2⟩
                          clear HK
                          go_wp2_with fail
                          exact ⟨⟨j + 1, _, by omega, by rw [Int.natCast_succ], trivial, HN⟩, by simp only [intOf]; omega⟩
                  · have HJF : Bx (jumpC c = false) := ⟨by
                      have h := HEn.out
                      unfold endC at h
                      unfold jumpC
                      simp at h ⊢
                      omega⟩
                    have hJf : Ju = false := by rw [← HJu.out]; exact HJF.out
                    subst hJf
                    have HST : Bx (stepR ⟨c, a, b⟩ j o = o) := ⟨by unfold stepR nextR; rw [show endC (InsD.mk c a b).c = true from HEn.out]; rfl⟩
                    have HN : Bx (HrB w wc S (some ⟨pb, off, none⟩) l (stepR ⟨c, a, b⟩ j o) ∧ heiR (l.drop (j + 1)) (j + 1) (stepR ⟨c, a, b⟩ j o) = R ∧ BdR (stepR ⟨c, a, b⟩ j o)) := ⟨by rw [HST.out]; exact HX2.out, HN0.out, by rw [HST.out]; exact HBD.out⟩
                    clear HX2 HC1 a0 a1
                    go_wp2_with fail
                    go_loopw [15] (fun i wx => i = .int .i64 0 ∧ wx = wc) (fun _ _ => 0)
                    case atStart => exact ⟨rfl, rfl⟩
                    case round =>
                      obtain ⟨rfl, rfl⟩ := hrel
                      go_wp2_with fail
                      exact ⟨⟨j + 1, _, by omega, by rw [Int.natCast_succ], trivial, HN⟩, by simp only [intOf]; omega⟩
              · have HE : Bx (R = .inl j) := ⟨heiR_bad HI.out.2.1 HF.out (by rw [HBd.out])⟩
                have kf := fun p w => rat_any p 190 w (by decide)
                go_wp2_with fail
                refine (kf _ _).mono ?_
                rintro e w7 ⟨rfl, hb⟩
                have HX7 : Bx _ := ⟨HI.out.1.step hb⟩
                clear kf hb a0 a1
                obtain ⟨⟨z0, z1, z2, z3, z4⟩, y⟩ := bad_zy HX7.out.bad
                have y0 := y 0
                have y1 := y 1
                have y2 := y 2
                have y3 := y 3
                have y4 := y 4
                clear y
                go_wp2
                refine bodyPost_ret (v := .tuple #[.slice none 0 0, badAt ((k : Int) + (j : Int)) 190]) (by simp [results, Tryz.results22, go_sem, z0, z1, z2, z3, z4, y0, y1, y2, y3, y4]; first | done | rfl) rfl ?_
                exact ⟨_, rfl, by rw [HE.out]; rfl, by rw [HZ.out]; exact bset5o HX7.out.below _ _ _ _ _⟩
        · obtain rfl : j = l.length := by omega
          have HE : Bx (R = .inr o.1) := ⟨by
            have h := HI.out.2.1
            rw [List.drop_length] at h
            exact h.symm⟩
          have HX7 : Bx _ := ⟨HI.out.1⟩
          clear HI
          obtain ⟨⟨z0, z1, z2, z3, z4⟩, y⟩ := bad_zy HX7.out.bad
          have y0 := y 0
          have y1 := y 1
          have y2 := y 2
          have y3 := y 3
          have y4 := y 4
          clear y
          go_wp2
          refine bodyPost_ret (v := .tuple #[.slice (some ⟨S + 1, 0, none⟩) l.length l.length, badV 0]) (by simp [results, Tryz.results22, go_sem, z0, z1, z2, z3, z4, y0, y1, y2, y3, y4]; first | done | rfl) rfl ?_
          refine ⟨_, rfl, ?_, by rw [HZ.out]; exact bset5o HX7.out.below _ _ _ _ _⟩
          rw [HE.out]
          refine ⟨S + 1, by rw [HX7.out.l1], ?_, by rw [HZ.out]; omega⟩
          have hne : S + 1 ≠ S := by omega
          exact ((((HX7.out.ob.other hne).other hne).other hne).other hne).other hne
end Go.Proofs.YtbcajmkmadgbhaaGreatDoor
