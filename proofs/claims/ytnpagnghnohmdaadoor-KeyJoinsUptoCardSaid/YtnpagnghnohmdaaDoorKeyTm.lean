/- The statement KeyJoins. -/
import Derived.Test.YtnpagnghnohmdaaDoorKeyTj
import Derived.Test.YtnpagnghnohmdaaDoorKeyTl
set_option linter.unusedSimpArgs false
set_option linter.unusedVariables false
namespace Go.Proofs.YtnpagnghnohmdaaDoor
open Go.RowKit
theorem valFrom_len {tk tv : Nat → List UInt8} {name : List UInt8} {n : Nat} (hl : ∀ i, i < n → (tv i).length ≤ 9223372036854775807) : ∀ c i, i + c ≤ n → (valFrom tk tv name c i).length ≤ 9223372036854775807 := by
  intro c
  induction c with
  | zero => intro i _; unfold valFrom; simp
  | succ c ih =>
    intro i hi
    unfold valFrom
    split
    · exact hl i (by omega)
    · exact ih (i + 1) (by omega)
set_option maxHeartbeats 8000000 in
set_option maxRecDepth 100000 in
theorem joins_law (A : Option Addr) (n cap : Nat) (A1 : Option Addr) (N1 c1 : Nat) (tk tv nm : Nat → List UInt8) (w : World) (hr : TagRow w A n tk tv) (h1 : TxtRow w A1 N1 nm) (hn : n ≤ 1048576) (hN1 : N1 ≤ 1048576)
    (hl : ∀ i, i < N1 → (nm i).length ≤ 9223372036854775807) (hG : GlobK w) :
    Calls Tryd.prog 12 #[.slice A n cap, .slice A1 N1 c1] w fun e w' => e = .returned (.bool true) ∧ Below w.heap.size w w' := by
  have HR : Bx _ := ⟨And.intro hr (And.intro h1 hG)⟩
  have HJ : Bx _ := ⟨hl⟩
  clear hr h1 hG hl
  go_enter Tryd.func12, Tryd.ntmps12
  go_wp2_with fail
  go_loopw [5] (fun i wr => ∃ k : Nat, k ≤ N1 ∧ i = .int .i64 k ∧ Bx (Below w.heap.size w wr ∧ ∀ a b, b < a → a < k → nm a ≠ nm b)) (fun i _ => N1 - (intOf i).toNat)
  case atStart => exact ⟨0, by omega, rfl, ⟨Below.refl _ _, fun a b _ h => absurd h (by omega)⟩⟩
  case round =>
    obtain ⟨i, hi, rfl, HI⟩ := hrel
    by_cases hlt : i < N1
    · obtain ⟨b, off, rfl, hrow⟩ := HR.out.2.1.row (by omega)
      have HROW : Bx (∀ wx, Below w.heap.size w wx → ∀ j, j < N1 → wx.cell? ⟨b, off + j, none⟩ = some (strV (nm j))) := ⟨fun wx hb j hj => by
        have h1 := hrow j hj
        rw [hb.cell (cell_lt h1)]; exact h1⟩
      have HW : Bx (Below w.heap.size w wr ∧ ∀ c, c < 0 → nm i ≠ nm c) := ⟨HI.out.1, fun c hc => absurd hc (by omega)⟩
      have HD : Bx _ := ⟨HI.out.2⟩
      clear hrow HI
      go_wp2_with fail
      go_loopw [6] (fun x wx => ∃ c : Nat, c ≤ i ∧ x = .int .i64 c ∧ Bx (Below w.heap.size w wx ∧ ∀ d, d < c → nm i ≠ nm d)) (fun x _ => i - (intOf x).toNat)
      case atStart => exact ⟨0, by omega, rfl, HW⟩
      case round =>
        obtain ⟨c, hc, rfl, HX⟩ := hrel
        by_cases hci : c < i
        · have r0 := HROW.out wr HX.out.1 i hlt
          have r1 := HROW.out wr HX.out.1 c (by omega)
          have q0 := cell_regrown r0
          have q1 := cell_regrown r1
          obtain ⟨q, hq⟩ : ∃ q, (nm i == nm c) = q := ⟨_, rfl⟩
          have HQ : Bx (q = false → nm i ≠ nm c) := ⟨fun e h => by rw [h] at hq; simp at hq; rw [e] at hq; cases hq⟩
          have hcN : c < N1 := by omega
          clear r0 r1
          go_wp2_with fail
          refine wp_region_quiet_below (by kernel_rfl) (by kernel_rfl) ?_
          repeat (go_big_quiet_step (fail))
          refine wpQuiet_nil ?_
          intro _ hw'
          obtain ⟨⟨dq, osq⟩, hw''⟩ := hw'
          subst hw''
          have HF : Bx (Below w.heap.size w (Go.Sort.grow (redrawn wr dq) osq)) := ⟨HX.out.1.trans ((below_regrown wr dq osq).mono HX.out.1.size)⟩
          have HP : Bx _ := ⟨HX.out.2⟩
          clear q0 q1 HX
          generalize Go.Sort.grow (redrawn wr dq) osq = w2 at *
          cases q
          · go_wp2_with fail
            exact ⟨⟨c + 1, by omega, by rw [Int.natCast_succ], ⟨HF.out, fun d hd => by
              rcases Nat.lt_succ_iff_lt_or_eq.1 hd with h | rfl
              · exact HP.out d h
              · exact HQ.out rfl⟩⟩, by simp only [intOf]; omega⟩
          · have ks := live_any w2 (HR.out.2.2.below HF.out)
            go_wp2_with fail
            refine ks.mono ?_
            rintro e w3 ⟨rfl, hb⟩
            clear ks
            have H3 : Bx (Below w.heap.size w w3) := ⟨HF.out.trans (hb.mono HF.out.size)⟩
            clear hb
            go_wp2_with fail
            go_ret
            exact ⟨rfl, H3.out⟩
        · obtain rfl : c = i := by omega
          go_wp2_with fail
          exact ⟨⟨c + 1, by omega, by rw [Int.natCast_succ], ⟨HX.out.1, fun a b hb ha => by
            rcases Nat.lt_succ_iff_lt_or_eq.1 ha with h | rfl
            · exact HD.out a b hb h
            · exact HX.out.2 b hb⟩⟩, by simp only [intOf]; omega⟩
    · obtain rfl : i = N1 := by omega
      have ks := kgroup_any A A1 n cap i c1 tk tv nm wr (HR.out.1.below HI.out.1) (HR.out.2.1.below HI.out.1) (by omega) hN1
      have HV : Bx (∀ j, j < i → (valF tk tv n (nm j)).length ≤ 9223372036854775807) := ⟨fun j _ => valFrom_len (fun j hj => (HR.out.1.len j hj).2) n 0 (by omega)⟩
      go_wp2_with fail
      refine ks.mono ?_
      rintro e w2 ⟨G1, cg1, rfl, hg1, hb⟩
      have H2 : Bx (Below w.heap.size w w2) := ⟨HI.out.1.trans (hb.mono HI.out.1.size)⟩
      have HG1 : Bx _ := ⟨hg1⟩
      have HD : Bx _ := ⟨HI.out.2⟩
      clear ks hb hg1 HI
      generalize hvl : (fun j => valF tk tv n (nm j)) = vl at *
      have HV2 : Bx (∀ j, j < i → (vl j).length ≤ 9223372036854775807) := ⟨fun j hj => by rw [← hvl]; exact HV.out j hj⟩
      clear hvl HV
      have ks := live_any w2 (HR.out.2.2.below H2.out)
      go_wp2_with fail
      refine ks.mono ?_
      rintro e w3 ⟨rfl, hb⟩
      have H3 : Bx (Below w.heap.size w w3 ∧ Below w2.heap.size w2 w3) := ⟨H2.out.trans (hb.mono H2.out.size), hb⟩
      clear ks hb
      have ks := kjoin_any A1 G1 i c1 i cg1 nm vl w3 (HR.out.2.1.below H3.out.1) (HG1.out.below H3.out.2) (fun j hj => ⟨HJ.out j (by omega), HV2.out j (by omega)⟩) hN1 hN1
      rw [Nat.min_self] at ks
      go_wp2_with fail
      refine ks.mono ?_
      rintro e w4 ⟨v3, rfl, ho3, hb⟩
      have H4 : Bx (Below w.heap.size w w4 ∧ Below w2.heap.size w2 w4) := ⟨H3.out.1.trans (hb.mono H3.out.1.size), H3.out.2.trans (hb.mono H3.out.2.size)⟩
      have hsl := joinS_len (nm := nm) (vl := vl) (m := i) (fun j hj => ⟨HJ.out j hj, HV2.out j hj⟩)
      have hz : (joinS nm vl i).length ≤ 1048576 := by
        have h1 := srtT_len (fun j => ((joinL nm vl i).getD j ([], [])).1) (fun j => ((joinL nm vl i).getD j ([], [])).2) (joinL nm vl i).length
        have h2 := joinL_len nm vl i
        unfold joinS
        omega
      obtain ⟨S3, cs3, rfl, hs1⟩ := row_of_owns ho3 hsl
      have ks2 := kgroup_any S3 A1 (joinS nm vl i).length cs3 i c1 _ _ nm w4 hs1 (HR.out.2.1.below H4.out.1) (by omega) hN1
      have hgj := group_join nm vl i HD.out
      generalize hjf : (fun j => valF (fun i_1 => ((joinS nm vl i).getD i_1 ([], [])).fst) (fun i_1 => ((joinS nm vl i).getD i_1 ([], [])).snd) (joinS nm vl i).length (nm j)) = jf at ks2
      have HE : Bx (∀ j, j < i → jf j = vl j) := ⟨fun j hj => by rw [← hjf]; exact hgj j hj⟩
      clear ks hb ho3 hsl hz hs1 hgj hjf
      generalize (joinS nm vl i).length = Z at *
      go_wp2_with fail
      refine ks2.mono ?_
      rintro e w5 ⟨G2, cg2, rfl, hg2, hb⟩
      have H5 : Bx (Below w.heap.size w w5 ∧ Below w2.heap.size w2 w5) := ⟨H4.out.1.trans (hb.mono H4.out.1.size), H4.out.2.trans (hb.mono H4.out.2.size)⟩
      have ks := sametexts_any G2 G1 i cg2 cg1 vl w5 (hg2.congr HE.out) (HG1.out.below H5.out.2) (by omega)
      clear ks2 hb hg2
      go_wp2_with fail
      refine ks.mono ?_
      rintro e w6 ⟨rfl, hb⟩
      have H6 : Bx (Below w.heap.size w w6) := ⟨H5.out.1.trans (hb.mono H5.out.1.size)⟩
      clear ks hb
      go_wp2_with fail
      go_ret
      exact ⟨rfl, H6.out⟩
end Go.Proofs.YtnpagnghnohmdaaDoor
