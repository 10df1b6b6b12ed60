/- The contract of num.Ratio. -/
import Derived.Test.YthlfbakndbjhoaaNumDw
set_option linter.unusedSimpArgs false
set_option linter.unusedVariables false
namespace Go.Proofs.Ythlfbakndbjhoaa
open Go.RowKit

theorem ratio_zero (h l : Int) (w : World) :
    Calls Try.prog 9 #[.agg #[.int .i64 h, .int .u64 l], .int .i64 0] w fun e w' => e = .returned (.tuple #[.int .i64 0, errV 21]) ∧ Below w.heap.size w w' := by
  go_enter Try.func9, Try.ntmps9
  go_wp2_with (go_at_call 15; refine (new_any _ _ (by decide)).mono ?_; rintro e w' ⟨rfl, rfl⟩)
  go_ret2
  exact ⟨rfl, below1 _ _⟩

theorem absN_pos (n : Int) (hn : I64 n) (hz : n ≠ 0) : 0 < absN n ∧ absN n ≤ 9223372036854775808 := by
  obtain ⟨n0, n1⟩ := hn
  unfold absN; split <;> omega
/-- what the steps of Ratio come to -/
structure RatioW (h l n M d q r : Int) : Prop where
  hM : M = absHi h l * 18446744073709551616 + absLo h l
  hd : d = absN n
  hq : q = M / d
  hr : r = M % d
theorem ratio_fits (h l n M d q r : Int) (hs : SumW h l) (hn : I64 n) (hz : n ≠ 0) (g : RatioW h l n M d q r) (hlt : absHi h l < d) :
    0 ≤ q ∧ q ≤ 18446744073709551615 ∧ 0 ≤ r ∧ r < d ∧
    ((isNeg h == decide (n < 0)) = true → floorZ (sZ h l) n = q) ∧ ((isNeg h == decide (n < 0)) = false → floorZ (sZ h l) n = if r = 0 then -q else -(q + 1)) := by
  obtain ⟨a0, a1, b0, b1, e⟩ := abs_val h l hs
  obtain ⟨hM, hd, hq, hr⟩ := g
  obtain ⟨d0, d1⟩ := absN_pos n hn hz
  rw [← hd] at d0 d1
  rw [← hM] at e
  have M0 : 0 ≤ M := by omega
  have Mlt : M < 18446744073709551616 * d := by omega
  have q0 : 0 ≤ q := by rw [hq]; exact Int.ediv_nonneg M0 (by omega)
  have q1 : q < 18446744073709551616 := by rw [hq]; exact (Int.ediv_lt_iff_lt_mul d0).2 Mlt
  refine ⟨q0, by omega, by rw [hr]; exact Int.emod_nonneg _ (by omega), by rw [hr]; exact Int.emod_lt_of_pos _ d0, fun hb => ?_, fun hb => ?_⟩
  · refine floor_same (sZ h l) n M d q d0 M0 ?_ hq
    rw [beq_iff_eq] at hb
    unfold isNeg at hb
    rw [decide_eq_decide] at hb
    unfold absN at hd
    by_cases hh : h < 0
    · rw [if_pos hh] at e; rw [if_pos (hb.1 hh)] at hd; exact .inr ⟨by omega, by omega⟩
    · rw [if_neg hh] at e; rw [if_neg (fun x => hh (hb.2 x))] at hd; exact .inl ⟨by omega, by omega⟩
  · refine floor_diff (sZ h l) n M d q r d0 M0 ?_ hq hr
    rw [beq_eq_false_iff_ne] at hb
    unfold isNeg at hb
    rw [ne_eq, decide_eq_decide] at hb
    unfold absN at hd
    by_cases hh : h < 0
    · rw [if_pos hh] at e
      have hn0 : ¬ n < 0 := fun x => hb ⟨fun _ => x, fun _ => hh⟩
      rw [if_neg hn0] at hd; exact .inr ⟨by omega, by omega⟩
    · rw [if_neg hh] at e
      have hn0 : n < 0 := by
        rcases Int.lt_or_le n 0 with x | x
        · exact x
        · exact absurd ⟨fun y => absurd y hh, fun y => absurd y (by omega)⟩ hb
      rw [if_pos hn0] at hd; exact .inl ⟨by omega, by omega⟩
theorem ratio_big (h l n M d : Int) (hs : SumW h l) (hn : I64 n) (hz : n ≠ 0) (hM : M = absHi h l * 18446744073709551616 + absLo h l) (hd : d = absN n) (hge : d ≤ absHi h l) : ¬ Fits (floorZ (sZ h l) n) := by
  obtain ⟨a0, a1, b0, b1, e⟩ := abs_val h l hs
  obtain ⟨d0, d1⟩ := absN_pos n hn hz
  rw [← hd] at d0 d1
  rw [← hM] at e
  have M0 : 0 ≤ M := by omega
  have Mge : 18446744073709551616 * d ≤ M := by omega
  have q1 : 18446744073709551616 ≤ M / d := (Int.le_ediv_iff_mul_le d0).2 Mge
  unfold Fits
  unfold absN at hd
  by_cases hh : h < 0
  · rw [if_pos hh] at e
    by_cases hn0 : n < 0
    · rw [if_pos hn0] at hd
      rw [floor_same (sZ h l) n M d _ d0 M0 (.inr ⟨by omega, by omega⟩) rfl]; omega
    · rw [if_neg hn0] at hd
      rw [floor_diff (sZ h l) n M d _ _ d0 M0 (.inr ⟨by omega, by omega⟩) rfl rfl]; split <;> omega
  · rw [if_neg hh] at e
    by_cases hn0 : n < 0
    · rw [if_pos hn0] at hd
      rw [floor_diff (sZ h l) n M d _ _ d0 M0 (.inl ⟨by omega, by omega⟩) rfl rfl]; split <;> omega
    · rw [if_neg hn0] at hd
      rw [floor_same (sZ h l) n M d _ d0 M0 (.inl ⟨by omega, by omega⟩) rfl]; omega

theorem fit_yes {x : Int} (h : Fits x) : fitN x = x ∧ fitC x = 0 := ⟨by unfold fitN; rw [if_pos h], by unfold fitC; rw [if_pos h]⟩
theorem fit_no {x : Int} (h : ¬ Fits x) : fitN x = 0 ∧ fitC x = 20 := ⟨by unfold fitN; rw [if_neg h], by unfold fitC; rw [if_neg h]⟩
/-- the ending of a number that fits, and of one that doesn't -/
theorem end_yes {x v : Int} (h0 : -9223372036854775808 ≤ x) (h1 : x ≤ 9223372036854775807) (hv : v = x) : Ending.returned (.tuple #[.int .i64 v, .nilIface]) = .returned (.tuple #[.int .i64 (fitN x), eV (fitC x)]) := by
  obtain ⟨a, b⟩ := fit_yes (x := x) ⟨h0, h1⟩
  rw [a, b, hv]; rfl
theorem end_no {x : Int} (h : ¬ Fits x) : Ending.returned (.tuple #[.int .i64 0, errV 20]) = .returned (.tuple #[.int .i64 (fitN x), eV (fitC x)]) := by
  obtain ⟨a, b⟩ := fit_no h
  rw [a, b]; rfl
set_option maxHeartbeats 2000000 in
theorem ratio_any (h l n : Int) (w : World) (hs : SumW h l) (hn : I64 n) (hz : n ≠ 0) :
    Calls Try.prog 9 #[.agg #[.int .i64 h, .int .u64 l], .int .i64 n] w fun e w' => e = .returned (.tuple #[.int .i64 (fitN (floorZ (sZ h l) n)), eV (fitC (floorZ (sZ h l) n))]) ∧ Below w.heap.size w w' := by
  have z0 : (n == 0) = false := by simpa using hz
  have hbig := ratio_big h l n _ _ hs hn hz rfl rfl
  obtain ⟨a0, a1, b0, b1, _⟩ := abs_val h l hs
  obtain ⟨d0, d1⟩ := absN_pos n hn hz
  have HBig := Lib.hid hbig
  clear hbig
  go_enter Try.func9, Try.ntmps9
  go_wp2_with fail
  refine (size_any h l _ hs).mono ?_; rintro e w1 ⟨rfl, h1⟩
  have H1 : Below w.heap.size w w1 := (below1 _ _).trans (h1.mono (by simp))
  clear h1
  go_wp2_with fail
  refine (sum_b n _).mono ?_; rintro e w2 ⟨rfl, h2⟩
  have H2 := H1.trans (h2.mono H1.size)
  clear H1 h2
  go_wp2_with fail
  refine (size_num n _ hn).mono ?_; rintro e w3 ⟨rfl, h3⟩
  have H3 := H2.trans (h3.mono H2.size)
  clear H2 h3
  by_cases hge : absN n ≤ absHi h l
  · go_wp2_with (go_at_call 15; refine (new_any _ _ (by decide)).mono ?_; rintro e w' ⟨rfl, rfl⟩)
    go_ret2
    exact ⟨end_no (HBig.out hge), H3⟩
  · obtain ⟨q, hq⟩ : ∃ q, q = (absHi h l * 18446744073709551616 + absLo h l) / absN n := ⟨_, rfl⟩
    obtain ⟨r, hr⟩ : ∃ r, r = (absHi h l * 18446744073709551616 + absLo h l) % absN n := ⟨_, rfl⟩
    obtain ⟨q0, q1, r0, r1, k1, k2⟩ := ratio_fits h l n _ _ q r hs hn hz ⟨rfl, rfl, hq, hr⟩ (by omega)
    have HQ := Lib.hid hq
    have HR := Lib.hid hr
    have K1 := Lib.hid k1
    have K2 := Lib.hid k2
    clear hq hr k1 k2
    go_wp2_with fail
    refine (div64_q _ _ _ q r _ a0 (by omega) b0 b1 (by omega) HQ.out HR.out).mono ?_; rintro e w4 ⟨rfl, h4⟩
    have H4 := H3.trans (h4.mono H3.size)
    clear H3 h4 HQ HR a0 a1 b0 b1 hge
    cases hb : (isNeg h == decide (n < 0))
    · have e := K2.out hb
      have E := Lib.hid e
      clear e K1 K2
      by_cases hr : r = 0
      · have t0 : (r != 0) = false := by simpa using hr
        have E' : floorZ (sZ h l) n = -q := by rw [E.out, if_pos hr]
        have EH := Lib.hid E'
        clear E E' hr
        by_cases hbg : q ≤ 9223372036854775808
        · go_wp2
          go_ret2
          exact ⟨end_yes (by rw [EH.out]; omega) (by rw [EH.out]; omega) (by rw [EH.out]; unfold wrap64; omega), H4⟩
        · go_wp2_with (go_at_call 15; refine (new_any _ _ (by decide)).mono ?_; rintro e w' ⟨rfl, rfl⟩)
          go_ret2
          exact ⟨end_no (by rw [EH.out]; unfold Fits; omega), H4⟩
      · have t0 : (r != 0) = true := by simpa using hr
        have E' : floorZ (sZ h l) n = -(q + 1) := by rw [E.out, if_neg hr]
        have EH := Lib.hid E'
        clear E E' hr
        by_cases hmx : q = 18446744073709551615
        · have t1 : (q == 18446744073709551615) = true := by simpa using hmx
          have q2 : 18446744073709551615 ≤ q := by omega
          clear hmx
          go_wp2_with (go_at_call 15; refine (new_any _ _ (by decide)).mono ?_; rintro e w' ⟨rfl, rfl⟩)
          go_ret2
          exact ⟨end_no (by rw [EH.out]; unfold Fits; omega), H4⟩
        · have t1 : (q == 18446744073709551615) = false := by simpa using hmx
          have q2 : q ≤ 18446744073709551614 := by omega
          clear hmx
          by_cases hbg : q + 1 ≤ 9223372036854775808
          · go_wp2
            go_ret2
            exact ⟨end_yes (by rw [EH.out]; omega) (by rw [EH.out]; omega) (by rw [EH.out]; unfold wrap64; omega), H4⟩
          · go_wp2_with (go_at_call 15; refine (new_any _ _ (by decide)).mono ?_; rintro e w' ⟨rfl, rfl⟩)
            go_ret2
            exact ⟨end_no (by rw [EH.out]; unfold Fits; omega), H4⟩
    · have e := K1.out hb
      have E := Lib.hid e
      clear e K1 K2
      by_cases hbg : q ≤ 9223372036854775807
      · have t : q / 9223372036854775808 = 0 := by omega
        go_wp2
        go_ret2
        exact ⟨end_yes (by rw [E.out]; omega) (by rw [E.out]; omega) (by rw [E.out]; try (unfold wrap64; omega)), H4⟩
      · have t : q / 9223372036854775808 = 1 := by omega
        go_wp2_with (go_at_call 15; refine (new_any _ _ (by decide)).mono ?_; rintro e w' ⟨rfl, rfl⟩)
        go_ret2
        exact ⟨end_no (by rw [E.out]; unfold Fits; omega), H4⟩
end Go.Proofs.Ythlfbakndbjhoaa
