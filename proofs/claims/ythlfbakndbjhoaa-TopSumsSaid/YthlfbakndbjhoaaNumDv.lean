/- The contract of bits.Div64, proved by walking its text. -/
import Derived.Test.YthlfbakndbjhoaaNumWs
import Derived.Test.YthlfbakndbjhoaaNumDg
set_option linter.unusedSimpArgs false
set_option linter.unusedVariables false
namespace Go.Proofs.Ythlfbakndbjhoaa
open Go.RowKit

theorem next_u {u d Y A C d0 : Int} (h : DigHyp u d Y A C) (d00 : 0 ≤ d0) (d01 : d0 < 4294967296) (q : Int) (hq : q = (u * 4294967296 + d) / Y) :
    ∃ V, IntKind.u64.wrap (IntKind.u64.wrap (IntKind.u64.wrap (u * 4294967296) + d) - IntKind.u64.wrap (q * Y)) = V ∧ q = (u * 4294967296 + d) / Y ∧ V = u * 4294967296 + d - (u * 4294967296 + d) / Y * Y ∧ DigHyp V d0 Y A C := by
  obtain ⟨r0, r1⟩ := rest_range h
  rw [← hq] at r0 r1 ⊢
  have hy := h.y; have a1 := h.a1; have c1 := h.c1
  refine ⟨_, rfl, rfl, ?_, ?_⟩
  · simp only [IntKind.wrap_u64]; generalize q * Y = P at *; omega
  · refine ⟨h.y, h.a0, h.a1, h.c0, h.c1, ?_, ?_, d00, d01⟩ <;> (simp only [IntKind.wrap_u64]; generalize q * Y = P at *; omega)
theorem last_r {u d Y A C : Int} (h : DigHyp u d Y A C) (q : Int) (hq : q = (u * 4294967296 + d) / Y) :
    ∃ Z, IntKind.u64.wrap (IntKind.u64.wrap (IntKind.u64.wrap (u * 4294967296) + d) - IntKind.u64.wrap (q * Y)) = Z ∧ q = (u * 4294967296 + d) / Y ∧ Z = u * 4294967296 + d - q * Y := by
  obtain ⟨r0, r1⟩ := rest_range h
  rw [← hq] at r0 r1 ⊢
  have hy := h.y; have a1 := h.a1; have c1 := h.c1
  refine ⟨_, rfl, rfl, ?_⟩
  simp only [IntKind.wrap_u64]; generalize q * Y = P at *; omega

set_option maxHeartbeats 4000000 in
theorem div64_any (hi lo y : Int) (w : World) (h0 : 0 ≤ hi) (h1 : hi < y) (l0 : 0 ≤ lo) (l1 : lo ≤ 18446744073709551615) (y1 : y ≤ 18446744073709551615) (hne : hi ≠ 0) :
    Calls Try.prog 14 #[.int .u64 hi, .int .u64 lo, .int .u64 y] w fun e w' => e = .returned (.tuple #[.int .u64 ((hi * 18446744073709551616 + lo) / y), .int .u64 ((hi * 18446744073709551616 + lo) % y)]) ∧ w = w' := by
  have z1 : (y == 0) = false := by simp; omega
  have z2 : (hi == 0) = false := by simpa using hne
  generalize hB : Lib.bitLen y.toNat = B at *
  obtain ⟨b0, b1, Y, A, C, H, K, U, L, d1, d0, su⟩ := setup hi lo y B h0 h1 l0 l1 y1 hB
  have HB := Lib.hid hB
  obtain ⟨eY, eA, eC, eH, eK, eU, eL, e1, e0, hd, d00, d01, S0, eYS, eN, Y1⟩ := su
  have HD := Lib.hid hd
  have HN := Lib.hid (And.intro S0 (And.intro eYS eN))
  obtain ⟨hyy, a0, a1, c0, c1, u0, u1, d10, d11⟩ := hd
  have hzA : ¬ A = 0 := by omega
  have eq1 : U.tdiv A = U / A := Int.tdiv_eq_ediv_of_nonneg u0
  have qa : 0 ≤ U / A ∧ U / A ≤ U := ⟨Int.ediv_nonneg u0 (by omega), Int.ediv_le_self _ u0⟩
  have em : U - U / A * A = U % A := by have := Int.ediv_mul_add_emod U A; omega
  have hmul : 0 ≤ U / A * A ∧ U / A * A ≤ U := by
    have := Int.ediv_mul_add_emod U A; have := Int.emod_nonneg U (show A ≠ 0 by omega); have := Int.mul_nonneg qa.1 (show 0 ≤ A by omega); omega
  clear hB S0 eYS eN hyy
  go_enter Try.func14, Try.ntmps14
  go_wp2_with (go_at_call 16; refine (Try.bits_LeadingZeros64 y _ (by omega) (by omega)).mono ?_; rw [HB.out]; rintro e w' ⟨rfl, rfl⟩)
  have HS15 := Lib.hid (Dig.start HD.out)
  clear eY eA eC eH eK eU eL e1 e0 eq1 em qa hmul
  go_loop [15, 16] (fun q r => ∃ Q R : Int, q = .int .u64 Q ∧ r = .int .u64 R ∧ Hid (Dig U d1 Y A C Q R)) (fun q _ => (intOf q).toNat)
  case atStart => exact ⟨_, _, rfl, rfl, HS15.out⟩
  case round =>
    obtain ⟨Q, R, rfl, rfl, HQ⟩ := hrel
    have q0 := HQ.out.q0
    have r0 := HQ.out.r0
    have r1 := HQ.out.r1
    have qU : Q ≤ U := by have := HQ.out.e; have := Int.mul_le_mul_of_nonneg_left a0 q0; omega
    clear HS15
    by_cases hq : Q < 4294967296
    · have p0 : 0 ≤ Q * C := Int.mul_nonneg q0 c0
      have p1 : Q * C ≤ 18446744065119617025 := Int.mul_le_mul (show Q ≤ 4294967295 by omega) (show C ≤ 4294967295 by omega) c0 (by omega)
      by_cases ht : Q * C ≤ 4294967296 * R + d1
      · have HX15 := Lib.hid (HQ.out.no HD.out hq ht)
        obtain ⟨QF15, hQF15⟩ : ∃ x, Q = x := ⟨_, rfl⟩
        subst hQF15
        obtain ⟨QF, HQF⟩ : ∃ x, Hid (x = Q) := ⟨_, rfl⟩
        have f0 : 0 ≤ QF := by rw [HQF.out]; omega
        have f1 : QF < 4294967296 := by rw [HQF.out]; exact HX15.out.2
        obtain ⟨V, hV, HV⟩ := next_u HD.out d00 d01 QF (by rw [HQF.out]; exact HX15.out.1)
        have hqf : Q = QF := HQF.out.symm; subst hqf
        have HD2 := Lib.hid HV.2.2
        have v0 := HV.2.2.u0
        have v1 := HV.2.2.u1
        have HVE := Lib.hid HV.2.1
        have HQE := Lib.hid HV.1
        clear HV
        have ev : V.tdiv A = V / A := Int.tdiv_eq_ediv_of_nonneg v0
        have qa : 0 ≤ V / A ∧ V / A ≤ V := ⟨Int.ediv_nonneg v0 (by omega), Int.ediv_le_self _ v0⟩
        have em : V - V / A * A = V % A := by have := Int.ediv_mul_add_emod V A; omega
        have hmul : 0 ≤ V / A * A ∧ V / A * A ≤ V := by
          have := Int.ediv_mul_add_emod V A; have := Int.emod_nonneg V (show A ≠ 0 by omega); have := Int.mul_nonneg qa.1 (show 0 ≤ A by omega); omega
        go_wp2
        have HS18 := Lib.hid (Dig.start HD2.out)
        clear hV ev qa em hmul HQ r0 r1
        go_loop [18, 16] (fun q r => ∃ Q R : Int, q = .int .u64 Q ∧ r = .int .u64 R ∧ Hid (Dig V d0 Y A C Q R)) (fun q _ => (intOf q).toNat)
        case atStart => exact ⟨_, _, rfl, rfl, HS18.out⟩
        case round =>
          obtain ⟨Q, R, rfl, rfl, HQ⟩ := hrel
          have q0 := HQ.out.q0
          have r0 := HQ.out.r0
          have r1 := HQ.out.r1
          have qU : Q ≤ V := by have := HQ.out.e; have := Int.mul_le_mul_of_nonneg_left a0 q0; omega
          clear HS18
          by_cases hq : Q < 4294967296
          · have p0 : 0 ≤ Q * C := Int.mul_nonneg q0 c0
            have p1 : Q * C ≤ 18446744065119617025 := Int.mul_le_mul (show Q ≤ 4294967295 by omega) (show C ≤ 4294967295 by omega) c0 (by omega)
            by_cases ht : Q * C ≤ 4294967296 * R + d0
            · have HX18 := Lib.hid (HQ.out.no HD2.out hq ht)
              obtain ⟨QF18, hQF18⟩ : ∃ x, Q = x := ⟨_, rfl⟩
              subst hQF18
              obtain ⟨QG, HQG⟩ : ∃ x, Hid (x = Q) := ⟨_, rfl⟩
              have g0 : 0 ≤ QG := by rw [HQG.out]; omega
              have g1 : QG < 4294967296 := by rw [HQG.out]; exact HX18.out.2
              have hqg : Q = QG := HQG.out.symm; subst hqg
              obtain ⟨Z, hZ, HZ⟩ := last_r HD2.out Q HX18.out.1
              have HZ1 := Lib.hid HZ
              clear HZ
              go_wp2
              go_ret2
              obtain ⟨n1, n2, n3⟩ := HN.out
              obtain ⟨t1, t2⟩ := two_digits n1 (by omega) n2 n3 V HVE.out
              rw [← HQE.out, ← HZ1.out.1] at t1
              rw [← HZ1.out.1, ← HZ1.out.2] at t2
              rw [← t1, ← t2]
              exact ⟨rfl, rfl⟩
            · have ht' : 4294967296 * R + d0 < Q * C := by omega
              have hl := (HQ.out.less HD2.out (.inr ht')).1
              by_cases hr : R + A < 4294967296
              · have HG := Lib.hid (HQ.out.go HD2.out (.inr ht') hr)
                go_wp2
                go_round
                case rel => exact ⟨Q - 1, R + A, rfl, rfl, HG⟩
                case measure => simp [intOf]; omega
              · have HX18 := Lib.hid (HQ.out.brk HD2.out (.inr ht') (by omega))
                obtain ⟨QG, HQG⟩ : ∃ x, Hid (x = (Q - 1)) := ⟨_, rfl⟩
                have g0 : 0 ≤ QG := by rw [HQG.out]; omega
                have g1 : QG < 4294967296 := by rw [HQG.out]; exact HX18.out.2
                have hqg : (Q - 1) = QG := HQG.out.symm
                obtain ⟨Z, hZ, HZ⟩ := last_r HD2.out QG (by rw [HQG.out]; exact HX18.out.1)
                have HZ1 := Lib.hid HZ
                clear HZ
                go_wp2
                go_ret2
                obtain ⟨n1, n2, n3⟩ := HN.out
                obtain ⟨t1, t2⟩ := two_digits n1 (by omega) n2 n3 V HVE.out
                rw [← HQE.out, ← HZ1.out.1] at t1
                rw [← HZ1.out.1, ← HZ1.out.2] at t2
                rw [← t1, ← t2]
                exact ⟨rfl, rfl⟩
          · have hl := (HQ.out.less HD2.out (.inl (by omega))).1
            by_cases hr : R + A < 4294967296
            · have HG := Lib.hid (HQ.out.go HD2.out (.inl (by omega)) hr)
              go_wp2
              go_round
              case rel => exact ⟨Q - 1, R + A, rfl, rfl, HG⟩
              case measure => simp [intOf]; omega
            · have HX18 := Lib.hid (HQ.out.brk HD2.out (.inl (by omega)) (by omega))
              obtain ⟨QG, HQG⟩ : ∃ x, Hid (x = (Q - 1)) := ⟨_, rfl⟩
              have g0 : 0 ≤ QG := by rw [HQG.out]; omega
              have g1 : QG < 4294967296 := by rw [HQG.out]; exact HX18.out.2
              have hqg : (Q - 1) = QG := HQG.out.symm
              obtain ⟨Z, hZ, HZ⟩ := last_r HD2.out QG (by rw [HQG.out]; exact HX18.out.1)
              have HZ1 := Lib.hid HZ
              clear HZ
              go_wp2
              go_ret2
              obtain ⟨n1, n2, n3⟩ := HN.out
              obtain ⟨t1, t2⟩ := two_digits n1 (by omega) n2 n3 V HVE.out
              rw [← HQE.out, ← HZ1.out.1] at t1
              rw [← HZ1.out.1, ← HZ1.out.2] at t2
              rw [← t1, ← t2]
              exact ⟨rfl, rfl⟩
      · have ht' : 4294967296 * R + d1 < Q * C := by omega
        have hl := (HQ.out.less HD.out (.inr ht')).1
        by_cases hr : R + A < 4294967296
        · have HG := Lib.hid (HQ.out.go HD.out (.inr ht') hr)
          go_wp2
          go_round
          case rel => exact ⟨Q - 1, R + A, rfl, rfl, HG⟩
          case measure => simp [intOf]; omega
        · have HX15 := Lib.hid (HQ.out.brk HD.out (.inr ht') (by omega))
          obtain ⟨QF, HQF⟩ : ∃ x, Hid (x = (Q - 1)) := ⟨_, rfl⟩
          have f0 : 0 ≤ QF := by rw [HQF.out]; omega
          have f1 : QF < 4294967296 := by rw [HQF.out]; exact HX15.out.2
          obtain ⟨V, hV, HV⟩ := next_u HD.out d00 d01 QF (by rw [HQF.out]; exact HX15.out.1)
          have hqf : Q - 1 = QF := HQF.out.symm
          have HD2 := Lib.hid HV.2.2
          have v0 := HV.2.2.u0
          have v1 := HV.2.2.u1
          have HVE := Lib.hid HV.2.1
          have HQE := Lib.hid HV.1
          clear HV
          have ev : V.tdiv A = V / A := Int.tdiv_eq_ediv_of_nonneg v0
          have qa : 0 ≤ V / A ∧ V / A ≤ V := ⟨Int.ediv_nonneg v0 (by omega), Int.ediv_le_self _ v0⟩
          have em : V - V / A * A = V % A := by have := Int.ediv_mul_add_emod V A; omega
          have hmul : 0 ≤ V / A * A ∧ V / A * A ≤ V := by
            have := Int.ediv_mul_add_emod V A; have := Int.emod_nonneg V (show A ≠ 0 by omega); have := Int.mul_nonneg qa.1 (show 0 ≤ A by omega); omega
          go_wp2
          have HS18 := Lib.hid (Dig.start HD2.out)
          clear hV ev qa em hmul HQ r0 r1 hqf
          go_loop [18, 16] (fun q r => ∃ Q R : Int, q = .int .u64 Q ∧ r = .int .u64 R ∧ Hid (Dig V d0 Y A C Q R)) (fun q _ => (intOf q).toNat)
          case atStart => exact ⟨_, _, rfl, rfl, HS18.out⟩
          case round =>
            obtain ⟨Q, R, rfl, rfl, HQ⟩ := hrel
            have q0 := HQ.out.q0
            have r0 := HQ.out.r0
            have r1 := HQ.out.r1
            have qU : Q ≤ V := by have := HQ.out.e; have := Int.mul_le_mul_of_nonneg_left a0 q0; omega
            clear HS18
            by_cases hq : Q < 4294967296
            · have p0 : 0 ≤ Q * C := Int.mul_nonneg q0 c0
              have p1 : Q * C ≤ 18446744065119617025 := Int.mul_le_mul (show Q ≤ 4294967295 by omega) (show C ≤ 4294967295 by omega) c0 (by omega)
              by_cases ht : Q * C ≤ 4294967296 * R + d0
              · have HX18 := Lib.hid (HQ.out.no HD2.out hq ht)
                obtain ⟨QF18, hQF18⟩ : ∃ x, Q = x := ⟨_, rfl⟩
                subst hQF18
                obtain ⟨QG, HQG⟩ : ∃ x, Hid (x = Q) := ⟨_, rfl⟩
                have g0 : 0 ≤ QG := by rw [HQG.out]; omega
                have g1 : QG < 4294967296 := by rw [HQG.out]; exact HX18.out.2
                have hqg : Q = QG := HQG.out.symm; subst hqg
                obtain ⟨Z, hZ, HZ⟩ := last_r HD2.out Q HX18.out.1
                have HZ1 := Lib.hid HZ
                clear HZ
                go_wp2
                go_ret2
                obtain ⟨n1, n2, n3⟩ := HN.out
                obtain ⟨t1, t2⟩ := two_digits n1 (by omega) n2 n3 V HVE.out
                rw [← HQE.out, ← HZ1.out.1] at t1
                rw [← HZ1.out.1, ← HZ1.out.2] at t2
                rw [← t1, ← t2]
                exact ⟨rfl, rfl⟩
              · have ht' : 4294967296 * R + d0 < Q * C := by omega
                have hl := (HQ.out.less HD2.out (.inr ht')).1
                by_cases hr : R + A < 4294967296
                · have HG := Lib.hid (HQ.out.go HD2.out (.inr ht') hr)
                  go_wp2
                  go_round
                  case rel => exact ⟨Q - 1, R + A, rfl, rfl, HG⟩
                  case measure => simp [intOf]; omega
                · have HX18 := Lib.hid (HQ.out.brk HD2.out (.inr ht') (by omega))
                  obtain ⟨QG, HQG⟩ : ∃ x, Hid (x = (Q - 1)) := ⟨_, rfl⟩
                  have g0 : 0 ≤ QG := by rw [HQG.out]; omega
                  have g1 : QG < 4294967296 := by rw [HQG.out]; exact HX18.out.2
                  have hqg : (Q - 1) = QG := HQG.out.symm
                  obtain ⟨Z, hZ, HZ⟩ := last_r HD2.out QG (by rw [HQG.out]; exact HX18.out.1)
                  have HZ1 := Lib.hid HZ
                  clear HZ
                  go_wp2
                  go_ret2
                  obtain ⟨n1, n2, n3⟩ := HN.out
                  obtain ⟨t1, t2⟩ := two_digits n1 (by omega) n2 n3 V HVE.out
                  rw [← HQE.out, ← HZ1.out.1] at t1
                  rw [← HZ1.out.1, ← HZ1.out.2] at t2
                  rw [← t1, ← t2]
                  exact ⟨rfl, rfl⟩
            · have hl := (HQ.out.less HD2.out (.inl (by omega))).1
              by_cases hr : R + A < 4294967296
              · have HG := Lib.hid (HQ.out.go HD2.out (.inl (by omega)) hr)
                go_wp2
                go_round
                case rel => exact ⟨Q - 1, R + A, rfl, rfl, HG⟩
                case measure => simp [intOf]; omega
              · have HX18 := Lib.hid (HQ.out.brk HD2.out (.inl (by omega)) (by omega))
                obtain ⟨QG, HQG⟩ : ∃ x, Hid (x = (Q - 1)) := ⟨_, rfl⟩
                have g0 : 0 ≤ QG := by rw [HQG.out]; omega
                have g1 : QG < 4294967296 := by rw [HQG.out]; exact HX18.out.2
                have hqg : (Q - 1) = QG := HQG.out.symm
                obtain ⟨Z, hZ, HZ⟩ := last_r HD2.out QG (by rw [HQG.out]; exact HX18.out.1)
                have HZ1 := Lib.hid HZ
                clear HZ
                go_wp2
                go_ret2
                obtain ⟨n1, n2, n3⟩ := HN.out
                obtain ⟨t1, t2⟩ := two_digits n1 (by omega) n2 n3 V HVE.out
                rw [← HQE.out, ← HZ1.out.1] at t1
                rw [← HZ1.out.1, ← HZ1.out.2] at t2
                rw [← t1, ← t2]
                exact ⟨rfl, rfl⟩
    · have hl := (HQ.out.less HD.out (.inl (by omega))).1
      by_cases hr : R + A < 4294967296
      · have HG := Lib.hid (HQ.out.go HD.out (.inl (by omega)) hr)
        go_wp2
        go_round
        case rel => exact ⟨Q - 1, R + A, rfl, rfl, HG⟩
        case measure => simp [intOf]; omega
      · have HX15 := Lib.hid (HQ.out.brk HD.out (.inl (by omega)) (by omega))
        obtain ⟨QF, HQF⟩ : ∃ x, Hid (x = (Q - 1)) := ⟨_, rfl⟩
        have f0 : 0 ≤ QF := by rw [HQF.out]; omega
        have f1 : QF < 4294967296 := by rw [HQF.out]; exact HX15.out.2
        obtain ⟨V, hV, HV⟩ := next_u HD.out d00 d01 QF (by rw [HQF.out]; exact HX15.out.1)
        have hqf : Q - 1 = QF := HQF.out.symm
        have HD2 := Lib.hid HV.2.2
        have v0 := HV.2.2.u0
        have v1 := HV.2.2.u1
        have HVE := Lib.hid HV.2.1
        have HQE := Lib.hid HV.1
        clear HV
        have ev : V.tdiv A = V / A := Int.tdiv_eq_ediv_of_nonneg v0
        have qa : 0 ≤ V / A ∧ V / A ≤ V := ⟨Int.ediv_nonneg v0 (by omega), Int.ediv_le_self _ v0⟩
        have em : V - V / A * A = V % A := by have := Int.ediv_mul_add_emod V A; omega
        have hmul : 0 ≤ V / A * A ∧ V / A * A ≤ V := by
          have := Int.ediv_mul_add_emod V A; have := Int.emod_nonneg V (show A ≠ 0 by omega); have := Int.mul_nonneg qa.1 (show 0 ≤ A by omega); omega
        go_wp2
        have HS18 := Lib.hid (Dig.start HD2.out)
        clear hV ev qa em hmul HQ r0 r1 hqf
        go_loop [18, 16] (fun q r => ∃ Q R : Int, q = .int .u64 Q ∧ r = .int .u64 R ∧ Hid (Dig V d0 Y A C Q R)) (fun q _ => (intOf q).toNat)
        case atStart => exact ⟨_, _, rfl, rfl, HS18.out⟩
        case round =>
          obtain ⟨Q, R, rfl, rfl, HQ⟩ := hrel
          have q0 := HQ.out.q0
          have r0 := HQ.out.r0
          have r1 := HQ.out.r1
          have qU : Q ≤ V := by have := HQ.out.e; have := Int.mul_le_mul_of_nonneg_left a0 q0; omega
          clear HS18
          by_cases hq : Q < 4294967296
          · have p0 : 0 ≤ Q * C := Int.mul_nonneg q0 c0
            have p1 : Q * C ≤ 18446744065119617025 := Int.mul_le_mul (show Q ≤ 4294967295 by omega) (show C ≤ 4294967295 by omega) c0 (by omega)
            by_cases ht : Q * C ≤ 4294967296 * R + d0
            · have HX18 := Lib.hid (HQ.out.no HD2.out hq ht)
              obtain ⟨QF18, hQF18⟩ : ∃ x, Q = x := ⟨_, rfl⟩
              subst hQF18
              obtain ⟨QG, HQG⟩ : ∃ x, Hid (x = Q) := ⟨_, rfl⟩
              have g0 : 0 ≤ QG := by rw [HQG.out]; omega
              have g1 : QG < 4294967296 := by rw [HQG.out]; exact HX18.out.2
              have hqg : Q = QG := HQG.out.symm; subst hqg
              obtain ⟨Z, hZ, HZ⟩ := last_r HD2.out Q HX18.out.1
              have HZ1 := Lib.hid HZ
              clear HZ
              go_wp2
              go_ret2
              obtain ⟨n1, n2, n3⟩ := HN.out
              obtain ⟨t1, t2⟩ := two_digits n1 (by omega) n2 n3 V HVE.out
              rw [← HQE.out, ← HZ1.out.1] at t1
              rw [← HZ1.out.1, ← HZ1.out.2] at t2
              rw [← t1, ← t2]
              exact ⟨rfl, rfl⟩
            · have ht' : 4294967296 * R + d0 < Q * C := by omega
              have hl := (HQ.out.less HD2.out (.inr ht')).1
              by_cases hr : R + A < 4294967296
              · have HG := Lib.hid (HQ.out.go HD2.out (.inr ht') hr)
                go_wp2
                go_round
                case rel => exact ⟨Q - 1, R + A, rfl, rfl, HG⟩
                case measure => simp [intOf]; omega
              · have HX18 := Lib.hid (HQ.out.brk HD2.out (.inr ht') (by omega))
                obtain ⟨QG, HQG⟩ : ∃ x, Hid (x = (Q - 1)) := ⟨_, rfl⟩
                have g0 : 0 ≤ QG := by rw [HQG.out]; omega
                have g1 : QG < 4294967296 := by rw [HQG.out]; exact HX18.out.2
                have hqg : (Q - 1) = QG := HQG.out.symm
                obtain ⟨Z, hZ, HZ⟩ := last_r HD2.out QG (by rw [HQG.out]; exact HX18.out.1)
                have HZ1 := Lib.hid HZ
                clear HZ
                go_wp2
                go_ret2
                obtain ⟨n1, n2, n3⟩ := HN.out
                obtain ⟨t1, t2⟩ := two_digits n1 (by omega) n2 n3 V HVE.out
                rw [← HQE.out, ← HZ1.out.1] at t1
                rw [← HZ1.out.1, ← HZ1.out.2] at t2
                rw [← t1, ← t2]
                exact ⟨rfl, rfl⟩
          · have hl := (HQ.out.less HD2.out (.inl (by omega))).1
            by_cases hr : R + A < 4294967296
            · have HG := Lib.hid (HQ.out.go HD2.out (.inl (by omega)) hr)
              go_wp2
              go_round
              case rel => exact ⟨Q - 1, R + A, rfl, rfl, HG⟩
              case measure => simp [intOf]; omega
            · have HX18 := Lib.hid (HQ.out.brk HD2.out (.inl (by omega)) (by omega))
              obtain ⟨QG, HQG⟩ : ∃ x, Hid (x = (Q - 1)) := ⟨_, rfl⟩
              have g0 : 0 ≤ QG := by rw [HQG.out]; omega
              have g1 : QG < 4294967296 := by rw [HQG.out]; exact HX18.out.2
              have hqg : (Q - 1) = QG := HQG.out.symm
              obtain ⟨Z, hZ, HZ⟩ := last_r HD2.out QG (by rw [HQG.out]; exact HX18.out.1)
              have HZ1 := Lib.hid HZ
              clear HZ
              go_wp2
              go_ret2
              obtain ⟨n1, n2, n3⟩ := HN.out
              obtain ⟨t1, t2⟩ := two_digits n1 (by omega) n2 n3 V HVE.out
              rw [← HQE.out, ← HZ1.out.1] at t1
              rw [← HZ1.out.1, ← HZ1.out.2] at t2
              rw [← t1, ← t2]
              exact ⟨rfl, rfl⟩
end Go.Proofs.Ythlfbakndbjhoaa
