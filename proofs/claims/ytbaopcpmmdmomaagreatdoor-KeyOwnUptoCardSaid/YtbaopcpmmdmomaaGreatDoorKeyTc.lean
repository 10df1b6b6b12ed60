/- byKey; slices.BinarySearchFunc with it. -/
import Derived.Test.YtbaopcpmmdmomaaGreatDoorKeyTb
import Derived.Test.YtbaopcpmmdmomaaGreatDoorKeyPe
set_option linter.unusedSimpArgs false
set_option linter.unusedVariables false
namespace Go.Proofs.YtbaopcpmmdmomaaGreatDoor
open Go.RowKit
theorem bykey_any (a b a' b' : List UInt8) (w : World) :
    Calls Tryz.prog 16 #[.agg #[strV a, strV b], .agg #[strV a', strV b']] w fun e w' => e = .returned (.int .i64 (cmpL a a')) ∧ Below w.heap.size w w' := by
  go_enter Tryz.func16, Tryz.ntmps16
  go_wp2_with fail
  refine (ccmp_any a a' _).mono ?_
  rintro e w1 ⟨rfl, rfl⟩
  go_wp2
  go_ret
  exact ⟨rfl, below2 _ _ _⟩
set_option maxHeartbeats 4000000 in
set_option maxRecDepth 100000 in
theorem bsearch_any (A : Option Addr) (n cap : Nat) (tk tv : Nat → List UInt8) (k v : List UInt8) (at_ : Nat) (w : World) (hr : TagRow w A n tk tv) (hn : n ≤ 1048576) (hat : at_ ≤ n) (hlo : ∀ i, i < at_ → cmpL (tk i) k < 0) (hhi : ∀ i, at_ ≤ i → i < n → 0 ≤ cmpL (tk i) k) :
    Calls Tryz.prog 15 #[.slice A n cap, .agg #[strV k, strV v], .func (.func 16) #[] #[]] w fun e w' => e = .returned (.tuple #[.int .i64 at_, .bool (decide (at_ < n) && cmpL (tk at_) k == 0)]) ∧ Below w.heap.size w w' := by
  have HR : Bx _ := ⟨hr⟩
  have HO : Bx _ := ⟨And.intro hlo hhi⟩
  obtain ⟨RB, hRB⟩ : ∃ RB, (decide (at_ < n) && cmpL (tk at_) k == 0) = RB := ⟨_, rfl⟩
  rw [hRB]
  have HRB : Bx _ := ⟨hRB⟩
  clear hRB
  have c0 := CA.alloc w [strV k, strV v] 70
  clear hr hlo hhi
  go_enter Tryz.func15, Tryz.ntmps15
  go_wp2_with fail
  change Code.wp _ _ _ _ (w.alloc (.cells #[strV k, strV v] 70))
  have HB : Bx _ := ⟨And.intro c0 (below1 w (.cells #[strV k, strV v] 70))⟩
  change Bx (CA (w.alloc (.cells #[strV k, strV v] 70)) _ _ ∧ _) at HB
  clear c0
  generalize (w.alloc (.cells #[strV k, strV v] 70)) = w0 at *
  generalize hS : w.heap.size = S at *
  have HS : Bx (w.heap.size = S) := ⟨hS⟩
  clear hS
  go_loopw [9, 10] (fun x y wr => ∃ i j : Nat, x = .int .i64 i ∧ y = .int .i64 j ∧ i ≤ at_ ∧ at_ ≤ j ∧ j ≤ n ∧ Bx (CA wr S [strV k, strV v] ∧ Below S w wr ∧ S < wr.heap.size)) (fun x y _ => (intOf y).toNat - (intOf x).toNat)
  case atStart => exact ⟨0, n, rfl, rfl, by omega, hat, by omega, ⟨HB.out.1, HB.out.2, cell_lt (HB.out.1 0 _ rfl)⟩⟩
  case round =>
    obtain ⟨i, j, rfl, rfl, hi, hj, hjn, HI⟩ := hrel
    by_cases hlt : i < j
    · obtain ⟨h, hh⟩ : ∃ h, (i + j) / 2 = h := ⟨_, rfl⟩
      have hz : ((i : Int) + (j : Int)) / 2 = (h : Int) := by omega
      have hhn : h < n := by omega
      have hbw : Below w.heap.size w wr := by rw [HS.out]; exact HI.out.2.1
      obtain ⟨b, off, rfl, hrow⟩ := (HR.out.below hbw).row (by omega)
      obtain ⟨r0, r1⟩ := hrow h hhn
      have q0 := cell_regrown r0
      have q1 := cell_regrown r1
      have q2 := cell_regrown (HI.out.1 0 _ rfl)
      have q3 := cell_regrown (HI.out.1 1 _ rfl)
      have kb : ∀ d os, Calls Tryz.prog 16 #[.agg #[strV (tk h), strV (tv h)], .agg #[strV k, strV v]] (Go.Sort.grow (redrawn wr d) os) _ := fun d os => bykey_any (tk h) (tv h) k v _
      obtain ⟨C, hC⟩ : ∃ C, cmpL (tk h) k = C := ⟨_, rfl⟩
      rw [hC] at kb
      have HC : Bx (cmpL (tk h) k = C) := ⟨hC⟩
      clear hC hrow r0 r1 hbw
      go_wp2_with fail
      refine wp_region_quiet_below (by kernel_rfl) (by kernel_rfl) ?_
      repeat (go_big_quiet_step (first | (go_at_call 16; with_reducible exact Calls.regrown_of (kb _ _))))
      refine wpQuiet_nil ?_
      intro _ hw'
      obtain ⟨⟨dq, osq⟩, hw''⟩ := hw'
      subst hw''
      have hb := below_regrown wr dq osq
      have HF : Bx (CA (Go.Sort.grow (redrawn wr dq) osq) S [strV k, strV v] ∧ Below S w (Go.Sort.grow (redrawn wr dq) osq) ∧ S < (Go.Sort.grow (redrawn wr dq) osq).heap.size) := ⟨HI.out.1.grown (grown_below hb none) (by simp), HI.out.2.1.trans (hb.mono (Nat.le_of_lt HI.out.2.2)), Nat.lt_of_lt_of_le HI.out.2.2 hb.size⟩
      clear q0 q1 q2 q3 kb HI hb
      generalize Go.Sort.grow (redrawn wr dq) osq = w1 at *
      by_cases hC0 : C < 0
      · have d0 : decide (C < 0) = true := by simpa using hC0
        have hha : h < at_ := by
          rcases Nat.lt_or_ge h at_ with h1 | h1
          · exact h1
          · have h2 := HO.out.2 h h1 hhn
            rw [HC.out] at h2
            omega
        go_wp2_with fail
        exact ⟨⟨h + 1, j, congrArg (Value.int .i64) (by omega), rfl, by omega, hj, hjn, HF⟩, by simp only [intOf]; omega⟩
      · have d0 : decide (C < 0) = false := by simpa using hC0
        have hha : at_ ≤ h := by
          rcases Nat.lt_or_ge h at_ with h1 | h1
          · have h2 := HO.out.1 h h1
            rw [HC.out] at h2
            omega
          · exact h1
        go_wp2_with fail
        exact ⟨⟨i, h, rfl, congrArg (Value.int .i64) (by omega), hi, hha, by omega, HF⟩, by simp only [intOf]; omega⟩
    · obtain rfl : i = at_ := by omega
      obtain rfl : j = i := by omega
      have hbw : Below w.heap.size w wr := by rw [HS.out]; exact HI.out.2.1
      have q2 := cell_regrown (HI.out.1 0 _ rfl)
      have q3 := cell_regrown (HI.out.1 1 _ rfl)
      by_cases hjn2 : j < n
      · obtain ⟨b, off, rfl, hrow⟩ := (HR.out.below hbw).row (by omega)
        obtain ⟨r0, r1⟩ := hrow j hjn2
        have q0 := cell_regrown r0
        have q1 := cell_regrown r1
        have kb : ∀ d os, Calls Tryz.prog 16 #[.agg #[strV (tk j), strV (tv j)], .agg #[strV k, strV v]] (Go.Sort.grow (redrawn wr d) os) _ := fun d os => bykey_any (tk j) (tv j) k v _
        have d1 : decide (j < n) = true := by simpa using hjn2
        have hrb := HRB.out
        rw [d1] at hrb
        generalize cmpL (tk j) k = C at *
        have HRB2 : Bx ((C == 0) = RB) := ⟨by simpa using hrb⟩
        clear hrb HRB
        clear hrow r0 r1 hbw d1
        go_wp2_with fail
        refine wp_region_quiet_below (by kernel_rfl) (by kernel_rfl) ?_
        repeat (go_big_quiet_step (first | (go_at_call 16; with_reducible exact Calls.regrown_of (kb _ _))))
        refine wpQuiet_nil ?_
        intro _ hw'
        obtain ⟨⟨dq, osq⟩, hw''⟩ := hw'
        subst hw''
        have HF : Bx (Below S w (Go.Sort.grow (redrawn wr dq) osq)) := ⟨HI.out.2.1.trans ((below_regrown wr dq osq).mono (Nat.le_of_lt HI.out.2.2))⟩
        clear q0 q1 q2 q3 kb HI
        generalize Go.Sort.grow (redrawn wr dq) osq = w1 at *
        go_wp2_with fail
        exact bodyPost_ret (results_tt rfl _ _ _ _ rfl rfl) rfl ⟨by rw [← HRB2.out]; rfl, by rw [HS.out]; exact HF.out⟩
      · have d1 : decide (j < n) = false := by simpa using hjn2
        have hrb := HRB.out
        rw [d1] at hrb
        have HRB2 : Bx (false = RB) := ⟨by simpa using hrb⟩
        clear hbw d1 hrb HRB
        obtain rfl : j = n := by omega
        go_wp2_with fail
        refine wp_region_quiet_below (by kernel_rfl) (by kernel_rfl) ?_
        repeat (go_big_quiet_step (fail))
        refine wpQuiet_nil ?_
        intro _ hw'
        obtain ⟨⟨dq, osq⟩, hw''⟩ := hw'
        subst hw''
        have HF : Bx (Below S w (Go.Sort.grow (redrawn wr dq) osq)) := ⟨HI.out.2.1.trans ((below_regrown wr dq osq).mono (Nat.le_of_lt HI.out.2.2))⟩
        clear q2 q3 HI
        generalize Go.Sort.grow (redrawn wr dq) osq = w1 at *
        go_wp2_with fail
        exact bodyPost_ret (results_tt rfl _ _ _ _ rfl rfl) rfl ⟨by rw [← HRB2.out]; rfl, by rw [HS.out]; exact HF.out⟩
end Go.Proofs.YtbaopcpmmdmomaaGreatDoor
