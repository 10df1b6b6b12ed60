/- The document's order of texts and of rows of tags. -/
import Derived.Test.YtbaopcpmmdmomaaGreatDoorKeyK
set_option linter.unusedSimpArgs false
set_option linter.unusedVariables false
namespace Go.Proofs.YtbaopcpmmdmomaaGreatDoor
open Go.RowKit
/-- -1, 0 or 1: how two texts stand -/
def cmpL (a b : List UInt8) : Int := if Op.bytesLess a b then -1 else if a == b then 0 else 1
theorem cmpL_range (a b : List UInt8) : -1 ≤ cmpL a b ∧ cmpL a b ≤ 1 := by unfold cmpL; repeat' split <;> omega
theorem texts_any (a b : List UInt8) (w : World) :
    Calls Tryz.prog 81 #[strV a, strV b] w fun e w' => e = .returned (.int .i64 (cmpL a b)) ∧ w = w' := by
  unfold cmpL
  obtain ⟨L, hL⟩ : ∃ L, Op.bytesLess a b = L := ⟨_, rfl⟩
  obtain ⟨E, hE⟩ : ∃ E, (a == b) = E := ⟨_, rfl⟩
  rw [hL, hE]
  cases L <;> cases E <;>
  · go_enter Tryz.func81, Tryz.ntmps81
    go_wp2
    go_ret
    exact ⟨rfl, rfl⟩
/-- how two rows of tags stand, from a place on -/
def cmpFrom (k1 v1 k2 v2 : Nat → List UInt8) (n1 n2 : Nat) : Nat → Nat → Int
  | 0, _ => if n1 < n2 then -1 else if n2 < n1 then 1 else 0
  | f + 1, i => if cmpL (k1 i) (k2 i) = 0 then (if cmpL (v1 i) (v2 i) = 0 then cmpFrom k1 v1 k2 v2 n1 n2 f (i + 1) else cmpL (v1 i) (v2 i)) else cmpL (k1 i) (k2 i)
def cmpT (k1 v1 k2 v2 : Nat → List UInt8) (n1 n2 : Nat) : Int := cmpFrom k1 v1 k2 v2 n1 n2 (min n1 n2) 0
set_option maxHeartbeats 4000000 in
set_option maxRecDepth 100000 in
theorem ctags_any (A1 A2 : Option Addr) (n1 c1 n2 c2 : Nat) (k1 v1 k2 v2 : Nat → List UInt8) (w : World) (h1 : TagRow w A1 n1 k1 v1) (h2 : TagRow w A2 n2 k2 v2) (hn1 : n1 ≤ 9223372036854775807) (hn2 : n2 ≤ 9223372036854775807) :
    Calls Tryz.prog 70 #[.slice A1 n1 c1, .slice A2 n2 c2] w fun e w' => e = .returned (.int .i64 (cmpT k1 v1 k2 v2 n1 n2)) ∧ Below w.heap.size w w' := by
  obtain ⟨C, hC⟩ : ∃ C, cmpT k1 v1 k2 v2 n1 n2 = C := ⟨_, rfl⟩
  rw [hC]
  have HC : Bx (cmpFrom k1 v1 k2 v2 n1 n2 (min n1 n2) 0 = C) := ⟨hC⟩
  have H1 : Bx _ := ⟨h1⟩
  have H2 : Bx _ := ⟨h2⟩
  clear hC h1 h2
  go_enter Tryz.func70, Tryz.ntmps70
  go_wp2_with fail
  go_loopw [5] (fun i wr => ∃ k : Nat, k ≤ min n1 n2 ∧ i = .int .i64 k ∧ Bx (cmpFrom k1 v1 k2 v2 n1 n2 (min n1 n2 - k) k = C) ∧ Bx (Below w.heap.size w wr)) (fun i _ => min n1 n2 - (intOf i).toNat)
  case atStart => exact ⟨0, by omega, rfl, HC, ⟨Below.refl _ _⟩⟩
  case round =>
    obtain ⟨k, hk, rfl, HK, HI⟩ := hrel
    clear HC
    by_cases hlt : k < min n1 n2
    · have l1 : k < n1 := by omega
      have l2 : k < n2 := by omega
      obtain ⟨b1, o1, rfl, hr1⟩ := (H1.out.below HI.out).row (by omega)
      obtain ⟨b2, o2, rfl, hr2⟩ := (H2.out.below HI.out).row (by omega)
      obtain ⟨p0, p1⟩ := hr1 k l1
      obtain ⟨p2, p3⟩ := hr2 k l2
      have HP : Bx (wr.cell? ⟨b1, o1 + k * 2 + 1, none⟩ = some (strV (v1 k)) ∧ wr.cell? ⟨b2, o2 + k * 2 + 1, none⟩ = some (strV (v2 k))) := ⟨p1, p3⟩
      have q0 := cell_regrown p0
      have q1 := cell_regrown p2
      clear hr1 hr2 p0 p1 p2 p3
      have t1 : ∀ w, Calls Tryz.prog 81 #[strV (k1 k), strV (k2 k)] w fun e w' => e = .returned (.int .i64 (cmpL (k1 k) (k2 k))) ∧ Below w.heap.size w w' := fun w => (texts_any _ _ w).mono fun e w' ⟨h1, h2⟩ => ⟨h1, by rw [← h2]; exact Below.refl _ _⟩
      have t2 : ∀ w, Calls Tryz.prog 81 #[strV (v1 k), strV (v2 k)] w fun e w' => e = .returned (.int .i64 (cmpL (v1 k) (v2 k))) ∧ Below w.heap.size w w' := fun w => (texts_any _ _ w).mono fun e w' ⟨h1, h2⟩ => ⟨h1, by rw [← h2]; exact Below.refl _ _⟩
      have HS : Bx ((if cmpL (k1 k) (k2 k) = 0 then (if cmpL (v1 k) (v2 k) = 0 then cmpFrom k1 v1 k2 v2 n1 n2 (min n1 n2 - (k + 1)) (k + 1) else cmpL (v1 k) (v2 k)) else cmpL (k1 k) (k2 k)) = C) := ⟨by
        have h := HK.out
        rw [show min n1 n2 - k = (min n1 n2 - (k + 1)) + 1 by omega] at h
        exact h⟩
      generalize cmpL (k1 k) (k2 k) = C1 at *
      generalize cmpL (v1 k) (v2 k) = C2 at *
      generalize k1 k = K1 at *
      generalize k2 k = K2 at *
      generalize v1 k = V1 at *
      generalize v2 k = V2 at *
      clear HK
      go_wp2_with fail
      refine wp_region_quiet_below (by kernel_rfl) (by kernel_rfl) ?_
      repeat (go_big_quiet_step ((go_at_call 81; exact Calls.regrown_of (t1 _))))
      refine wpQuiet_nil ?_
      intro _ hw'
      obtain ⟨⟨dq, osq⟩, hw''⟩ := hw'
      subst hw''
      have hb := below_regrown wr dq osq
      have HJ : Bx (Below w.heap.size w (Go.Sort.grow (redrawn wr dq) osq)) := ⟨HI.out.trans (hb.mono HI.out.size)⟩
      have p1 : (Go.Sort.grow (redrawn wr dq) osq).cell? ⟨b1, o1 + k * 2 + 1, none⟩ = some (strV V1) := cell_regrown HP.out.1 _ _
      have p3 : (Go.Sort.grow (redrawn wr dq) osq).cell? ⟨b2, o2 + k * 2 + 1, none⟩ = some (strV V2) := cell_regrown HP.out.2 _ _
      clear HI HP q0 q1 t1 hb
      generalize Go.Sort.grow (redrawn wr dq) osq = w3 at *
      by_cases hc1 : C1 = 0
      · have d1 : (C1 != 0) = false := by simpa using hc1
        have HS2 : Bx ((if C2 = 0 then cmpFrom k1 v1 k2 v2 n1 n2 (min n1 n2 - (k + 1)) (k + 1) else C2) = C) := ⟨by have := HS.out; rwa [if_pos hc1] at this⟩
        clear HS hc1
        have q0 := cell_regrown p1
        have q1 := cell_regrown p3
        go_wp2_with fail
        clear p1 p3
        refine wp_region_quiet_below (by kernel_rfl) (by kernel_rfl) ?_
        repeat (go_big_quiet_step ((go_at_call 81; exact Calls.regrown_of (t2 _))))
        refine wpQuiet_nil ?_
        intro _ hw'
        obtain ⟨⟨dq, osq⟩, hw''⟩ := hw'
        subst hw''
        have HL : Bx (Below w.heap.size w (Go.Sort.grow (redrawn w3 dq) osq)) := ⟨HJ.out.trans ((below_regrown w3 dq osq).mono HJ.out.size)⟩
        clear HJ q0 q1 t2
        generalize Go.Sort.grow (redrawn w3 dq) osq = w4 at *
        by_cases hc2 : C2 = 0
        · have d2 : (C2 != 0) = false := by simpa using hc2
          have HS3 : Bx (cmpFrom k1 v1 k2 v2 n1 n2 (min n1 n2 - (k + 1)) (k + 1) = C) := ⟨by have := HS2.out; rwa [if_pos hc2] at this⟩
          clear HS2 hc2
          go_wp2
          exact ⟨⟨k + 1, by omega, by rw [Int.natCast_succ], HS3, HL⟩, by simp only [intOf]; omega⟩
        · have d2 : (C2 != 0) = true := by simpa using hc2
          have HS3 : Bx (C2 = C) := ⟨by have := HS2.out; rwa [if_neg hc2] at this⟩
          clear HS2 hc2
          go_wp2
          go_ret
          exact ⟨by rw [← HS3.out]; rfl, HL.out⟩
      · have d1 : (C1 != 0) = true := by simpa using hc1
        have HS2 : Bx (C1 = C) := ⟨by have := HS.out; rwa [if_neg hc1] at this⟩
        clear HS hc1 t2 p1 p3
        go_wp2
        go_ret
        exact ⟨by rw [← HS2.out]; rfl, HJ.out⟩
    · have HE : Bx ((if n1 < n2 then (-1 : Int) else if n2 < n1 then 1 else 0) = C) := ⟨by
        have h := HK.out
        rw [show min n1 n2 - k = 0 by omega] at h
        exact h⟩
      clear HK H1 H2
      rcases Nat.lt_trichotomy n1 n2 with h | h | h
      · rw [if_pos h] at HE
        obtain rfl : k = n1 := by omega
        clear hlt hk
        go_wp2
        go_ret
        exact ⟨by rw [← HE.out]; rfl, HI.out⟩
      · subst h
        rw [if_neg (by omega), if_neg (by omega)] at HE
        obtain rfl : k = n1 := by omega
        clear hlt hk
        go_wp2
        go_ret
        exact ⟨by rw [← HE.out]; rfl, HI.out⟩
      · rw [if_neg (by omega), if_pos h] at HE
        obtain rfl : k = n2 := by omega
        have h2 : ¬ n1 < k := by omega
        have h3 : ¬ n1 ≤ k := by omega
        clear hlt hk
        go_wp2
        go_ret
        exact ⟨by rw [← HE.out]; rfl, HI.out⟩
end Go.Proofs.YtbaopcpmmdmomaaGreatDoor
