/- slices.CompareFunc at tags; key.Compare. -/
import Derived.Test.YtnpagnghnohmdaaDoorKeyR
set_option linter.unusedSimpArgs false
set_option linter.unusedVariables false
namespace Go.Proofs.YtnpagnghnohmdaaDoor
open Go.RowKit
theorem cmpFrom_step (k1 v1 k2 v2 : Nat → List UInt8) (n1 n2 f i : Nat) : cmpFrom k1 v1 k2 v2 n1 n2 (f + 1) i = if tagCmp (k1 i) (v1 i) (k2 i) (v2 i) = 0 then cmpFrom k1 v1 k2 v2 n1 n2 f (i + 1) else tagCmp (k1 i) (v1 i) (k2 i) (v2 i) := by
  simp only [cmpFrom]
  unfold tagCmp
  by_cases h1 : cmpL (k1 i) (k2 i) = 0
  · simp only [h1, if_true]
  · simp only [h1, if_false]
set_option maxHeartbeats 4000000 in
set_option maxRecDepth 100000 in
theorem cfunc_any (A1 A2 : Option Addr) (n1 c1 n2 c2 : Nat) (k1 v1 k2 v2 : Nat → List UInt8) (w : World) (h1 : TagRow w A1 n1 k1 v1) (h2 : TagRow w A2 n2 k2 v2) (hn1 : n1 ≤ 9223372036854775807) (hn2 : n2 ≤ 9223372036854775807) :
    Calls Tryd.prog 64 #[.slice A1 n1 c1, .slice A2 n2 c2, .func (.func 61) #[] #[]] w fun e w' => e = .returned (.int .i64 (cmpT k1 v1 k2 v2 n1 n2)) ∧ Below w.heap.size w w' := by
  obtain ⟨C, hC⟩ : ∃ C, cmpT k1 v1 k2 v2 n1 n2 = C := ⟨_, rfl⟩
  rw [hC]
  have HC : Bx (cmpFrom k1 v1 k2 v2 n1 n2 (min n1 n2) 0 = C) := ⟨hC⟩
  have H1 : Bx _ := ⟨h1⟩
  have H2 : Bx _ := ⟨h2⟩
  clear hC h1 h2
  go_enter Tryd.func64, Tryd.ntmps64
  go_wp2_with fail
  go_loopw [13] (fun i wr => ∃ k : Nat, k ≤ n1 ∧ k ≤ n2 ∧ i = .int .i64 k ∧ Bx (cmpFrom k1 v1 k2 v2 n1 n2 (min n1 n2 - k) k = C) ∧ Bx (Below w.heap.size w wr)) (fun i _ => n1 - (intOf i).toNat)
  case atStart => exact ⟨0, by omega, by omega, rfl, HC, ⟨Below.refl _ _⟩⟩
  case round =>
    obtain ⟨k, hk, hk2, rfl, HK, HI⟩ := hrel
    clear HC
    by_cases l1 : k < n1
    · obtain ⟨b1, o1, rfl, hr1⟩ := (H1.out.below HI.out).row (by omega)
      obtain ⟨p0, p1⟩ := hr1 k l1
      by_cases l2 : k < n2
      · obtain ⟨b2, o2, rfl, hr2⟩ := (H2.out.below HI.out).row (by omega)
        obtain ⟨p2, p3⟩ := hr2 k l2
        have z2 := cell_lt p2
        have z3 := cell_lt p3
        have HS : Bx ((if tagCmp (k1 k) (v1 k) (k2 k) (v2 k) = 0 then cmpFrom k1 v1 k2 v2 n1 n2 (min n1 n2 - (k + 1)) (k + 1) else tagCmp (k1 k) (v1 k) (k2 k) (v2 k)) = C) := ⟨by
          have h := HK.out
          rw [show min n1 n2 - k = (min n1 n2 - (k + 1)) + 1 by omega, cmpFrom_step] at h
          exact h⟩
        have kt := fun w => tagcmp_any (k1 k) (v1 k) (k2 k) (v2 k) w
        generalize tagCmp (k1 k) (v1 k) (k2 k) (v2 k) = T at *
        generalize k1 k = K1 at *
        generalize v1 k = V1 at *
        generalize k2 k = K2 at *
        generalize v2 k = V2 at *
        clear HK hr1 hr2
        go_wp2_with fail
        refine (kt _).mono ?_
        rintro e w3 ⟨rfl, h3⟩
        have HJ : Bx (Below w.heap.size w w3) := ⟨HI.out.trans (((below2 _ _ _).mono HI.out.size).trans (h3.mono (by simp only [heap_push, Array.size_push]; have := HI.out.size; omega)))⟩
        clear h3 kt HI p0 p1 p2 p3 z2 z3
        by_cases hT : T = 0
        · have d : (T != 0) = false := by simpa using hT
          have HS2 : Bx (cmpFrom k1 v1 k2 v2 n1 n2 (min n1 n2 - (k + 1)) (k + 1) = C) := ⟨by have := HS.out; rwa [if_pos hT] at this⟩
          clear HS hT
          go_wp2
          exact ⟨⟨k + 1, by omega, by omega, by rw [Int.natCast_succ], HS2, HJ⟩, by simp only [intOf]; omega⟩
        · have d : (T != 0) = true := by simpa using hT
          have HS2 : Bx (T = C) := ⟨by have := HS.out; rwa [if_neg hT] at this⟩
          clear HS hT
          go_wp2
          go_ret
          exact ⟨by rw [← HS2.out]; rfl, HJ.out⟩
      · have HE : Bx ((1 : Int) = C) := ⟨by
          have h := HK.out
          rw [show min n1 n2 - k = 0 by omega] at h
          simp only [cmpFrom] at h
          rw [if_neg (by omega), if_pos (by omega)] at h
          exact h⟩
        clear HK hr1
        go_wp2
        go_ret
        exact ⟨by rw [← HE.out]; rfl, HI.out.trans ((below1 _ _).mono HI.out.size)⟩
    · have HE : Bx ((if n1 < n2 then (-1 : Int) else 0) = C) := ⟨by
        have h := HK.out
        rw [show min n1 n2 - k = 0 by omega] at h
        simp only [cmpFrom] at h
        rw [show (if n2 < n1 then (1 : Int) else 0) = 0 from if_neg (by omega)] at h
        exact h⟩
      clear HK H1 H2
      obtain rfl : k = n1 := by omega
      by_cases h : k < n2
      · rw [if_pos h] at HE
        clear hk hk2 l1
        go_wp2
        go_ret
        exact ⟨by rw [← HE.out]; rfl, HI.out⟩
      · rw [if_neg h] at HE
        obtain rfl : k = n2 := by omega
        clear hk hk2 l1 h
        go_wp2
        go_ret
        exact ⟨by rw [← HE.out]; rfl, HI.out⟩
end Go.Proofs.YtnpagnghnohmdaaDoor
