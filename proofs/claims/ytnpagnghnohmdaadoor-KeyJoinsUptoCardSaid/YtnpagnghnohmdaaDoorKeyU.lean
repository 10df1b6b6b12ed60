/- The reference's Compare and Same; the walk of the statement KeyCompares. -/
import Derived.Test.YtnpagnghnohmdaaDoorKeyT
set_option linter.unusedSimpArgs false
set_option linter.unusedVariables false
namespace Go.Proofs.YtnpagnghnohmdaaDoor
open Go.RowKit
set_option maxHeartbeats 4000000 in
set_option maxRecDepth 100000 in
theorem rcompare_any (m f : List UInt8) (A : Option Addr) (n cap : Nat) (tk tv : Nat → List UInt8) (m' f' : List UInt8) (A' : Option Addr) (n' cap' : Nat) (tk' tv' : Nat → List UInt8) (w : World) (hr : SerIn w m f A n tk tv) (hr' : SerIn w m' f' A' n' tk' tv') :
    Calls Tryd.prog 32 #[.agg #[strV m, .slice A n cap, strV f], .agg #[strV m', .slice A' n' cap', strV f']] w fun e w' => e = .returned (.int .i64 (cmpS m n tk tv f m' n' tk' tv' f')) ∧ Below w.heap.size w w' := by
  have HP : Bx _ := ⟨PBX.fresh w m f m' f' (.slice A n cap) (.slice A' n' cap') 24⟩
  have kc := fun a b w => texts_any a b w
  have kf : ∀ x, Below w.heap.size w x → Calls Tryd.prog 66 #[.slice A n cap, .slice A' n' cap'] x fun e w' => e = .returned (.int .i64 (cmpT tk tv tk' tv' n n')) ∧ Below x.heap.size x w' := fun x hb => ctags_any A A' n cap n' cap' tk tv tk' tv' x (hr.row.below hb) (hr'.row.below hb) hr.n hr'.n
  have HV : Bx (cmpS m n tk tv f m' n' tk' tv' f' = if cmpL m m' = 0 then (if cmpT tk tv tk' tv' n n' = 0 then cmpL f f' else cmpT tk tv tk' tv' n n') else cmpL m m') := ⟨by
    unfold cmpS
    simp only [orL]
    by_cases h1 : cmpL m m' = 0
    · rw [if_pos h1, if_pos h1]
      by_cases h2 : cmpT tk tv tk' tv' n n' = 0
      · rw [if_pos h2, if_pos h2]
        by_cases h3 : cmpL f f' = 0
        · rw [if_pos h3, h3]
        · rw [if_neg h3]
      · rw [if_neg h2, if_neg h2]
    · rw [if_neg h1, if_neg h1]⟩
  have kc1 := fun w => kc m m' w
  have kc2 := fun w => kc f f' w
  generalize cmpS m n tk tv f m' n' tk' tv' f' = V at *
  generalize cmpT tk tv tk' tv' n n' = T at *
  clear kc
  generalize cmpL m m' = C1 at *
  generalize cmpL f f' = C2 at *
  clear hr hr'
  go_enter Tryd.func32, Tryd.ntmps32
  go_wp2_with fail
  generalize (w.alloc (.cells #[strV m, .slice A n cap, strV f] 24)).alloc (.cells #[strV m', .slice A' n' cap', strV f'] 24) = w0 at *
  generalize hS : w.heap.size = S at *
  have HS : Bx (w.heap.size = S) := ⟨hS⟩
  clear hS
  obtain ⟨a0, a1, a2, b0, b1, b2, hB⟩ := HP.out
  by_cases h1 : C1 = 0
  · have d1 : (C1 != 0) = false := by simpa using h1
    have HV2 : Bx (V = if T = 0 then C2 else T) := ⟨by rw [HV.out, if_pos h1]⟩
    clear HV h1
    go_wp2_with (go_at_call 65; refine (kc1 _).mono ?_; rintro e w' ⟨rfl, rfl⟩)
    refine (kf _ hB).mono ?_
    rintro e w1 ⟨rfl, h1⟩
    obtain ⟨a0', a1', a2', b0', b1', b2', hB'⟩ := PBX.step HP.out h1
    clear a0 a1 a2 b0 b1 b2 hB HP kf kc1 h1
    by_cases h2 : T = 0
    · have d2 : (T != 0) = false := by simpa using h2
      have HV3 : Bx (V = C2) := ⟨by rw [HV2.out, if_pos h2]⟩
      clear HV2 h2
      go_wp2_with (go_at_call 65; refine (kc2 _).mono ?_; rintro e w' ⟨rfl, rfl⟩)
      go_ret
      exact ⟨by rw [HV3.out]; rfl, by rw [HS.out]; exact hB'⟩
    · have d2 : (T != 0) = true := by simpa using h2
      have HV3 : Bx (V = T) := ⟨by rw [HV2.out, if_neg h2]⟩
      clear HV2 h2
      go_wp2
      go_ret
      exact ⟨by rw [HV3.out]; rfl, by rw [HS.out]; exact hB'⟩
  · have d1 : (C1 != 0) = true := by simpa using h1
    have HV2 : Bx (V = C1) := ⟨by rw [HV.out, if_neg h1]⟩
    clear HV h1 kf
    go_wp2_with (go_at_call 65; refine (kc1 _).mono ?_; rintro e w' ⟨rfl, rfl⟩)
    go_ret
    exact ⟨by rw [HV2.out]; rfl, by rw [HS.out]; exact hB⟩
set_option maxHeartbeats 4000000 in
set_option maxRecDepth 100000 in
theorem compares_any (m f : List UInt8) (A : Option Addr) (n cap : Nat) (tk tv : Nat → List UInt8) (m' f' : List UInt8) (A' : Option Addr) (n' cap' : Nat) (tk' tv' : Nat → List UInt8) (w : World) (hr : SerIn w m f A n tk tv) (hr' : SerIn w m' f' A' n' tk' tv') (hG : GlobK w) :
    Calls Tryd.prog 7 #[.agg #[strV m, .slice A n cap, strV f], .agg #[strV m', .slice A' n' cap', strV f']] w fun e w' => e = .returned (.bool true) ∧ Below w.heap.size w w' := by
  have hP := PBX.fresh w m f m' f' (.slice A n cap) (.slice A' n' cap') 24
  have hr1 := hr.below (below2 w (.cells #[strV m, .slice A n cap, strV f] 24) (.cells #[strV m', .slice A' n' cap', strV f'] 24))
  have hr2 := hr'.below (below2 w (.cells #[strV m, .slice A n cap, strV f] 24) (.cells #[strV m', .slice A' n' cap', strV f'] 24))
  have hG1 := hG.below (below2 w (.cells #[strV m, .slice A n cap, strV f] 24) (.cells #[strV m', .slice A' n' cap', strV f'] 24))
  have HP : Bx _ := ⟨hP⟩
  clear hr hr' hG
  go_enter Tryd.func7, Tryd.ntmps7
  go_wp2_with fail
  generalize (w.alloc (.cells #[strV m, .slice A n cap, strV f] 24)).alloc (.cells #[strV m', .slice A' n' cap', strV f'] 24) = w1 at *
  generalize hS : w.heap.size = S at *
  have HS : Bx (w.heap.size = S) := ⟨hS⟩
  clear hS
  obtain ⟨a0, a1, a2, b0, b1, b2, hB⟩ := hP
  have k0 : ∀ d os, Calls Tryd.prog 13 #[] (Go.Sort.grow (redrawn w1 d) os) _ := fun d os => live_any _ (hG1.below (below_regrown _ _ _))
  have k1 : ∀ d os, Calls Tryd.prog 31 #[.agg #[strV m, .slice A n cap, strV f], .agg #[strV m', .slice A' n' cap', strV f']] (Go.Sort.grow (redrawn w1 d) os) _ := fun d os => kcompare_any m f A n cap tk tv m' f' A' n' cap' tk' tv' _ (hr1.below (below_regrown _ _ _)) (hr2.below (below_regrown _ _ _))
  have k2 : ∀ d os, Calls Tryd.prog 32 #[.agg #[strV m, .slice A n cap, strV f], .agg #[strV m', .slice A' n' cap', strV f']] (Go.Sort.grow (redrawn w1 d) os) _ := fun d os => rcompare_any m f A n cap tk tv m' f' A' n' cap' tk' tv' _ (hr1.below (below_regrown _ _ _)) (hr2.below (below_regrown _ _ _))
  generalize cmpS m n tk tv f m' n' tk' tv' f' = X at *
  have q0 := cell_regrown a0
  have q1 := cell_regrown a1
  have q2 := cell_regrown a2
  have q3 := cell_regrown b0
  have q4 := cell_regrown b1
  have q5 := cell_regrown b2
  clear hr1 hr2 hG1 a0 a1 a2 b0 b1 b2 hB
  refine wp_region_quiet_below (by kernel_rfl) (by kernel_rfl) ?_
  repeat (go_big_quiet_step (first | (go_at_call 13; exact Calls.regrown_of (k0 _ _)) | (go_at_call 31; exact Calls.regrown_of (k1 _ _)) | (go_at_call 32; exact Calls.regrown_of (k2 _ _))))
  refine wpQuiet_nil ?_
  intro _ hw'
  obtain ⟨⟨dq, osq⟩, hw''⟩ := hw'
  subst hw''
  have HF : Bx (Below S w (Go.Sort.grow (redrawn w1 dq) osq)) := ⟨by
    obtain ⟨-, -, -, -, -, -, h⟩ := PBX.step HP.out (below_regrown w1 dq osq)
    exact h⟩
  clear HP q0 q1 q2 q3 q4 q5 k0 k1 k2
  generalize Go.Sort.grow (redrawn w1 dq) osq = w3 at *
  go_wp2
  go_ret
  exact ⟨rfl, by rw [HS.out]; exact HF.out⟩
end Go.Proofs.YtnpagnghnohmdaaDoor
