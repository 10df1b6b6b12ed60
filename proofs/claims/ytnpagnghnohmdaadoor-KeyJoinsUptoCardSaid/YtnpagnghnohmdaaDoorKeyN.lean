/- The document's Print; the walk of the statement KeyPrints. Conditions: the two tables of unicode/utf8 and errors.errorType hold what the program's text lays in them. -/
import Derived.Test.YtnpagnghnohmdaaDoorKeyM
import Derived.Test.YtnpagnghnohmdaaDoorKeyJ
set_option linter.unusedSimpArgs false
set_option linter.unusedVariables false
namespace Go.Proofs.YtnpagnghnohmdaaDoor
open Go.RowKit
set_option maxHeartbeats 4000000 in
set_option maxRecDepth 100000 in
theorem rprint_any (m f : List UInt8) (A : Option Addr) (n cap : Nat) (tk tv : Nat → List UInt8) (w : World) (hr : SerIn w m f A n tk tv) :
    Calls Tryd.prog 15 #[.agg #[strV m, .slice A n cap, strV f]] w fun e w' => e = .returned (strV (keyL m f n tk tv)) ∧ Below w.heap.size w w' := by
  have HR : Bx _ := ⟨hr⟩
  have hfd : ∀ c w, (Instr.field 35 (badV c) 0).run Tryd.prog w = .ok (.int .i64 c) w := fun c w => by kernel_rfl
  have HI : Bx _ := ⟨SB.alloc w m f A n cap 24⟩
  have hr1 := hr.below (below1 w (.cells #[strV m, .slice A n cap, strV f] 24))
  have k1 := rseries_any m f A n cap tk tv _ hr1
  clear hr1 hr
  by_cases hc : seriesC m f n tk tv = 0
  · obtain ⟨hm, hf, hn8, hts⟩ := series_ok hc
    have HK : Bx (keyL m f n tk tv = partP m tk tv n ++ [32] ++ escL f) := ⟨by unfold keyL; rw [if_pos hc]⟩
    rw [hc] at k1
    clear hc
    have HTS : Bx (∀ i, i < n → (tk i).length ≤ 64 ∧ (tv i).length ≤ 256) := ⟨hts⟩
    have HPL : Bx (∀ k, k ≤ n → (partP m tk tv k).length ≤ 128 + k * 642) := ⟨partP_len hm hts⟩
    clear hts
    go_enter Tryd.func15, Tryd.ntmps15
    go_wp2_with fail
    generalize (w.alloc (.cells #[strV m, .slice A n cap, strV f] 24)) = w0 at *
    refine k1.mono ?_
    rintro e w1 ⟨rfl, h1⟩
    clear k1
    generalize hS : w.heap.size = S at *
    have HS : Bx (w.heap.size = S) := ⟨hS⟩
    clear hS
    have HJ : Bx _ := ⟨HI.out.step h1⟩
    clear h1 HI
    have c0 := HJ.out.c0
    have k2 := fun w => rescape_any m w (by omega)
    go_wp2_with fail
    refine (k2 _).mono ?_
    rintro e w2 ⟨rfl, rfl⟩
    clear c0 k2
    go_wp2_with fail
    go_loopw [3, 4] (fun o i wr => ∃ k : Nat, k ≤ n ∧ i = .int .i64 k ∧ o = strV (partP m tk tv k) ∧ Bx (SB w wr S m f A n cap)) (fun _ i _ => n - (intOf i).toNat)
    case atStart => exact ⟨0, by omega, rfl, rfl, HJ⟩
    case round =>
      obtain ⟨k, hk, rfl, rfl, HM⟩ := hrel
      clear HJ
      have c1 := HM.out.c1
      by_cases hlt : k < n
      · have hbw : Below w.heap.size w wr := by rw [HS.out]; exact HM.out.below
        obtain ⟨b, off, rfl, hrow⟩ := (HR.out.row.below hbw).row (by omega)
        obtain ⟨r0, r1⟩ := hrow k hlt
        clear hrow hbw
        go_wp2_with fail
        have q0 := cell_regrown r0
        have q1 := cell_regrown r1
        have q2 := cell_regrown c1
        clear r0 r1 c1
        obtain ⟨l0, l1⟩ := HTS.out k hlt
        have e0 := escL_len (tk k)
        have e1 := escL_len (tv k)
        have ep := HPL.out k hk
        have HP : Bx (partP m tk tv (k + 1) = partP m tk tv k ++ ([44] ++ escL (tk k) ++ [61] ++ escL (tv k))) := ⟨rfl⟩
        have j1' := fun w => rescape_any (tk k) w (by omega)
        have j2' := fun w => rescape_any (tv k) w (by omega)
        generalize tk k = K at *
        generalize tv k = V at *
        generalize escL K = EK at *
        generalize escL V = EV at *
        generalize partP m tk tv k = O at *
        have j1 : ∀ w, Calls Tryd.prog 30 #[strV K] w fun e w' => e = .returned (strV EK) ∧ Below w.heap.size w w' := fun w => (j1' w).mono fun e w' ⟨h1, h2⟩ => ⟨h1, by rw [← h2]; exact Below.refl _ _⟩
        have j2 : ∀ w, Calls Tryd.prog 30 #[strV V] w fun e w' => e = .returned (strV EV) ∧ Below w.heap.size w w' := fun w => (j2' w).mono fun e w' ⟨h1, h2⟩ => ⟨h1, by rw [← h2]; exact Below.refl _ _⟩
        clear j1' j2'
        have a1 := fun w => run_string_add_lists (P := Tryd.prog) w [44] EK (by simp) (by omega)
        obtain ⟨X1, h1⟩ : ∃ X, [44] ++ EK = X := ⟨_, rfl⟩
        have z1 : X1.length = EK.length + 1 := by rw [← h1]; simp
        rw [h1] at a1
        have a2 := fun w => run_string_add_lists (P := Tryd.prog) w X1 [61] (by omega) (by simp)
        obtain ⟨X2, h2⟩ : ∃ X, X1 ++ [61] = X := ⟨_, rfl⟩
        have z2 : X2.length = EK.length + 2 := by rw [← h2]; simp; omega
        rw [h2] at a2
        have a3 := fun w => run_string_add_lists (P := Tryd.prog) w X2 EV (by omega) (by omega)
        obtain ⟨X3, h3⟩ : ∃ X, X2 ++ EV = X := ⟨_, rfl⟩
        have z3 : X3.length = EK.length + 2 + EV.length := by rw [← h3]; simp; omega
        rw [h3] at a3
        have a4 := fun w => run_string_add_lists (P := Tryd.prog) w O X3 (by omega) (by omega)
        rw [h1, h2, h3] at HP
        obtain ⟨X4, h4⟩ : ∃ X, O ++ X3 = X := ⟨_, rfl⟩
        rw [h4] at a4 HP
        clear h1 h2 h3 h4 z1 z2 z3
        clear e0 e1 ep l0 l1
        refine wp_region_quiet_below (by kernel_rfl) (by kernel_rfl) ?_
        repeat (go_big_quiet_step (first | (go_at_call 30; first | (with_reducible exact Calls.regrown_of (j1 _)) | (with_reducible exact Calls.regrown_of (j2 _)))))
        refine wpQuiet_nil ?_
        intro _ hw'
        obtain ⟨⟨dq, osq⟩, hw''⟩ := hw'
        subst hw''
        have HF : Bx (SB w (Go.Sort.grow (redrawn wr dq) osq) S m f (some ⟨b, off, none⟩) n cap) := ⟨HM.out.step (below_regrown wr dq osq)⟩
        clear HM q0 q1 q2 j1 j2 a1 a2 a3 a4
        generalize Go.Sort.grow (redrawn wr dq) osq = w3 at *
        go_wp2
        exact ⟨⟨k + 1, by omega, by rw [Int.natCast_succ], by rw [HP.out], HF⟩, by simp only [intOf]; omega⟩
      · obtain rfl : k = n := by omega
        have c2 := HM.out.c2
        have ep := HPL.out k hk
        have ef := escL_len f
        have j1 := fun w => rescape_any f w (by omega)
        generalize partP m tk tv k = O at *
        generalize escL f = EF at *
        have a1 := fun w => run_string_add_lists (P := Tryd.prog) w O [32] (by omega) (by simp)
        obtain ⟨X1, h1⟩ : ∃ X, O ++ [32] = X := ⟨_, rfl⟩
        have z1 : X1.length = O.length + 1 := by rw [← h1]; simp
        rw [h1] at a1 HK
        have a2 := fun w => run_string_add_lists (P := Tryd.prog) w X1 EF (by omega) (by omega)
        obtain ⟨X2, h2⟩ : ∃ X, X1 ++ EF = X := ⟨_, rfl⟩
        rw [h2] at a2 HK
        clear h1 h2 z1 ep ef
        go_wp2_with (go_at_call 30; refine (j1 _).mono ?_; rintro e w3 ⟨rfl, rfl⟩)
        go_ret
        exact ⟨by rw [HK.out]; rfl, by rw [HS.out]; exact HM.out.below⟩
  · have HK : Bx (keyL m f n tk tv = []) := ⟨by unfold keyL; rw [if_neg hc]⟩
    obtain ⟨C, hC⟩ : ∃ C, seriesC m f n tk tv = C := ⟨_, rfl⟩
    rw [hC] at k1 hc
    have hcb : (C != 0) = true := by simpa using hc
    clear hC hc
    go_enter Tryd.func15, Tryd.ntmps15
    go_wp2_with fail
    refine k1.mono ?_
    rintro e w1 ⟨rfl, h1⟩
    have HF : Bx (Below w.heap.size w w1) := ⟨(below1 _ _).trans (h1.mono (by simp))⟩
    clear h1 k1
    go_wp2
    go_ret
    exact ⟨by rw [HK.out]; rfl, HF.out⟩
set_option maxHeartbeats 4000000 in
set_option maxRecDepth 100000 in
theorem prints_any (m f : List UInt8) (A : Option Addr) (n cap : Nat) (tk tv : Nat → List UInt8) (w : World) (hr : SerIn w m f A n tk tv) (hG : GlobK w) :
    Calls Tryd.prog 3 #[.agg #[strV m, .slice A n cap, strV f]] w fun e w' => e = .returned (.bool true) ∧ Below w.heap.size w w' := by
  have HI : Bx _ := ⟨SB.alloc w m f A n cap 24⟩
  have hr1 := hr.below (below1 w (.cells #[strV m, .slice A n cap, strV f] 24))
  have hG1 := hG.below (below1 w (.cells #[strV m, .slice A n cap, strV f] 24))
  go_enter Tryd.func3, Tryd.ntmps3
  go_wp2_with fail
  generalize (w.alloc (.cells #[strV m, .slice A n cap, strV f] 24)) = w1 at *
  generalize hS : w.heap.size = S at *
  have HS : Bx (w.heap.size = S) := ⟨hS⟩
  clear hS hr hG
  have k0 : ∀ d os, Calls Tryd.prog 13 #[] (Go.Sort.grow (redrawn w1 d) os) _ := fun d os => live_any _ (hG1.below (below_regrown _ _ _))
  have k1 : ∀ d os, Calls Tryd.prog 14 #[.agg #[strV m, .slice A n cap, strV f]] (Go.Sort.grow (redrawn w1 d) os) _ := fun d os => kprint_any m f A n cap tk tv _ (hr1.below (below_regrown _ _ _)) (hG1.below (below_regrown _ _ _))
  have k2 : ∀ d os, Calls Tryd.prog 15 #[.agg #[strV m, .slice A n cap, strV f]] (Go.Sort.grow (redrawn w1 d) os) _ := fun d os => rprint_any m f A n cap tk tv _ (hr1.below (below_regrown _ _ _))
  generalize keyL m f n tk tv = X at *
  have q0 := cell_regrown HI.out.c0
  have q1 := cell_regrown HI.out.c1
  have q2 := cell_regrown HI.out.c2
  clear hr1 hG1
  refine wp_region_quiet_below (by kernel_rfl) (by kernel_rfl) ?_
  repeat (go_big_quiet_step (first | (go_at_call 13; exact Calls.regrown_of (k0 _ _)) | (go_at_call 14; exact Calls.regrown_of (k1 _ _)) | (go_at_call 15; exact Calls.regrown_of (k2 _ _))))
  refine wpQuiet_nil ?_
  intro _ hw'
  obtain ⟨⟨dq, osq⟩, hw''⟩ := hw'
  subst hw''
  have HF : Bx (Below S w (Go.Sort.grow (redrawn w1 dq) osq)) := ⟨(HI.out.step (below_regrown w1 dq osq)).below⟩
  clear HI q0 q1 q2 k0 k1 k2
  generalize Go.Sort.grow (redrawn w1 dq) osq = w3 at *
  go_wp2
  go_ret
  exact ⟨rfl, by rw [HS.out]; exact HF.out⟩
end Go.Proofs.YtnpagnghnohmdaaDoor
