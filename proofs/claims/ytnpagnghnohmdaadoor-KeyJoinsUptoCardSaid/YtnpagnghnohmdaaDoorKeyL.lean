/- The document's Tags and Right. -/
import Derived.Test.YtnpagnghnohmdaaDoorKeyK
import Derived.BigQuiet
set_option linter.unusedSimpArgs false
set_option linter.unusedVariables false
namespace Go.Proofs.YtnpagnghnohmdaaDoor
open Go.RowKit
set_option maxHeartbeats 4000000 in
set_option maxRecDepth 100000 in
theorem rtags_any (A : Option Addr) (n cap : Nat) (tk tv : Nat → List UInt8) (w : World) (hr : TagRow w A n tk tv) (hn : n ≤ 9223372036854775807) :
    Calls Tryd.prog 23 #[.slice A n cap] w fun e w' => e = .returned (badV (tagsC n tk tv)) ∧ Below w.heap.size w w' := by
  have HR : Bx _ := ⟨hr⟩
  have HB : Bx _ := ⟨BB.alloc 35 (Below.refl w.heap.size w)⟩
  obtain ⟨u0, hu0⟩ : ∃ u0, decide ((n : Int) ≤ 8) = u0 := ⟨_, rfl⟩
  have HU0 : Bx (wrongU n tk tv 0 = !u0) := ⟨by rw [← hu0]; unfold wrongU; rw [← decide_not, decide_eq_decide]; omega⟩
  clear hr
  go_enter Tryd.func23, Tryd.ntmps23
  go_wp2_with fail
  clear hu0
  generalize (w.alloc (.cells #[.int .i64 0, .int .i64 0, .int .i64 0, .bool false, .bool false] 35)) = w1 at *
  generalize hS : w.heap.size = S at *
  have HS : Bx (w.heap.size = S) := ⟨hS⟩
  clear hS
  go_loopw [3, 4] (fun u i wr => ∃ (k : Nat) (g : Bool), k ≤ n ∧ i = .int .i64 k ∧ u = .bool g ∧ Bx (wrongU n tk tv k = !g) ∧ Bx (BB w wr S)) (fun _ i _ => n - (intOf i).toNat)
  case atStart => exact ⟨0, u0, by omega, rfl, rfl, HU0, HB⟩
  case round =>
    obtain ⟨k, g, hk, rfl, rfl, HU, HI⟩ := hrel
    clear HU0 HB
    by_cases hlt : k < n
    · have hbw : Below w.heap.size w wr := by rw [HS.out]; exact HI.out.below
      obtain ⟨b, off, rfl, hrow⟩ := (HR.out.below hbw).row (by omega)
      obtain ⟨r0, r1⟩ := hrow k hlt
      obtain ⟨l0, l1⟩ := HR.out.len k hlt
      have HE : Bx (wrongU n tk tv (k + 1) = (wrongU n tk tv k || tagBad tk tv k)) := ⟨rfl⟩
      have HR2 : Bx (∀ i, i < n → wr.cell? ⟨b, off + i * 2, none⟩ = some (strV (tk i))) := ⟨fun i hi => (hrow i hi).1⟩
      go_wp2_with fail
      have HQ : Bx _ := ⟨And.intro (cell_regrown r0) (cell_regrown r1)⟩
      clear hrow r0 r1 hbw
      have kw : ∀ w, Calls Tryd.prog 54 #[strV (tk k)] w _ := fun w => isWord_any (tk k) w l0
      have kr : ∀ w, Calls Tryd.prog 52 #[strV (tv k)] w _ := fun w => isText_any (tv k) w l1
      unfold tagBad at HE
      obtain ⟨W1, hW1⟩ : ∃ W, wordB (tk k) = W := ⟨_, rfl⟩
      obtain ⟨W2, hW2⟩ : ∃ W, rightB (tv k) 256 = W := ⟨_, rfl⟩
      obtain ⟨Lt, hLt⟩ : ∃ Lt, Op.bytesLess (tk (k - 1)) (tk k) = Lt := ⟨_, rfl⟩
      rw [HU.out, hW1, hW2, hLt] at HE
      rw [hW1] at kw
      rw [hW2] at kr
      have kw2 : ∀ w, Calls Tryd.prog 54 #[strV (tk k)] w fun e w' => e = .returned (.bool W1) ∧ Below w.heap.size w w' := fun w => (kw w).mono fun e w' ⟨h1, h2⟩ => ⟨h1, by rw [← h2]; exact Below.refl _ _⟩
      have kr2 : ∀ w, Calls Tryd.prog 52 #[strV (tv k)] w fun e w' => e = .returned (.bool W2) ∧ Below w.heap.size w w' := fun w => (kr w).mono fun e w' ⟨h1, h2⟩ => ⟨h1, by rw [← h2]; exact Below.refl _ _⟩
      have HLT : Bx (Op.bytesLess (tk (k - 1)) (tk k) = Lt) := ⟨hLt⟩
      have HKW : Bx _ := ⟨And.intro kw2 kr2⟩
      clear hW1 hW2 hLt l0 l1 kw kr kw2 kr2 HU
      cases g
      · clear HQ HKW HR2
        refine wp_region_quiet_below (by kernel_rfl) (by kernel_rfl) ?_
        repeat (go_big_quiet_step (fail))
        refine wpQuiet_nil ?_
        intro _ hw'
        obtain ⟨⟨dq, osq⟩, hw''⟩ := hw'
        subst hw''
        have HF : Bx (BB w (Go.Sort.grow (redrawn wr dq) osq) S) := ⟨HI.out.step (below_regrown wr dq osq)⟩
        clear HI
        generalize Go.Sort.grow (redrawn wr dq) osq = w3 at *
        go_wp2
        exact ⟨⟨k + 1, _, by omega, by rw [Int.natCast_succ], rfl, ⟨by rw [HE.out]; simp⟩, HF⟩, by simp only [intOf]; omega⟩
      · have q0 := HQ.out.1
        have q1 := HQ.out.2
        have kw := HKW.out.1
        have kr := HKW.out.2
        clear HQ HKW
        cases W1
        · clear kr q1
          refine wp_region_quiet_below (by kernel_rfl) (by kernel_rfl) ?_
          repeat (go_big_quiet_step (first | (go_at_call 54; exact Calls.regrown_of (kw _)) | (go_at_call 52; exact Calls.regrown_of (kr _))))
          refine wpQuiet_nil ?_
          intro _ hw'
          obtain ⟨⟨dq, osq⟩, hw''⟩ := hw'
          subst hw''
          have HF : Bx (BB w (Go.Sort.grow (redrawn wr dq) osq) S) := ⟨HI.out.step (below_regrown wr dq osq)⟩
          clear HI HR2 q0 kw
          generalize Go.Sort.grow (redrawn wr dq) osq = w3 at *
          go_wp2
          exact ⟨⟨k + 1, _, by omega, by rw [Int.natCast_succ], rfl, ⟨by rw [HE.out]; simp⟩, HF⟩, by simp only [intOf]; omega⟩
        · cases W2
          · skip
            refine wp_region_quiet_below (by kernel_rfl) (by kernel_rfl) ?_
            repeat (go_big_quiet_step (first | (go_at_call 54; exact Calls.regrown_of (kw _)) | (go_at_call 52; exact Calls.regrown_of (kr _))))
            refine wpQuiet_nil ?_
            intro _ hw'
            obtain ⟨⟨dq, osq⟩, hw''⟩ := hw'
            subst hw''
            have HF : Bx (BB w (Go.Sort.grow (redrawn wr dq) osq) S) := ⟨HI.out.step (below_regrown wr dq osq)⟩
            clear HI HR2 q0 q1 kw kr
            generalize Go.Sort.grow (redrawn wr dq) osq = w3 at *
            go_wp2
            exact ⟨⟨k + 1, _, by omega, by rw [Int.natCast_succ], rfl, ⟨by rw [HE.out]; simp⟩, HF⟩, by simp only [intOf]; omega⟩
          · rcases Nat.eq_zero_or_pos k with hk0 | hk0
            · have d0 : ((k : Int) == 0) = true := by simp; omega
              have HZ : Bx (k = 0) := ⟨hk0⟩
              clear hk0
              refine wp_region_quiet_below (by kernel_rfl) (by kernel_rfl) ?_
              repeat (go_big_quiet_step (first | (go_at_call 54; exact Calls.regrown_of (kw _)) | (go_at_call 52; exact Calls.regrown_of (kr _))))
              refine wpQuiet_nil ?_
              intro _ hw'
              obtain ⟨⟨dq, osq⟩, hw''⟩ := hw'
              subst hw''
              have HF : Bx (BB w (Go.Sort.grow (redrawn wr dq) osq) S) := ⟨HI.out.step (below_regrown wr dq osq)⟩
              clear HI HR2 q0 q1 kw kr
              generalize Go.Sort.grow (redrawn wr dq) osq = w3 at *
              go_wp2
              exact ⟨⟨k + 1, _, by omega, by rw [Int.natCast_succ], rfl, ⟨by rw [HE.out]; simp [HZ.out]⟩, HF⟩, by simp only [intOf]; omega⟩
            · have d0 : ((k : Int) == 0) = false := by simp; omega
              obtain ⟨j, rfl⟩ : ∃ j, k = j + 1 := ⟨k - 1, by omega⟩
              have d1 : (((j : Int) + 1) == 0) = false := by simp; omega
              have e1 : ((j + 1 : Nat) : Int) - 1 = j := by omega
              have hjn : j < n := by omega
              have q2 := cell_regrown (HR2.out j hjn)
              have hlt2 : Op.bytesLess (tk j) (tk (j + 1)) = Lt := HLT.out
              cases Lt
              all_goals
                refine wp_region_quiet_below (by kernel_rfl) (by kernel_rfl) ?_
                repeat (go_big_quiet_step (first | (go_at_call 54; exact Calls.regrown_of (kw _)) | (go_at_call 52; exact Calls.regrown_of (kr _))))
                refine wpQuiet_nil ?_
                intro _ hw'
                obtain ⟨⟨dq, osq⟩, hw''⟩ := hw'
                subst hw''
                have HF : Bx (BB w (Go.Sort.grow (redrawn wr dq) osq) S) := ⟨HI.out.step (below_regrown wr dq osq)⟩
                clear HI HR2 q0 q1 q2 kw kr
                generalize Go.Sort.grow (redrawn wr dq) osq = w3 at *
                go_wp2
                exact ⟨⟨j + 1 + 1, _, by omega, by rw [Int.natCast_succ, Int.natCast_succ], rfl, ⟨by rw [HE.out]; simp⟩, HF⟩, by simp only [intOf]; omega⟩
    · obtain rfl : k = n := by omega
      have c0 := HI.out.c0
      have c1 := HI.out.c1
      have c2 := HI.out.c2
      have c3 := HI.out.c3
      have c4 := HI.out.c4
      have cf := HI.out.f
      have olt := HI.out.lt
      cases g
      · have HC : Bx (tagsC k tk tv = 52) := ⟨by unfold tagsC; rw [HU.out]; rfl⟩
        go_wp2_with (go_at_call 51; refine (badnew_x _ _).mono ?_; rintro e w' ⟨rfl, rfl⟩)
        obtain ⟨w', hw', z0, z1, z2, z3, z4, zb⟩ := HI.out.fin2 52 #[.int .i64 52, .int .i64 0, .int .i64 0, .bool false, .bool false] 35
        subst hw'
        exact bodyPost_ret (results_bad1 rfl _ _ S 52 rfl z0 z1 z2 z3 z4) rfl ⟨by rw [HC.out], by rw [HS.out]; exact zb⟩
      · have HC : Bx (tagsC k tk tv = 0) := ⟨by unfold tagsC; rw [HU.out]; rfl⟩
        go_wp2
        obtain ⟨z0, z1, z2, z3, z4, zb⟩ := HI.out.fin 0
        exact bodyPost_ret (results_bad1 rfl _ _ S 0 rfl z0 z1 z2 z3 z4) rfl ⟨by rw [HC.out], by rw [HS.out]; exact zb⟩
end Go.Proofs.YtnpagnghnohmdaaDoor
