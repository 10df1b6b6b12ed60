/- key.Tags, key.Right. Conditions: the two tables of unicode/utf8 and errors.errorType hold what the program's text lays in them. -/
import Derived.Test.YtbaopcpmmdmomaaGreatDoorKeyF
import Derived.Laws.Cover1
set_option linter.unusedSimpArgs false
set_option linter.unusedVariables false
namespace Go.Proofs.YtbaopcpmmdmomaaGreatDoor
open Go.RowKit
/-- a row of tags in memory -/
structure TagRow (w : World) (A : Option Addr) (n : Nat) (tk tv : Nat → List UInt8) : Prop where
  row : 0 < n → ∃ b off, A = some ⟨b, off, none⟩ ∧ ∀ i, i < n → w.cell? ⟨b, off + i * 2, none⟩ = some (strV (tk i)) ∧ w.cell? ⟨b, off + i * 2 + 1, none⟩ = some (strV (tv i))
  len : ∀ i, i < n → (tk i).length ≤ 9223372036854775807 ∧ (tv i).length ≤ 9223372036854775807
theorem TagRow.below {w w' : World} {A : Option Addr} {n : Nat} {tk tv : Nat → List UInt8} (h : TagRow w A n tk tv) (hb : Below w.heap.size w w') : TagRow w' A n tk tv where
  row := fun hn => by
    obtain ⟨b, off, e, hr⟩ := h.row hn
    refine ⟨b, off, e, fun i hi => ?_⟩
    obtain ⟨h1, h2⟩ := hr i hi
    exact ⟨by rw [hb.cell (cell_lt h1)]; exact h1, by rw [hb.cell (cell_lt h2)]; exact h2⟩
  len := h.len
/-- is the i-th tag wrong? -/
def tagBad (tk tv : Nat → List UInt8) (i : Nat) : Bool := !wordB (tk i) || !rightB (tv i) 256 || (decide (0 < i) && !Op.bytesLess (tk (i - 1)) (tk i))
/-- is something wrong with the first k of n tags? -/
def wrongU (n : Nat) (tk tv : Nat → List UInt8) : Nat → Bool
  | 0 => decide (8 < n)
  | k + 1 => wrongU n tk tv k || tagBad tk tv k
def tagsC (n : Nat) (tk tv : Nat → List UInt8) : Int := if wrongU n tk tv n then 52 else 0
set_option maxHeartbeats 4000000 in
set_option maxRecDepth 100000 in
theorem tags_any (A : Option Addr) (n cap : Nat) (tk tv : Nat → List UInt8) (w : World) (hr : TagRow w A n tk tv) (hn : n ≤ 9223372036854775807) (hG : GlobK w) :
    Calls Tryz.prog 61 #[.slice A n cap] w fun e w' => e = .returned (eV (tagsC n tk tv)) ∧ Below w.heap.size w w' := by
  have HR : Bx _ := ⟨hr⟩
  have HGK : Bx (GlobK w) := ⟨hG⟩
  obtain ⟨u0, hu0⟩ : ∃ u0, decide ((8 : Int) < (n : Int)) = u0 := ⟨_, rfl⟩
  have HU0 : Bx (wrongU n tk tv 0 = u0) := ⟨by rw [← hu0]; unfold wrongU; rw [decide_eq_decide]; omega⟩
  clear hr hG
  go_enter Tryz.func61, Tryz.ntmps61
  go_wp2_with fail
  clear hu0
  go_loopw [3, 11] (fun u i wr => ∃ k : Nat, k ≤ n ∧ i = .int .i64 k ∧ u = .bool (wrongU n tk tv k) ∧ Bx (Below w.heap.size w wr)) (fun _ i _ => n - (intOf i).toNat)
  case atStart => exact ⟨0, by omega, rfl, by rw [HU0.out], ⟨Below.refl _ _⟩⟩
  case round =>
    obtain ⟨k, hk, rfl, rfl, HI⟩ := hrel
    clear HU0
    by_cases hlt : k < n
    · obtain ⟨b, off, rfl, hrow⟩ := (HR.out.below HI.out).row (by omega)
      obtain ⟨r0, r1⟩ := hrow k hlt
      obtain ⟨l0, l1⟩ := HR.out.len k hlt
      have HE : Bx (wrongU n tk tv (k + 1) = (wrongU n tk tv k || tagBad tk tv k)) := ⟨rfl⟩
      go_wp2_with fail
      have HJ : Bx (Below w.heap.size w (wr.alloc (.cells #[strV (tk k), strV (tv k)] 70))) := ⟨HI.out.trans ((below1 _ _).mono HI.out.size)⟩
      have c0 : (wr.alloc (.cells #[strV (tk k), strV (tv k)] 70)).cell? ⟨wr.heap.size, 0, none⟩ = some (strV (tk k)) := by rw [World.cell?_alloc_at _ _ _ _ rfl]; rfl
      have c1 : (wr.alloc (.cells #[strV (tk k), strV (tv k)] 70)).cell? ⟨wr.heap.size, 1, none⟩ = some (strV (tv k)) := by rw [World.cell?_alloc_at _ _ _ _ rfl]; rfl
      have hrow2 : ∀ i, i < n → (wr.alloc (.cells #[strV (tk k), strV (tv k)] 70)).cell? ⟨b, off + i * 2, none⟩ = some (strV (tk i)) := fun i hi => by rw [World.cell?_alloc_lt _ _ _ (cell_lt (hrow i hi).1)]; exact (hrow i hi).1
      clear HI hrow r0 r1
      generalize (wr.alloc (.cells #[strV (tk k), strV (tv k)] 70)) = w2 at *
      generalize wr.heap.size = T at *
      have hG2 : GlobK w2 := HGK.out.below HJ.out
      have kw : ∀ d os, Calls Tryz.prog 62 #[strV (tk k)] (Go.Sort.grow (redrawn w2 d) os) _ := fun d os => word_any (tk k) _ l0 (hG2.below (below_regrown _ _ _))
      have kr : ∀ d os, Calls Tryz.prog 68 #[strV (tv k), .int .i64 256] (Go.Sort.grow (redrawn w2 d) os) _ := fun d os => right_any (tv k) 256 256 _ l1 rfl (hG2.below (below_regrown _ _ _))
      unfold tagBad at HE
      obtain ⟨U, hU⟩ : ∃ U, wrongU n tk tv k = U := ⟨_, rfl⟩
      obtain ⟨W1, hW1⟩ : ∃ W, wordB (tk k) = W := ⟨_, rfl⟩
      obtain ⟨W2, hW2⟩ : ∃ W, rightB (tv k) 256 = W := ⟨_, rfl⟩
      obtain ⟨Lt, hLt⟩ : ∃ Lt, Op.bytesLess (tk (k - 1)) (tk k) = Lt := ⟨_, rfl⟩
      rw [hU, hW1, hW2, hLt] at HE
      rw [hU]
      rw [hW1] at kw
      rw [hW2] at kr
      have HLT : Bx (Op.bytesLess (tk (k - 1)) (tk k) = Lt) := ⟨hLt⟩
      clear hU hW1 hW2 hLt l0 l1 hG2
      have HR2 : Bx _ := ⟨hrow2⟩
      clear hrow2
      have HQ : Bx _ := ⟨And.intro (cell_regrown c0) (cell_regrown c1)⟩
      have HKW : Bx _ := ⟨And.intro kw kr⟩
      clear kw kr
      cases U
      · have q0 := HQ.out.1
        have q1 := HQ.out.2
        have kw := HKW.out.1
        have kr := HKW.out.2
        clear HQ HKW c0 c1
        cases W1
        · clear kr q1
          refine wp_region_quiet_below (by kernel_rfl) (by kernel_rfl) ?_
          repeat (go_big_quiet_step (first | (go_at_call 62; exact Calls.regrown_of (kw _ _)) | (go_at_call 68; exact Calls.regrown_of (kr _ _))))
          refine wpQuiet_nil ?_
          intro _ hw'
          obtain ⟨⟨dq, osq⟩, hw''⟩ := hw'
          subst hw''
          have HF : Bx (Below w.heap.size w (Go.Sort.grow (redrawn w2 dq) osq)) := ⟨HJ.out.trans ((below_regrown w2 dq osq).mono HJ.out.size)⟩
          clear HJ HR2 q0 kw
          generalize Go.Sort.grow (redrawn w2 dq) osq = w3 at *
          go_wp2
          exact ⟨⟨k + 1, by omega, by rw [Int.natCast_succ], by rw [HE.out]; simp, HF⟩, by simp only [intOf]; omega⟩
        · cases W2
          · skip
            refine wp_region_quiet_below (by kernel_rfl) (by kernel_rfl) ?_
            repeat (go_big_quiet_step (first | (go_at_call 62; exact Calls.regrown_of (kw _ _)) | (go_at_call 68; exact Calls.regrown_of (kr _ _))))
            refine wpQuiet_nil ?_
            intro _ hw'
            obtain ⟨⟨dq, osq⟩, hw''⟩ := hw'
            subst hw''
            have HF : Bx (Below w.heap.size w (Go.Sort.grow (redrawn w2 dq) osq)) := ⟨HJ.out.trans ((below_regrown w2 dq osq).mono HJ.out.size)⟩
            clear HJ HR2 q0 q1 kw kr
            generalize Go.Sort.grow (redrawn w2 dq) osq = w3 at *
            go_wp2
            exact ⟨⟨k + 1, by omega, by rw [Int.natCast_succ], by rw [HE.out]; simp, HF⟩, by simp only [intOf]; omega⟩
          · rcases Nat.eq_zero_or_pos k with hk0 | hk0
            · have d0 : decide (0 < k) = false := by simp; omega
              have HZ : Bx (k = 0) := ⟨hk0⟩
              clear hk0
              refine wp_region_quiet_below (by kernel_rfl) (by kernel_rfl) ?_
              repeat (go_big_quiet_step (first | (go_at_call 62; exact Calls.regrown_of (kw _ _)) | (go_at_call 68; exact Calls.regrown_of (kr _ _))))
              refine wpQuiet_nil ?_
              intro _ hw'
              obtain ⟨⟨dq, osq⟩, hw''⟩ := hw'
              subst hw''
              have HF : Bx (Below w.heap.size w (Go.Sort.grow (redrawn w2 dq) osq)) := ⟨HJ.out.trans ((below_regrown w2 dq osq).mono HJ.out.size)⟩
              clear HJ HR2 q0 q1 kw kr
              generalize Go.Sort.grow (redrawn w2 dq) osq = w3 at *
              go_wp2
              exact ⟨⟨k + 1, by omega, by rw [Int.natCast_succ], by rw [HE.out]; simp [HZ.out], HF⟩, by simp only [intOf]; omega⟩
            · have d0 : decide ((0 : Int) < (k : Int)) = true := by simp; omega
              obtain ⟨j, rfl⟩ : ∃ j, k = j + 1 := ⟨k - 1, by omega⟩
              have d1 : decide (0 < j + 1) = true := by simp
              have e1 : ((j + 1 : Nat) : Int) - 1 = j := by omega
              have hjn : j < n := by omega
              have q2 := cell_regrown (HR2.out j hjn)
              have hlt2 : Op.bytesLess (tk j) (tk (j + 1)) = Lt := HLT.out
              cases Lt
              all_goals
                refine wp_region_quiet_below (by kernel_rfl) (by kernel_rfl) ?_
                repeat (go_big_quiet_step (first | (go_at_call 62; exact Calls.regrown_of (kw _ _)) | (go_at_call 68; exact Calls.regrown_of (kr _ _))))
                refine wpQuiet_nil ?_
                intro _ hw'
                obtain ⟨⟨dq, osq⟩, hw''⟩ := hw'
                subst hw''
                have HF : Bx (Below w.heap.size w (Go.Sort.grow (redrawn w2 dq) osq)) := ⟨HJ.out.trans ((below_regrown w2 dq osq).mono HJ.out.size)⟩
                clear HJ HR2 q0 q1 q2 kw kr
                generalize Go.Sort.grow (redrawn w2 dq) osq = w3 at *
                go_wp2
                exact ⟨⟨j + 1 + 1, by omega, by rw [Int.natCast_succ, Int.natCast_succ], by rw [HE.out]; simp, HF⟩, by simp only [intOf]; omega⟩
      · clear c0 c1
        refine wp_region_quiet_below (by kernel_rfl) (by kernel_rfl) ?_
        repeat (go_big_quiet_step (fail))
        refine wpQuiet_nil ?_
        intro _ hw'
        obtain ⟨⟨dq, osq⟩, hw''⟩ := hw'
        subst hw''
        have HF : Bx (Below w.heap.size w (Go.Sort.grow (redrawn w2 dq) osq)) := ⟨HJ.out.trans ((below_regrown w2 dq osq).mono HJ.out.size)⟩
        clear HJ HQ HKW HR2
        generalize Go.Sort.grow (redrawn w2 dq) osq = w3 at *
        go_wp2
        exact ⟨⟨k + 1, by omega, by rw [Int.natCast_succ], by rw [HE.out]; rfl, HF⟩, by simp only [intOf]; omega⟩
    · obtain rfl : k = n := by omega
      have hG2 : GlobK wr := HGK.out.below HI.out
      cases hU : wrongU k tk tv k
      all_goals
        go_wp2_with (go_at_call 63; refine (new_any _ _ (by decide)).mono ?_; rintro e w' ⟨rfl, rfl⟩)
        go_ret
        exact ⟨by unfold tagsC; rw [hU]; rfl, HI.out⟩
end Go.Proofs.YtbaopcpmmdmomaaGreatDoor
