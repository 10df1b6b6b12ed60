/- The walk of the statement TopSums, where there are no numbers. -/
import Derived.Test.YthlfbakndbjhoaaTs
import Derived.Laws.AppendOwnNone
set_option linter.unusedSimpArgs false
set_option linter.unusedVariables false
namespace Go.Proofs.Ythlfbakndbjhoaa
open Go.RowKit
theorem print7 : printL (sZ 0 7) = [55] := by
  have e : sZ 0 7 = 7 := by decide
  rw [e]
  unfold printL
  rw [if_neg (by decide), show (7 : Int).natAbs = 7 from rfl, decN_small (by decide)]
  rfl
set_option maxHeartbeats 4000000 in
set_option maxRecDepth 100000 in
theorem sums_zero (A1 A2 : Option Addr) (cap m cap2 : Nat) (h l : Int) (w : World) (hs : SumW h l) (hmax2 : m ≤ 9223372036854775807) (hA : A1 = none → cap = 0) :
    Calls Try.prog 3 #[.agg #[.int .i64 h, .int .u64 l], .slice A1 0 cap, .slice A2 m cap2] w fun e w' => e = .returned (.bool true) ∧ Below w.heap.size w w' := by
  obtain ⟨i0, hi, hiz, hi1, hi2⟩ := info_parts (show (Try.prog.info? 2).map (fun i => (i.zero, i.size, i.bytes)) = some (some (.int .i64 0), 1, 8) by kernel_rfl)
  have hown0 : ((w.alloc (.cells #[.int .i64 h, .int .u64 l] 24)).alloc (.cells #[] 2)).ownsRow (w.heap.size + 1) 2 1 (.slice (some ⟨(w.alloc (.cells #[.int .i64 h, .int .u64 l] 24)).heap.size, 0, none⟩) 0 0) 0 [] := World.ownsRow_made _ #[] 0 (by simp) (by unfold maxLen; omega) rfl
  rw [show (w.alloc (.cells #[.int .i64 h, .int .u64 l] 24)).heap.size = w.heap.size + 1 by simp] at hown0
  have HW0 : Bx _ := ⟨hown0⟩
  have HI0 : Bx (Try.prog.info? 2 = some i0 ∧ i0.zero = some (.int .i64 0) ∧ i0.size = 1 ∧ i0.bytes = 8) := ⟨hi, hiz, hi1, hi2⟩
  have HS : Bx _ := ⟨hs⟩
  clear hown0 hi hiz hi1 hi2 hs
  have hmade : ∀ v' w', w'.ownsRow (w.heap.size + 1) 2 1 v' (0 + 0) ([] ++ []) → ((w.alloc (.cells #[.int .i64 h, .int .u64 l] 24)).alloc (.cells #[] 2)).grownBy w' (some (w.heap.size + 1)) → ¬ v' = .slice none 0 0 → ∃ M capm, v' = .slice (some ⟨M, 0, none⟩) 0 capm ∧ T1 w w' w.heap.size M 0 (sZ h l) (fun _ => 0) := by
    intro v' w' hown hgr hne
    obtain ⟨hlen, h1 | ⟨M, capm, cur, rfl, hb, hg, hnc, hcm, hcs, htk⟩⟩ := hown
    · exact absurd h1.1 hne
    · exact ⟨M, capm, rfl, T1.made (below2 _ _ _) (by rw [World.cell?_alloc_lt _ _ _ (by simp only [heap_push, Array.size_push]; omega), World.cell?_alloc_at _ _ _ _ rfl]; rfl) (by rw [World.cell?_alloc_lt _ _ _ (by simp only [heap_push, Array.size_push]; omega), World.cell?_alloc_at _ _ _ _ rfl]; rfl) hg hb (by simp) hgr HS.out⟩
  have HM : Bx _ := ⟨hmade⟩
  clear hmade
  have kp := fun w => plus_w (sZ h l) 0 w (inS_of HS.out) ⟨by decide, by decide⟩
  rw [show sZ h l + 0 = sZ h l by omega, wrapS_of (inS_of HS.out), (hl_of HS.out).1, (hl_of HS.out).2] at kp
  have kc := fun w => compare_any h l h l w
  rw [if_pos ⟨rfl, rfl⟩] at kc
  have kr := fun w => print_any 0 7 w ⟨by decide, by decide, by decide, by decide⟩
  rw [print7] at kr
  unfold strV at kr
  cases A1
  case' none =>
    obtain rfl := hA rfl
    obtain ⟨M0, cap0, hv0, hT0⟩ := HM.out _ _ HW0.out (grown_refl _ _) (by simp)
    simp only [Value.slice.injEq, Option.some.injEq, Addr.mk.injEq, true_and, and_true] at hv0
    obtain ⟨rfl, rfl⟩ := hv0
    have HI : Bx _ := ⟨hT0⟩
    clear hT0 hA
    go_enter Try.func3, Try.ntmps3
    go_wp2_with (at_builtin; refine wpList_append_own_none rfl _ _ 25 rfl (w.heap.size + 1) 2 i0 1 Try.underlying25 HI0.out.1 _ 0 [] rfl HW0.out rfl ?_)
    generalize ((w.alloc (.cells #[.int .i64 h, .int .u64 l] 24)).alloc (.cells #[] 2)) = w' at *
    generalize w.heap.size + 1 = M at *
    clear HM HW0 HI0
  case' some a =>
    go_enter Try.func3, Try.ntmps3
    go_wp2_with (at_builtin; refine wpList_append_own _ rfl _ _ 25 rfl (w.heap.size + 1) 2 i0 (.int .i64 0) 1 8 Try.underlying25 HI0.out.1 HI0.out.2.1 HI0.out.2.2.1 HI0.out.2.2.2 rfl (by decide) _ _ _ rfl HW0.out a 0 cap [] rfl (by simp) (fun j u hj => by simp at hj) (fun u hu => by simp at hu) (by unfold maxLen; omega) (by omega) (by simp) ?_; intro v' w' hown' hgr' hnil)
    obtain ⟨M, capm, rfl, hI⟩ := HM.out _ _ hown' hgr' (fun e => by have := (hnil.1 e).1; simp [Act.eval] at this)
    have HI : Bx _ := ⟨hI⟩
    clear hI hown' hgr' HM HW0 HI0 hnil hA
  all_goals
    generalize hSz : w.heap.size = S at *
    have HSz : Bx (w.heap.size = S) := ⟨hSz⟩
    clear hSz
    go_wp2_with fail
    go_loopw [8] (fun i wr => i = .int .i64 0 ∧ Bx (T1 w wr S M 0 (sZ h l) (fun _ => 0))) (fun _ _ => 0)
    case atStart => exact ⟨rfl, HI⟩
    case round =>
      obtain ⟨rfl, HJ⟩ := hrel
      clear HI
      have s0 := HJ.out.s0
      have s1 := HJ.out.s1
      have slt : S < wr.heap.size := cell_lt s0
      have sa1 : ∀ o, (wr.alloc o).cell? ⟨S, 0, none⟩ = some (.int .i64 (hZ (sZ h l))) := fun o => by rw [World.cell?_alloc_lt _ _ _ slt]; exact s0
      have sb1 : ∀ o, (wr.alloc o).cell? ⟨S, 1, none⟩ = some (.int .u64 (lZ (sZ h l))) := fun o => by rw [World.cell?_alloc_lt _ _ _ slt]; exact s1
      have sa2 : ∀ o o', ((wr.alloc o).alloc o').cell? ⟨S, 0, none⟩ = some (.int .i64 (hZ (sZ h l))) := fun o o' => by rw [World.cell?_alloc_lt _ _ _ (by simp only [heap_push, Array.size_push]; omega)]; exact sa1 o
      have sb2 : ∀ o o', ((wr.alloc o).alloc o').cell? ⟨S, 1, none⟩ = some (.int .u64 (lZ (sZ h l))) := fun o o' => by rw [World.cell?_alloc_lt _ _ _ (by simp only [heap_push, Array.size_push]; omega)]; exact sb1 o
      have sa3 : ∀ o o' o'', (((wr.alloc o).alloc o').alloc o'').cell? ⟨S, 0, none⟩ = some (.int .i64 (hZ (sZ h l))) := fun o o' o'' => by rw [World.cell?_alloc_lt _ _ _ (by simp only [heap_push, Array.size_push]; omega)]; exact sa2 o o'
      have sb3 : ∀ o o' o'', (((wr.alloc o).alloc o').alloc o'').cell? ⟨S, 1, none⟩ = some (.int .u64 (lZ (sZ h l))) := fun o o' o'' => by rw [World.cell?_alloc_lt _ _ _ (by simp only [heap_push, Array.size_push]; omega)]; exact sb2 o o'
      rcases Nat.eq_zero_or_pos m with rfl | hg
      all_goals
        go_upto_region 7 with (fail)
        go_cut [10, 11, 12] from 53 (fun a b c wx => ∃ A B C : Nat, a = .pointer (some ⟨A, 0, none⟩) ∧ b = .pointer (some ⟨B, 0, none⟩) ∧ c = .pointer (some ⟨C, 0, none⟩) ∧ Bx (T2 w wx S M A B C 0 (sZ h l) (fun _ => 0) (sZ h l) (sZ h l) 0))
        case first =>
          go_region
          all_goals (go_wp2_with fail; go_meet; exact ⟨_, _, _, rfl, rfl, rfl, ⟨T2.made HJ.out _ _ _ _ _ _ _ _ _ _ _ _ _ (by simp [hZ_zero, lZ_zero]) (by omega) (by omega) (by omega)⟩⟩)
        case rest =>
          obtain ⟨A, B, C, rfl, rfl, rfl, HK⟩ := hcut
          clear sa1 sb1 sa2 sb2 sa3 sb3 s0 s1 slt HJ
          go_wp2_with fail
          go_loopw [13] (fun i wr => i = .int .i64 0 ∧ Bx (T2 w wr S M A B C 0 (sZ h l) (fun _ => 0) (sZ h l) (sZ h l) 0)) (fun _ _ => 0)
          case atStart => exact ⟨rfl, HK⟩
          case round =>
            obtain ⟨rfl, HL⟩ := hrel
            clear HK
            have a0 := HL.out.a0
            have a1 := HL.out.a1
            have b0 := HL.out.b0
            have b1 := HL.out.b1
            go_wp2_with fail
            clear a0 a1 b0 b1
            go_loopw [14] (fun i wr => i = .int .i64 0 ∧ Bx (T2 w wr S M A B C 0 (sZ h l) (fun _ => 0) (sZ h l) (sZ h l) 0)) (fun _ _ => 0)
            case atStart => exact ⟨rfl, HL⟩
            case round =>
              obtain ⟨rfl, HM⟩ := hrel
              clear HL
              have a0 := HM.out.a0
              have a1 := HM.out.a1
              have s0 := HM.out.t.s0
              have s1 := HM.out.t.s1
              rw [(hl_of HS.out).1] at a0 s0
              rw [(hl_of HS.out).2] at a1 s1
              go_wp2_with fail
              have q0 := cell_regrown a0
              have q1 := cell_regrown a1
              have q2 := cell_regrown s0
              have q3 := cell_regrown s1
              clear a0 a1 s0 s1
              refine wp_region_quiet_below (by kernel_rfl) (by kernel_rfl) ?_
              repeat (quiet_step (first | (go_at_call 5; exact Calls.regrown_of (kp _)) | (go_at_call 7; exact Calls.regrown_of (kc _)) | (go_at_call 8; exact Calls.regrown_of (kr _))))
              refine wpQuiet_nil ?_
              intro _ hw'
              obtain ⟨⟨dq, osq⟩, hw''⟩ := hw'
              subst hw''
              have hfin : Bx (Below S w (Go.Sort.grow (redrawn wr dq) osq)) := ⟨by rw [← HSz.out]; exact HM.out.t.below.trans ((below_regrown wr dq osq).mono HM.out.t.below.size)⟩
              clear q0 q1 q2 q3
              generalize Go.Sort.grow (redrawn wr dq) osq = w6 at *
              go_wp2
              go_ret
              exact ⟨rfl, by rw [HSz.out]; exact hfin.out⟩
end Go.Proofs.Ythlfbakndbjhoaa
