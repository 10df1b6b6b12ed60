/- same, of two rows that tell the same. -/
import Derived.Test.YtlodgmmhaolmaaaDoorHpT
set_option linter.unusedSimpArgs false
set_option linter.unusedVariables false
namespace Go.Proofs.YtlodgmmhaolmaaaDoor
open Go.RowKit
set_option maxHeartbeats 2000000 in
set_option maxRecDepth 100000 in
theorem hsame_any (A1 A2 : Option Addr) (n c1 c2 : Nat) (L : List Ent) (w : World) (h1 : EntRow w A1 n L) (h2 : EntRow w A2 n L) (hn : n ≤ 9223372036854775807) :
    Calls Tryd.prog 13 #[.slice A1 n c1, .slice A2 n c2] w fun e w' => e = .returned (.bool true) ∧ Below w.heap.size w w' := by
  have HR : Bx _ := ⟨And.intro h1 h2⟩
  clear h1 h2
  go_enter Tryd.func13, Tryd.ntmps13
  go_wp2_with fail
  go_loopw [5] (fun i wr => ∃ k : Nat, k ≤ n ∧ i = .int .i64 k ∧ Bx (Below w.heap.size w wr)) (fun i _ => n - (intOf i).toNat)
  case atStart => exact ⟨0, by omega, rfl, ⟨Below.refl _ _⟩⟩
  case round =>
    obtain ⟨k, hk, rfl, HI⟩ := hrel
    by_cases hlt : k < n
    · obtain ⟨b, off, rfl, hrow⟩ := (HR.out.1.below HI.out).row (by omega)
      obtain ⟨b', off', rfl, hrow'⟩ := (HR.out.2.below HI.out).row (by omega)
      obtain ⟨r0, r1⟩ := hrow k hlt
      obtain ⟨s0, s1⟩ := hrow' k hlt
      generalize (atE L k).1 = x at *
      generalize (atE L k).2 = y at *
      clear hrow hrow'
      go_wp2_with fail
      have q0 := cell_regrown r0
      have q1 := cell_regrown r1
      have q2 := cell_regrown s0
      have q3 := cell_regrown s1
      clear r0 r1 s0 s1
      refine wp_region_quiet_below (by kernel_rfl) (by kernel_rfl) ?_
      repeat (go_big_quiet_step (fail))
      refine wpQuiet_nil ?_
      intro _ hw'
      obtain ⟨⟨dq, osq⟩, hw''⟩ := hw'
      subst hw''
      have HF : Bx (Below w.heap.size w (Go.Sort.grow (redrawn wr dq) osq)) := ⟨HI.out.trans ((below_regrown wr dq osq).mono HI.out.size)⟩
      clear q0 q1 q2 q3 HI
      generalize Go.Sort.grow (redrawn wr dq) osq = w1 at *
      go_wp2
      exact ⟨⟨k + 1, by omega, by rw [Int.natCast_succ], HF⟩, by simp only [intOf]; omega⟩
    · obtain rfl : k = n := by omega
      go_wp2_with fail
      go_ret
      exact ⟨rfl, HI.out⟩
end Go.Proofs.YtlodgmmhaolmaaaDoor
