/- The statement VerifyPasses. Conditions: code.table, the two tables of unicode/utf8 and errors.errorType hold what the program's text lays in them. -/
import Derived.Test.YtbcajmkmadgbhaaDoorVrU
set_option linter.unusedSimpArgs false
set_option linter.unusedVariables false
namespace Go.Proofs.YtbcajmkmadgbhaaDoor
open Go.RowKit
set_option maxHeartbeats 4000000 in
set_option maxRecDepth 100000 in
theorem passes_law (D : PrgD) (L : PLoc) (w : World) (hM : PrgM w D L) (hB : PrgB D) (hG : GlobK w) (hT : TabU w) :
    Calls Tryd.prog 3 #[prgV D L] w fun e w' => e = .returned (.bool true) ∧ Below w.heap.size w w' := by
  have H0 : Bx _ := ⟨HdB.alloc w D L 28 hM hG⟩
  have HB : Bx _ := ⟨And.intro hB hT⟩
  clear hM hG hB hT
  go_enter Tryd.func3, Tryd.ntmps3
  go_upto_region 1 with (fail)
  generalize (w.alloc (.cells (prgC D L) 28)) = w0 at *
  generalize hS : w.heap.size = S at *
  have HZ : Bx (w.heap.size = S) := ⟨hS⟩
  clear hS
  have p0 := cell_regrown (H0.out.box.cell 0 _ rfl)
  have p1 := cell_regrown (H0.out.box.cell 1 _ rfl)
  have p2 := cell_regrown (H0.out.box.cell 2 _ rfl)
  have p3 := cell_regrown (H0.out.box.cell 3 _ rfl)
  have p4 := cell_regrown (H0.out.box.cell 4 _ rfl)
  have p5 := cell_regrown (H0.out.box.cell 5 _ rfl)
  have p6 := cell_regrown (H0.out.box.cell 6 _ rfl)
  have p7 := cell_regrown (H0.out.box.cell 7 _ rfl)
  have p8 := cell_regrown (H0.out.box.cell 8 _ rfl)
  have p9 := cell_regrown (H0.out.box.cell 9 _ rfl)
  have p10 := cell_regrown (H0.out.box.cell 10 _ rfl)
  have p11 := cell_regrown (H0.out.box.cell 11 _ rfl)
  have p12 := cell_regrown (H0.out.box.cell 12 _ rfl)
  have p13 := cell_regrown (H0.out.box.cell 13 _ rfl)
  have hg : ∀ d os, HdB w (Go.Sort.grow (redrawn w0 d) os) S D L := fun d os => H0.out.step (below_regrown w0 d os)
  have ht : ∀ d os, TabU (Go.Sort.grow (redrawn w0 d) os) := fun d os => HB.out.2.below (by rw [HZ.out]; exact (hg d os).below)
  have k1 : ∀ d os, Calls Tryd.prog 6 #[] (Go.Sort.grow (redrawn w0 d) os) _ := fun d os => live_any _ (hg d os).glob (ht d os)
  have k2 : ∀ d os, Calls Tryd.prog 8 #[prgV D L] (Go.Sort.grow (redrawn w0 d) os) _ := fun d os => program_any D L _ (hg d os).mem HB.out.1 (hg d os).glob (ht d os)
  have k3 : ∀ d os, Calls Tryd.prog 9 #[prgV D L] (Go.Sort.grow (redrawn w0 d) os) _ := fun d os => rprogram_any D L _ (hg d os).mem HB.out.1 (hg d os).glob
  have k4 : ∀ d os, Calls Tryd.prog 7 #[verV (verF D), verB (verF D)] (Go.Sort.grow (redrawn w0 d) os) _ := fun d os => vsame_any D _ (hg d os).glob.g
  generalize verV (verF D) = X at *
  generalize verB (verF D) = Y at *
  clear hg ht
  refine wp_region_quiet_below (by kernel_rfl) (by kernel_rfl) ?_
  repeat (go_big_quiet_step (first | (go_at_call 6; with_reducible exact Calls.regrown_of (k1 _ _)) | (go_at_call 8; with_reducible exact Calls.regrown_of (k2 _ _)) | (go_at_call 9; with_reducible exact Calls.regrown_of (k3 _ _)) | (go_at_call 7; with_reducible exact Calls.regrown_of (k4 _ _))))
  refine wpQuiet_nil ?_
  intro _ hw'
  obtain ⟨⟨dq, osq⟩, hw''⟩ := hw'
  subst hw''
  have H1 : Bx _ := ⟨H0.out.step (below_regrown w0 dq osq)⟩
  clear k1 k2 k3 k4 p0 p1 p2 p3 p4 p5 p6 p7 p8 p9 p10 p11 p12 p13
  generalize Go.Sort.grow (redrawn w0 dq) osq = w1 at *
  go_wp2
  go_ret
  exact ⟨rfl, by rw [HZ.out]; exact H1.out.below⟩
end Go.Proofs.YtbcajmkmadgbhaaDoor
