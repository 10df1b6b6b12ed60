/- Verify: Bound. Verify, the document's answer: Heights, Rises, Bound. Verify: Rises. -/
import Derived.Test.YtbcajmkmadgbhaaDoorVrT
import Derived.Test.YtbcajmkmadgbhaaDoorVrDp
set_option linter.unusedSimpArgs false
set_option linter.unusedVariables false
namespace Go.Proofs.YtbcajmkmadgbhaaDoor
section
open Go.RowKit
/-- what Bound hands back -/
noncomputable def bndV (D : PrgD) : Value := match verF D with
  | none => .tuple #[.int .i64 (D.filter.length : Nat), .int .i64 (D.output.length : Nat), .nilIface]
  | some x => .tuple #[.int .i64 0, .int .i64 0, verV (some x)]
set_option maxHeartbeats 4000000 in
set_option maxRecDepth 100000 in
theorem vbound_any (D : PrgD) (L : PLoc) (w : World) (hM : PrgM w D L) (hB : PrgB D) (hG : GlobK w) (hT : TabU w) :
    Calls Tryd.prog 12 #[prgV D L] w fun e w' => e = .returned (bndV D) ∧ Below w.heap.size w w' := by
  have H0 : Bx _ := ⟨HdB.alloc w D L 28 hM hG⟩
  have HB : Bx _ := ⟨And.intro hB hT⟩
  clear hM hG hB hT
  go_enter Tryd.func12, Tryd.ntmps12
  go_upto_region 1 with (fail)
  generalize (w.alloc (.cells (prgC D L) 28)) = w0 at *
  generalize hS : w.heap.size = S at *
  have HZ : Bx (w.heap.size = S) := ⟨hS⟩
  clear hS
  have p0 := H0.out.box.cell 0 _ rfl
  have p1 := H0.out.box.cell 1 _ rfl
  have p2 := H0.out.box.cell 2 _ rfl
  have p3 := H0.out.box.cell 3 _ rfl
  have p4 := H0.out.box.cell 4 _ rfl
  have p5 := H0.out.box.cell 5 _ rfl
  have p6 := H0.out.box.cell 6 _ rfl
  have p7 := H0.out.box.cell 7 _ rfl
  have p8 := H0.out.box.cell 8 _ rfl
  have p9 := H0.out.box.cell 9 _ rfl
  have p10 := H0.out.box.cell 10 _ rfl
  have p11 := H0.out.box.cell 11 _ rfl
  have p12 := H0.out.box.cell 12 _ rfl
  have p13 := H0.out.box.cell 13 _ rfl
  have kp := program_any D L w0 H0.out.mem HB.out.1 H0.out.glob (HB.out.2.below (by rw [HZ.out]; exact H0.out.below))
  cases hv : verF D with
  | some x =>
    obtain ⟨c, o⟩ := x
    obtain ⟨T, u, hu⟩ := verV_some (o := o) (verF_pos hv)
    rw [hv, hu] at kp
    have HE : Bx (bndV D = .tuple #[.int .i64 0, .int .i64 0, .iface T u]) := ⟨by unfold bndV; rw [hv]; simp only; rw [hu]⟩
    clear hv hu
    go_wp2_with fail
    refine kp.mono ?_
    rintro e w1 ⟨rfl, hb⟩
    have H1 : Bx _ := ⟨H0.out.step hb⟩
    clear hb kp p0 p1 p2 p3 p4 p5 p6 p7 p8 p9 p10 p11 p12 p13
    go_wp2
    go_ret3
    exact ⟨by rw [HE.out]; rfl, by rw [HZ.out]; exact H1.out.below⟩
  | none =>
    rw [hv] at kp
    have HE : Bx (bndV D = .tuple #[.int .i64 (D.filter.length : Nat), .int .i64 (D.output.length : Nat), .nilIface]) := ⟨by unfold bndV; rw [hv]⟩
    clear hv
    go_wp2_with fail
    refine kp.mono ?_
    rintro e w1 ⟨rfl, hb⟩
    have H1 : Bx _ := ⟨H0.out.step hb⟩
    clear hb kp p0 p1 p2 p3 p4 p5 p6 p7 p8 p9 p10 p11 p12 p13
    simp only [verV]
    have p12 := H1.out.box.cell 12 _ rfl
    have p13 := H1.out.box.cell 13 _ rfl
    go_wp2_with fail
    go_quiet (fail)
    have H2 : Bx (∀ n, HdB w (w1.drewN n) S D L) := ⟨fun n => H1.out.step ⟨rfl, rfl, rfl, Nat.le_refl _, fun _ _ => rfl⟩⟩
    go_wp2
    go_ret3
    exact ⟨by rw [HE.out]; rfl, by rw [HZ.out]; exact (H2.out _).below⟩
end
section
open Go.RowKit
/-- what the document's Heights hands back -/
def RhtOut (w w' : World) (D : PrgD) (l : List InsD) (v : Value) : Prop := match verF D with
  | none => ∃ ls A, heiF l 0 hs0 = .inr ls ∧ v = .tuple #[.slice A ls.length ls.length, badV 0] ∧ I64L w' A ls
  | some x => v = .tuple #[.slice none 0 0, verB (some x)]
/-- what an error's cells are -/
theorem verB_cells {c : Int} {o : Option Nat} : ∃ n b, verB (some (c, o)) = .agg #[.int .i64 c, .int .i64 n, .int .i64 0, .bool b, .bool false] := by
  cases o with
  | none => exact ⟨0, false, rfl⟩
  | some n => exact ⟨n, true, rfl⟩
noncomputable def rbdV (D : PrgD) : Value := match verF D with
  | none => .tuple #[.int .i64 (D.filter.length : Nat), .int .i64 (D.output.length : Nat), badV 0]
  | some x => .tuple #[.int .i64 0, .int .i64 0, verB (some x)]
end
section
open Go.RowKit
end
end Go.Proofs.YtbcajmkmadgbhaaDoor
