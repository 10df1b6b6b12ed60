/- The walks of the statements NumParses and NumBack. Condition: errors.errorType holds the handle of the type error. -/
import Derived.Test.YthlfbakndbjhoaaDoorNumPb
import Derived.Test.YthlfbakndbjhoaaDoorNumReck
set_option linter.unusedSimpArgs false
set_option linter.unusedVariables false
namespace Go.Proofs.YthlfbakndbjhoaaDoor
open Go.RowKit
set_option maxHeartbeats 4000000 in
set_option maxRecDepth 100000 in
theorem rparse_nil (w : World) :
    Calls Tryd.prog 36 #[.string ⟨([] : List UInt8).toArray⟩] w fun e w' => RPost [] w w.heap.size e w' := by
  have I := Lib.hid (PB.alloc w 38 44 38)
  go_enter Tryd.func36, Tryd.ntmps36
  go_wp2_with fail
  generalize (((w.alloc (.cells #[.int .i64 0, .int .u64 0] 38)).alloc (.cells #[.int .i64 0, .int .i64 0, .int .i64 0, .bool false, .bool false] 44)).alloc (.cells #[.int .i64 0, .int .u64 0] 38)) = w1 at *
  generalize hR : w.heap.size = R at *
  have HR := Lib.hid hR
  clear hR
  go_loopw [6] (fun i wr => i = .int .i64 0 ∧ Bx (PB w wr R 0)) (fun _ _ => 0)
  case atStart => exact ⟨rfl, ⟨I.out⟩⟩
  case round =>
    obtain ⟨rfl, HI⟩ := hrel
    clear I
    have kp := fun w => rprint_any (hZ 0) (lZ 0) w (InS.w ⟨by decide, by decide⟩)
    have c0 := HI.out.v0
    have c1 := HI.out.v1
    have fv := HI.out.fv
    have olt := HI.out.lt
    go_wp2_with fail
    refine (kp _).mono ?_; rintro e w3 ⟨rfl, h3⟩
    have HL : Bx (PB w w3 R 0) := ⟨HI.out.step h3⟩
    clear h3 c0 c1 fv olt kp HI
    have a0 := HL.out.a0
    have a1 := HL.out.a1
    have v0 := HL.out.v0
    have v1 := HL.out.v1
    have e0 := HL.out.b0
    have e1 := HL.out.b1
    have e2 := HL.out.b2
    have e3 := HL.out.b3
    have e4 := HL.out.b4
    have fa := HL.out.fa
    have fb := HL.out.fb
    have olt := HL.out.lt
    have olt1 : R + 1 < w3.heap.size := by omega
    have olt0 : R < w3.heap.size := by omega
    unfold strV
    obtain ⟨P, hP⟩ : ∃ P, printL (sZ (hZ 0) (lZ 0)) = P := ⟨_, rfl⟩
    have hpr : P ≠ [] := by rw [← hP]; exact printL_ne _
    rw [hP]
    clear hP
    have hne : (P == []) = false := by simpa using hpr
    have hne2 : P.isEmpty = false := by simpa using hpr
    go_wp2_with (go_at_call 51; refine (badnew_x _ _).mono ?_; rintro e w' ⟨rfl, rfl⟩)
    obtain ⟨y0, y1, z0, z1, z2, z3, z4, zb⟩ := HL.out.fin2 0 0 31 #[.int .i64 31, .int .i64 0, .int .i64 0, .bool false, .bool false] 44 _ rfl
    exact bodyPost_ret (results_sumbad rfl _ _ R (R + 1) 0 0 31 rfl rfl y0 y1 z0 z1 z2 z3 z4) rfl ⟨.inr ⟨fun x _ e => printL_ne x e, rfl⟩, by rw [HR.out]; exact zb⟩
/-- what a text parses to -/
theorem printL_inj {a b : Int} (h : printL a = printL b) : a = b := by
  rcases text_of (z := a) rfl with ⟨h0, h1⟩ | ⟨h0, h1⟩ <;> rcases text_of (z := b) rfl with ⟨g0, g1⟩ | ⟨g0, g1⟩
  · rw [h1, g1] at h
    have e := congrArg hor (List.cons.inj h).2
    rw [hor_decN, hor_decN] at e
    omega
  · rw [h1, g1] at h; exact absurd h.symm decN_head
  · rw [h1, g1] at h; exact absurd h decN_head
  · rw [h1, g1] at h
    have e := congrArg hor h
    rw [hor_decN, hor_decN] at e
    omega
open Classical in
noncomputable def paZ (L : List UInt8) : Int := if h : ∃ z, InS z ∧ printL z = L then h.choose else 0
open Classical in
noncomputable def paC (L : List UInt8) : Int := if ∃ z, InS z ∧ printL z = L then 0 else 31
theorem paC_nn (L : List UInt8) : 0 ≤ paC L := by unfold paC; split <;> omega
theorem pa_yes {L : List UInt8} {z : Int} (hz : InS z) (h : printL z = L) : paZ L = z ∧ paC L = 0 := by
  have hx : ∃ z, InS z ∧ printL z = L := ⟨z, hz, h⟩
  unfold paZ paC
  rw [dif_pos hx, if_pos hx]
  exact ⟨printL_inj (by rw [hx.choose_spec.2, h]), rfl⟩
theorem pa_no {L : List UInt8} (h : ∀ z, InS z → printL z ≠ L) : paZ L = 0 ∧ paC L = 31 := by
  have hx : ¬ ∃ z, InS z ∧ printL z = L := fun ⟨z, a, b⟩ => h z a b
  unfold paZ paC
  rw [dif_neg hx, if_neg hx]
  exact ⟨rfl, rfl⟩
theorem parse_z (L : List UInt8) (w : World) :
    Calls Tryd.prog 35 #[.string ⟨L.toArray⟩] w fun e w' => e = .returned (.tuple #[.agg #[.int .i64 (hZ (paZ L)), .int .u64 (lZ (paZ L))], eV (paC L)]) ∧ Below w.heap.size w w' := by
  refine (parse_any L w).mono ?_
  rintro e w' ⟨h, hb⟩
  refine ⟨?_, hb⟩
  rcases h with ⟨z, hz, hp, rfl⟩ | ⟨hn, rfl⟩
  · obtain ⟨e1, e2⟩ := pa_yes hz hp
    rw [e1, e2]; rfl
  · obtain ⟨e1, e2⟩ := pa_no hn
    rw [e1, e2]; rfl
theorem rparse_z (L : List UInt8) (w : World) (hL : L.length ≤ 9223372036854775807) :
    Calls Tryd.prog 36 #[.string ⟨L.toArray⟩] w fun e w' => e = .returned (.tuple #[.agg #[.int .i64 (hZ (paZ L)), .int .u64 (lZ (paZ L))], badV (paC L)]) ∧ Below w.heap.size w w' := by
  have key : Calls Tryd.prog 36 #[.string ⟨L.toArray⟩] w fun e w' => RPost L w w.heap.size e w' := by
    cases L with
    | nil => exact rparse_nil w
    | cons c t =>
      refine rparse_L (c :: t) c ((c.toNat : Int) == 45) w (by simp) hL rfl rfl ?_
      constructor
      · intro h
        have h' : (c.toNat : Int) = 45 := by simpa using h
        have h' : c.toNat = 45 := by omega
        exact ⟨t, by rw [show c = 45 from UInt8.toNat_inj.1 h']⟩
      · rintro ⟨s, hs⟩
        rw [(List.cons.inj hs).1]; rfl
  refine key.mono ?_
  rintro e w' ⟨h, hb⟩
  refine ⟨?_, hb⟩
  rcases h with ⟨z, hz, hp, rfl⟩ | ⟨hn, rfl⟩
  · obtain ⟨e1, e2⟩ := pa_yes hz hp
    rw [e1, e2]
  · obtain ⟨e1, e2⟩ := pa_no hn
    rw [e1, e2]; rfl
set_option maxHeartbeats 4000000 in
set_option maxRecDepth 100000 in
theorem back_any (h l : Int) (w : World) (hG : Glob w) (hs : SumW h l) :
    Calls Tryd.prog 10 #[.agg #[.int .i64 h, .int .u64 l]] w fun e w' => e = .returned (.bool true) ∧ Below w.heap.size w w' := by
  have kp := fun w => print_any h l w hs
  have hz := inS_of hs
  obtain ⟨g1, g2⟩ := hl_of hs
  obtain ⟨e1, e2⟩ := pa_yes hz rfl
  have ka := fun w => parse_z (printL (sZ h l)) w
  rw [e1, e2, g1, g2, show eV 0 = Value.nilIface from rfl] at ka
  unfold strV at kp
  generalize printL (sZ h l) = pr at *
  clear e1 e2 g1 g2 hz hs
  go_enter Tryd.func10, Tryd.ntmps10
  go_wp2_with fail
  refine (live_any _ (hG.below (below1 _ _) hG.lt)).mono ?_; rintro e w1 ⟨rfl, h1⟩
  have s0 : w1.cell? ⟨w.heap.size, 0, none⟩ = some (.int .i64 h) := by
    rw [h1.cell (p := ⟨w.heap.size, 0, none⟩) (by simp), World.cell?_alloc_at _ _ _ _ rfl]; rfl
  have s1 : w1.cell? ⟨w.heap.size, 1, none⟩ = some (.int .u64 l) := by
    rw [h1.cell (p := ⟨w.heap.size, 1, none⟩) (by simp), World.cell?_alloc_at _ _ _ _ rfl]; rfl
  have hz1 : w.heap.size < w1.heap.size := Nat.lt_of_lt_of_le (by simp) h1.size
  have H1 : Bx (Below w.heap.size w w1) := ⟨(below1 _ _).trans (h1.mono (by simp))⟩
  clear h1
  go_wp2_with fail
  refine (kp _).mono ?_; rintro e w2 ⟨rfl, h2⟩
  have s0' : w2.cell? ⟨w.heap.size, 0, none⟩ = some (.int .i64 h) := by rw [h2.cell (p := ⟨w.heap.size, 0, none⟩) hz1]; exact s0
  have s1' : w2.cell? ⟨w.heap.size, 1, none⟩ = some (.int .u64 l) := by rw [h2.cell (p := ⟨w.heap.size, 1, none⟩) hz1]; exact s1
  have H2 : Bx (Below w.heap.size w w2) := ⟨H1.out.trans (h2.mono H1.out.size)⟩
  have hz2 : w.heap.size < w2.heap.size := Nat.lt_of_lt_of_le hz1 h2.size
  clear h2 s0 s1 H1 hz1
  go_wp2_with fail
  refine (ka _).mono ?_; rintro e w3 ⟨rfl, h3⟩
  have s0 : w3.cell? ⟨w.heap.size, 0, none⟩ = some (.int .i64 h) := by rw [h3.cell (p := ⟨w.heap.size, 0, none⟩) hz2]; exact s0'
  have s1 : w3.cell? ⟨w.heap.size, 1, none⟩ = some (.int .u64 l) := by rw [h3.cell (p := ⟨w.heap.size, 1, none⟩) hz2]; exact s1'
  have H3 : Bx (Below w.heap.size w w3) := ⟨H2.out.trans (h3.mono H2.out.size)⟩
  have hz3 : w.heap.size < w3.heap.size := Nat.lt_of_lt_of_le hz2 h3.size
  clear h3 s0' s1' H2 hz2
  generalize hSz : w.heap.size = S at *
  have HS : Bx (w.heap.size = S) := ⟨hSz⟩
  clear hSz
  go_wp2
  go_ret
  refine ⟨rfl, ?_⟩
  rw [HS.out]
  exact H3.out.trans ((below1 _ _).mono (by omega))
set_option maxHeartbeats 4000000 in
set_option maxRecDepth 100000 in
theorem parses_any (L : List UInt8) (w : World) (hG : Glob w) (hL : L.length ≤ 9223372036854775807) :
    Calls Tryd.prog 9 #[.string ⟨L.toArray⟩] w fun e w' => e = .returned (.bool true) ∧ Below w.heap.size w w' := by
  have kp := fun w => parse_z L w
  have kr := fun w => rparse_z L w hL
  have hnn := paC_nn L
  generalize paC L = pc at *
  have hS : ∀ W, Glob W → Calls Tryd.prog 37 #[eV pc, badV pc] W fun e w' => e = .returned (.bool true) ∧ Below W.heap.size W w' := by
    intro W hW
    by_cases h : pc = 0
    · subst h; exact same_nil W
    · rw [eV_pos (by omega)]; exact same_E pc W hW (by omega)
  have HS : Bx _ := ⟨hS⟩
  clear hS
  generalize hZ (paZ L) = ph at *
  generalize lZ (paZ L) = pl at *
  go_enter Tryd.func9, Tryd.ntmps9
  go_wp2_with fail
  refine (live_any _ hG).mono ?_; rintro e w1 ⟨rfl, h1⟩
  go_wp2_with fail
  refine (kp _).mono ?_; rintro e w2 ⟨rfl, h2⟩
  have H2 : Bx (Below w.heap.size w w2) := ⟨h1.trans (h2.mono h1.size)⟩
  clear h1 h2
  go_wp2_with fail
  refine (kr _).mono ?_; rintro e w3 ⟨rfl, h3⟩
  have s0 : w3.cell? ⟨w2.heap.size, 0, none⟩ = some (.int .i64 ph) := by
    rw [h3.cell (p := ⟨w2.heap.size, 0, none⟩) (by simp), World.cell?_alloc_at _ _ _ _ rfl]; rfl
  have s1 : w3.cell? ⟨w2.heap.size, 1, none⟩ = some (.int .u64 pl) := by
    rw [h3.cell (p := ⟨w2.heap.size, 1, none⟩) (by simp), World.cell?_alloc_at _ _ _ _ rfl]; rfl
  have H3 : Bx (Below w.heap.size w w3) := ⟨H2.out.trans (((below1 _ _).mono H2.out.size).trans (h3.mono (by simp; exact Nat.le_succ_of_le H2.out.size)))⟩
  have hz3 : w2.heap.size < w3.heap.size := Nat.lt_of_lt_of_le (by simp) h3.size
  clear h3 H2
  generalize hB : w2.heap.size = B at *
  clear hB
  have hG3 : Glob ((w3.alloc (.cells #[.int .i64 ph, .int .u64 pl] 38)).alloc (.cells #[.int .i64 pc, .int .i64 0, .int .i64 0, .bool false, .bool false] 44)) := hG.below (H3.out.trans ((below2 _ _ _).mono H3.out.size)) hG.lt
  go_wp2_with fail
  refine (HS.out _ hG3).mono ?_; rintro e w4 ⟨rfl, h4⟩
  have H4 : Bx (Below w.heap.size w w4) := ⟨(H3.out.trans ((below2 _ _ _).mono H3.out.size)).trans (h4.mono (by simp only [heap_push, Array.size_push]; have := H3.out.size; omega))⟩
  clear h4 hG3
  go_wp2
  go_ret
  exact ⟨rfl, H4.out⟩
end Go.Proofs.YthlfbakndbjhoaaDoor
