/- Walks of the heap: up. -/
import Derived.Test.YtaolkcbbkanhbaaGreatDoorHpC
import Derived.IntWalk
set_option linter.unusedSimpArgs false
set_option linter.unusedVariables false
namespace Go.Proofs.YtaolkcbbkanhbaaGreatDoor
open Go.RowKit
theorem upH_stop {mo : Bool} {L : List Ent} {i : Nat} (h : (decide (0 < i) && ahE mo (atE L i) (atE L ((i - 1) / 2))) = false) : upH mo L i = (L, 0) := by rw [upH_eq, h]; rfl
theorem upH_go {mo : Bool} {L : List Ent} {i : Nat} (h : (decide (0 < i) && ahE mo (atE L i) (atE L ((i - 1) / 2))) = true) : upH mo L i = ((upH mo (swE L i ((i - 1) / 2)) ((i - 1) / 2)).1, (upH mo (swE L i ((i - 1) / 2)) ((i - 1) / 2)).2 + 1) := by rw [upH_eq, if_pos h]
/-- what up is about, from a place on -/
structure UpIn (w wr : World) (hb mb : Nat) (v : Value) (mo : Bool) (N : Nat) (Z : List Ent) (M k : Nat) (L : List Ent) (mv : Nat) : Prop where
  h : HeapAt wr hb mb v L mo mv
  z : (upH mo L k).1 = Z
  m : mv + (upH mo L k).2 = M
  n : L.length = N
  t : Turned (foot hb mb v) w wr
set_option maxHeartbeats 4000000 in
set_option maxRecDepth 100000 in
theorem up_false (hb mb : Nat) (v : Value) (L : List Ent) (mv i : Nat) (w : World) (hH : HeapAt w hb mb v L false mv) (hi : i < L.length) (hL : L.length ≤ 1152921504606846976) (hmv : mv + (upH false L i).2 ≤ 1152921504606846976) :
    Calls Tryz.prog 124 #[.pointer (some ⟨hb, 0, none⟩), .int .i64 i] w fun e w' => e = .returned (.tuple #[]) ∧ HeapAt w' hb mb v (upH false L i).1 false (mv + (upH false L i).2) ∧ Turned (foot hb mb v) w w' := by
  obtain ⟨Z, hZ⟩ : ∃ Z, (upH false L i).1 = Z := ⟨_, rfl⟩
  obtain ⟨M, hM⟩ : ∃ M, mv + (upH false L i).2 = M := ⟨_, rfl⟩
  rw [hM] at hmv
  rw [hZ, hM]
  obtain ⟨N, hN⟩ : ∃ N, L.length = N := ⟨_, rfl⟩
  rw [hN] at hi hL
  have HI0 : Bx (UpIn w w hb mb v false N Z M i L mv) := ⟨hH, hZ, hM, hN, Turned.refl _ _⟩
  clear hH hZ hM hN
  go_enter Tryz.func124, Tryz.ntmps124
  go_wp2_with fail
  go_loopw [1] (fun i wr => ∃ k : Nat, i = .int .i64 k ∧ k < N ∧ ∃ L' mv', Bx (UpIn w wr hb mb v false N Z M k L' mv')) (fun i _ => (intOf i).toNat)
  case atStart => exact ⟨i, rfl, hi, L, mv, HI0⟩
  case round =>
    obtain ⟨k, rfl, hk, L', mv', HI⟩ := hrel
    clear HI0
    cases k with
    | zero =>
      have hE := upH_stop (mo := false) (L := L') (i := 0) (by simp)
      have HE : Bx (L' = Z ∧ mv' = M) := ⟨by rw [← HI.out.z, hE], by rw [← HI.out.m, hE]; rfl⟩
      clear hE
      go_wp2_with fail
      refine wp_region_quiet_below (by kernel_rfl) (by kernel_rfl) ?_
      repeat (go_big_quiet_step (fail))
      refine wpQuiet_nil ?_
      intro _ hw'
      obtain ⟨⟨dq, osq⟩, hw''⟩ := hw'
      subst hw''
      have HF : Bx (HeapAt (Go.Sort.grow (redrawn wr dq) osq) hb mb v Z false M ∧ Turned (foot hb mb v) w (Go.Sort.grow (redrawn wr dq) osq)) := ⟨by rw [← HE.out.1, ← HE.out.2]; exact HI.out.h.below (below_regrown wr dq osq), HI.out.t.trans (Turned.ofBelow (below_regrown wr dq osq))⟩
      generalize Go.Sort.grow (redrawn wr dq) osq = w1 at *
      go_wp2
      go_end0
      exact ⟨rfl, HF.out⟩
    | succ j =>
      obtain ⟨g, cap, rfl, ho⟩ := HI.out.h.row.some (by rw [HI.out.n]; omega)
      obtain ⟨e0, e1⟩ := ent_cells ho rfl (i := j + 1) (by rw [HI.out.n]; omega)
      obtain ⟨d0, d1⟩ := ent_cells ho rfl (i := j / 2) (by rw [HI.out.n]; omega)
      have c0 := HI.out.h.cell0
      have c2 : wr.cell? ⟨hb, 2, none⟩ = some (.func (.func 39) #[] #[]) := HI.out.h.cell2
      rw [HI.out.n] at c0
      obtain ⟨C, hC⟩ : ∃ C, ahE false (atE L' (j + 1)) (atE L' (j / 2)) = C := ⟨_, rfl⟩
      have ka0 := fun (a b : Ent) w => least_any a.1 b.1 a.2 b.2 w
      have ka : ∀ w, Calls Tryz.prog 39 #[.agg #[.int .i64 (atE L' (j + 1)).1, strV (atE L' (j + 1)).2], .agg #[.int .i64 (atE L' (j / 2)).1, strV (atE L' (j / 2)).2]] w fun e w' => e = .returned (.bool C) ∧ Below w.heap.size w w' := fun w => by rw [← hC]; exact ka0 _ _ w
      have HC : Bx (ahE false (atE L' (j + 1)) (atE L' (j / 2)) = C) := ⟨hC⟩
      clear hC ka0 ho
      generalize (atE L' (j + 1)).1 = r1 at *
      generalize (atE L' (j + 1)).2 = s1 at *
      generalize (atE L' (j / 2)).1 = r2 at *
      generalize (atE L' (j / 2)).2 = s2 at *
      obtain ⟨q, hq⟩ : ∃ q, j / 2 = q := ⟨_, rfl⟩
      have HQ : Bx (j / 2 = q) := ⟨hq⟩
      rw [hq] at d0 d1
      have hqN : q < N := by omega
      have hq1 : (0 : Int) ≤ q := by omega
      have b1 : IntKind.i64.wrap ((j : Int) + 1) = j + 1 := IntWalk.i64_in _ (by omega)
      have b2 : ((j : Int) / 2) = (q : Int) := by omega
      have b3 : ((j : Int).tdiv 2) = (q : Int) := by rw [Int.tdiv_eq_ediv_of_nonneg (by omega)]; exact b2
      have b4 : IntKind.i64.wrap (j : Int) = j := IntWalk.i64_in _ (by omega)
      have b5 : IntKind.i64.wrap (q : Int) = q := IntWalk.i64_in _ (by omega)
      clear hq
      have q0 := cell_regrown c0
      have q2 := cell_regrown c2
      have q3 := cell_regrown e0
      have q4 := cell_regrown e1
      have q5 := cell_regrown d0
      have q6 := cell_regrown d1
      clear c0 c2 e0 e1 d0 d1
      go_wp2_with fail
      refine wp_region_quiet_below (by kernel_rfl) (by kernel_rfl) ?_
      repeat (go_big_quiet_step (first | (go_at_call 39; with_reducible exact Calls.regrown_of (ka _))))
      refine wpQuiet_nil ?_
      intro _ hw'
      obtain ⟨⟨dq, osq⟩, hw''⟩ := hw'
      subst hw''
      have HF : Bx (UpIn w (Go.Sort.grow (redrawn wr dq) osq) hb mb (.slice (some ⟨g, 0, none⟩) L'.length cap) false N Z M (j + 1) L' mv') := ⟨⟨HI.out.h.below (below_regrown wr dq osq), HI.out.z, HI.out.m, HI.out.n, HI.out.t.trans (Turned.ofBelow (below_regrown wr dq osq))⟩⟩
      generalize Go.Sort.grow (redrawn wr dq) osq = w1 at *
      clear q0 q2 q3 q4 q5 q6 HI ka
      have hj2 : (j + 1 - 1) / 2 = j / 2 := by rw [Nat.add_sub_cancel]
      cases C
      · have hE := upH_stop (mo := false) (L := L') (i := j + 1) (by rw [hj2, HC.out]; simp)
        have HE : Bx (L' = Z ∧ mv' = M) := ⟨by rw [← HF.out.z, hE], by rw [← HF.out.m, hE]; rfl⟩
        clear hE hj2
        go_wp2
        go_end0
        exact ⟨rfl, by rw [← HE.out.1, ← HE.out.2]; exact HF.out.h, HF.out.t⟩
      · have hE := upH_go (mo := false) (L := L') (i := j + 1) (by rw [hj2, HC.out]; simp)
        rw [hj2, HQ.out] at hE
        have hm := HF.out.m
        rw [hE] at hm
        have hm2 : mv' + ((upH false (swE L' (j + 1) q) q).2 + 1) = M := hm
        have kc := change_any hb mb _ L' false mv' (j + 1) q w1 HF.out.h (by rw [HF.out.n]; omega) (by rw [HF.out.n]; omega) (by omega) (by rw [HF.out.n]; exact hL) (by omega)
        have HE : Bx (upH false L' (j + 1) = ((upH false (swE L' (j + 1) q) q).1, (upH false (swE L' (j + 1) q) q).2 + 1)) := ⟨hE⟩
        have HM : Bx _ := ⟨hm2⟩
        clear hE hm hm2 hj2
        go_wp2_with fail
        refine kc.mono ?_
        rintro e w2 ⟨rfl, h2, t2⟩
        have HG : Bx (UpIn w w2 hb mb (.slice (some ⟨g, 0, none⟩) L'.length cap) false N Z M q (swE L' (j + 1) q) (mv' + 1)) := ⟨⟨h2, by rw [← HF.out.z, HE.out], by have := HM.out; omega, by rw [swE_len]; exact HF.out.n, HF.out.t.trans t2⟩⟩
        clear kc h2 t2 HE HF
        go_wp2_with fail
        exact ⟨⟨q, rfl, hqN, _, _, HG⟩, by simp only [intOf]; omega⟩
set_option maxHeartbeats 4000000 in
set_option maxRecDepth 100000 in
theorem up_true (hb mb : Nat) (v : Value) (L : List Ent) (mv i : Nat) (w : World) (hH : HeapAt w hb mb v L true mv) (hi : i < L.length) (hL : L.length ≤ 1152921504606846976) (hmv : mv + (upH true L i).2 ≤ 1152921504606846976) :
    Calls Tryz.prog 124 #[.pointer (some ⟨hb, 0, none⟩), .int .i64 i] w fun e w' => e = .returned (.tuple #[]) ∧ HeapAt w' hb mb v (upH true L i).1 true (mv + (upH true L i).2) ∧ Turned (foot hb mb v) w w' := by
  obtain ⟨Z, hZ⟩ : ∃ Z, (upH true L i).1 = Z := ⟨_, rfl⟩
  obtain ⟨M, hM⟩ : ∃ M, mv + (upH true L i).2 = M := ⟨_, rfl⟩
  rw [hM] at hmv
  rw [hZ, hM]
  obtain ⟨N, hN⟩ : ∃ N, L.length = N := ⟨_, rfl⟩
  rw [hN] at hi hL
  have HI0 : Bx (UpIn w w hb mb v true N Z M i L mv) := ⟨hH, hZ, hM, hN, Turned.refl _ _⟩
  clear hH hZ hM hN
  go_enter Tryz.func124, Tryz.ntmps124
  go_wp2_with fail
  go_loopw [1] (fun i wr => ∃ k : Nat, i = .int .i64 k ∧ k < N ∧ ∃ L' mv', Bx (UpIn w wr hb mb v true N Z M k L' mv')) (fun i _ => (intOf i).toNat)
  case atStart => exact ⟨i, rfl, hi, L, mv, HI0⟩
  case round =>
    obtain ⟨k, rfl, hk, L', mv', HI⟩ := hrel
    clear HI0
    cases k with
    | zero =>
      have hE := upH_stop (mo := true) (L := L') (i := 0) (by simp)
      have HE : Bx (L' = Z ∧ mv' = M) := ⟨by rw [← HI.out.z, hE], by rw [← HI.out.m, hE]; rfl⟩
      clear hE
      go_wp2_with fail
      refine wp_region_quiet_below (by kernel_rfl) (by kernel_rfl) ?_
      repeat (go_big_quiet_step (fail))
      refine wpQuiet_nil ?_
      intro _ hw'
      obtain ⟨⟨dq, osq⟩, hw''⟩ := hw'
      subst hw''
      have HF : Bx (HeapAt (Go.Sort.grow (redrawn wr dq) osq) hb mb v Z true M ∧ Turned (foot hb mb v) w (Go.Sort.grow (redrawn wr dq) osq)) := ⟨by rw [← HE.out.1, ← HE.out.2]; exact HI.out.h.below (below_regrown wr dq osq), HI.out.t.trans (Turned.ofBelow (below_regrown wr dq osq))⟩
      generalize Go.Sort.grow (redrawn wr dq) osq = w1 at *
      go_wp2
      go_end0
      exact ⟨rfl, HF.out⟩
    | succ j =>
      obtain ⟨g, cap, rfl, ho⟩ := HI.out.h.row.some (by rw [HI.out.n]; omega)
      obtain ⟨e0, e1⟩ := ent_cells ho rfl (i := j + 1) (by rw [HI.out.n]; omega)
      obtain ⟨d0, d1⟩ := ent_cells ho rfl (i := j / 2) (by rw [HI.out.n]; omega)
      have c0 := HI.out.h.cell0
      have c2 : wr.cell? ⟨hb, 2, none⟩ = some (.func (.func 40) #[] #[]) := HI.out.h.cell2
      rw [HI.out.n] at c0
      obtain ⟨C, hC⟩ : ∃ C, ahE true (atE L' (j + 1)) (atE L' (j / 2)) = C := ⟨_, rfl⟩
      have ka0 := fun (a b : Ent) w => most_any a.1 b.1 a.2 b.2 w
      have ka : ∀ w, Calls Tryz.prog 40 #[.agg #[.int .i64 (atE L' (j + 1)).1, strV (atE L' (j + 1)).2], .agg #[.int .i64 (atE L' (j / 2)).1, strV (atE L' (j / 2)).2]] w fun e w' => e = .returned (.bool C) ∧ Below w.heap.size w w' := fun w => by rw [← hC]; exact ka0 _ _ w
      have HC : Bx (ahE true (atE L' (j + 1)) (atE L' (j / 2)) = C) := ⟨hC⟩
      clear hC ka0 ho
      generalize (atE L' (j + 1)).1 = r1 at *
      generalize (atE L' (j + 1)).2 = s1 at *
      generalize (atE L' (j / 2)).1 = r2 at *
      generalize (atE L' (j / 2)).2 = s2 at *
      obtain ⟨q, hq⟩ : ∃ q, j / 2 = q := ⟨_, rfl⟩
      have HQ : Bx (j / 2 = q) := ⟨hq⟩
      rw [hq] at d0 d1
      have hqN : q < N := by omega
      have hq1 : (0 : Int) ≤ q := by omega
      have b1 : IntKind.i64.wrap ((j : Int) + 1) = j + 1 := IntWalk.i64_in _ (by omega)
      have b2 : ((j : Int) / 2) = (q : Int) := by omega
      have b3 : ((j : Int).tdiv 2) = (q : Int) := by rw [Int.tdiv_eq_ediv_of_nonneg (by omega)]; exact b2
      have b4 : IntKind.i64.wrap (j : Int) = j := IntWalk.i64_in _ (by omega)
      have b5 : IntKind.i64.wrap (q : Int) = q := IntWalk.i64_in _ (by omega)
      clear hq
      have q0 := cell_regrown c0
      have q2 := cell_regrown c2
      have q3 := cell_regrown e0
      have q4 := cell_regrown e1
      have q5 := cell_regrown d0
      have q6 := cell_regrown d1
      clear c0 c2 e0 e1 d0 d1
      go_wp2_with fail
      refine wp_region_quiet_below (by kernel_rfl) (by kernel_rfl) ?_
      repeat (go_big_quiet_step (first | (go_at_call 40; with_reducible exact Calls.regrown_of (ka _))))
      refine wpQuiet_nil ?_
      intro _ hw'
      obtain ⟨⟨dq, osq⟩, hw''⟩ := hw'
      subst hw''
      have HF : Bx (UpIn w (Go.Sort.grow (redrawn wr dq) osq) hb mb (.slice (some ⟨g, 0, none⟩) L'.length cap) true N Z M (j + 1) L' mv') := ⟨⟨HI.out.h.below (below_regrown wr dq osq), HI.out.z, HI.out.m, HI.out.n, HI.out.t.trans (Turned.ofBelow (below_regrown wr dq osq))⟩⟩
      generalize Go.Sort.grow (redrawn wr dq) osq = w1 at *
      clear q0 q2 q3 q4 q5 q6 HI ka
      have hj2 : (j + 1 - 1) / 2 = j / 2 := by rw [Nat.add_sub_cancel]
      cases C
      · have hE := upH_stop (mo := true) (L := L') (i := j + 1) (by rw [hj2, HC.out]; simp)
        have HE : Bx (L' = Z ∧ mv' = M) := ⟨by rw [← HF.out.z, hE], by rw [← HF.out.m, hE]; rfl⟩
        clear hE hj2
        go_wp2
        go_end0
        exact ⟨rfl, by rw [← HE.out.1, ← HE.out.2]; exact HF.out.h, HF.out.t⟩
      · have hE := upH_go (mo := true) (L := L') (i := j + 1) (by rw [hj2, HC.out]; simp)
        rw [hj2, HQ.out] at hE
        have hm := HF.out.m
        rw [hE] at hm
        have hm2 : mv' + ((upH true (swE L' (j + 1) q) q).2 + 1) = M := hm
        have kc := change_any hb mb _ L' true mv' (j + 1) q w1 HF.out.h (by rw [HF.out.n]; omega) (by rw [HF.out.n]; omega) (by omega) (by rw [HF.out.n]; exact hL) (by omega)
        have HE : Bx (upH true L' (j + 1) = ((upH true (swE L' (j + 1) q) q).1, (upH true (swE L' (j + 1) q) q).2 + 1)) := ⟨hE⟩
        have HM : Bx _ := ⟨hm2⟩
        clear hE hm hm2 hj2
        go_wp2_with fail
        refine kc.mono ?_
        rintro e w2 ⟨rfl, h2, t2⟩
        have HG : Bx (UpIn w w2 hb mb (.slice (some ⟨g, 0, none⟩) L'.length cap) true N Z M q (swE L' (j + 1) q) (mv' + 1)) := ⟨⟨h2, by rw [← HF.out.z, HE.out], by have := HM.out; omega, by rw [swE_len]; exact HF.out.n, HF.out.t.trans t2⟩⟩
        clear kc h2 t2 HE HF
        go_wp2_with fail
        exact ⟨⟨q, rfl, hqN, _, _, HG⟩, by simp only [intOf]; omega⟩
end Go.Proofs.YtaolkcbbkanhbaaGreatDoor
