/- Walks of the heap: down, mend. -/
import Derived.Test.YtaolkcbbkanhbaaGreatDoorHpD
set_option linter.unusedSimpArgs false
set_option linter.unusedVariables false
namespace Go.Proofs.YtaolkcbbkanhbaaGreatDoor
open Go.RowKit
theorem downH_end {mo : Bool} {L : List Ent} {i : Nat} (h : ¬ 2 * i + 1 < L.length) : downH mo L i = (L, 0) := by rw [downH_eq, if_neg h]
theorem downH_stop {mo : Bool} {L : List Ent} {i K : Nat} (h : 2 * i + 1 < L.length) (hK : kidE mo L i = K) (hC : ahE mo (atE L K) (atE L i) = false) : downH mo L i = (L, 0) := by rw [downH_eq, if_pos h, hK, hC]; rfl
theorem downH_go {mo : Bool} {L : List Ent} {i K : Nat} (h : 2 * i + 1 < L.length) (hK : kidE mo L i = K) (hC : ahE mo (atE L K) (atE L i) = true) : downH mo L i = ((downH mo (swE L i K) K).1, (downH mo (swE L i K) K).2 + 1) := by rw [downH_eq, if_pos h, hK, if_pos hC]
/-- what down is about, from a place on -/
structure DownIn (w wr : World) (hb mb : Nat) (v : Value) (mo : Bool) (N : Nat) (Z : List Ent) (M k : Nat) (L : List Ent) (mv : Nat) : Prop where
  h : HeapAt wr hb mb v L mo mv
  z : (downH mo L k).1 = Z
  m : mv + (downH mo L k).2 = M
  n : L.length = N
  t : Turned (foot hb mb v) w wr
theorem DownIn.grow {w wr : World} {hb mb : Nat} {v : Value} {mo : Bool} {N : Nat} {Z : List Ent} {M k : Nat} {L : List Ent} {mv : Nat} (h : DownIn w wr hb mb v mo N Z M k L mv) (dq : Nat) (osq : Array Obj) : DownIn w (Go.Sort.grow (redrawn wr dq) osq) hb mb v mo N Z M k L mv :=
  ⟨h.h.below (below_regrown wr dq osq), h.z, h.m, h.n, h.t.trans (Turned.ofBelow (below_regrown wr dq osq))⟩
set_option maxHeartbeats 8000000 in
set_option maxRecDepth 100000 in
theorem down_false (hb mb : Nat) (v : Value) (L : List Ent) (mv i : Nat) (w : World) (hH : HeapAt w hb mb v L false mv) (hi : i < L.length) (hL : L.length ≤ 1152921504606846976) (hmv : mv + (downH false L i).2 ≤ 1152921504606846976) :
    Calls Tryz.prog 127 #[.pointer (some ⟨hb, 0, none⟩), .int .i64 i] w fun e w' => e = .returned (.tuple #[]) ∧ HeapAt w' hb mb v (downH false L i).1 false (mv + (downH false L i).2) ∧ Turned (foot hb mb v) w w' := by
  obtain ⟨Z, hZ⟩ : ∃ Z, (downH false L i).1 = Z := ⟨_, rfl⟩
  obtain ⟨M, hM⟩ : ∃ M, mv + (downH false L i).2 = M := ⟨_, rfl⟩
  rw [hM] at hmv
  rw [hZ, hM]
  obtain ⟨N, hN⟩ : ∃ N, L.length = N := ⟨_, rfl⟩
  rw [hN] at hi hL
  have HI0 : Bx (DownIn w w hb mb v false N Z M i L mv) := ⟨hH, hZ, hM, hN, Turned.refl _ _⟩
  clear hH hZ hM hN
  go_enter Tryz.func127, Tryz.ntmps127
  go_wp2_with fail
  go_loopw [1] (fun i wr => ∃ k : Nat, i = .int .i64 k ∧ k < N ∧ ∃ L' mv', Bx (DownIn w wr hb mb v false N Z M k L' mv')) (fun i _ => N - (intOf i).toNat)
  case atStart => exact ⟨i, rfl, hi, L, mv, HI0⟩
  case round =>
    obtain ⟨j, rfl, hj, L', mv', HF⟩ := hrel
    clear HI0
    obtain ⟨g, cap, hv, ho⟩ := HF.out.h.row.some (by rw [HF.out.n]; omega)
    have hn := HF.out.n
    rw [hn] at ho hv
    subst hv
    have HO : Bx _ := ⟨ho⟩
    have HN : Bx (L'.length = N) := ⟨hn⟩
    clear ho hn
    obtain ⟨a, ha⟩ : ∃ a : Nat, 2 * j + 1 = a := ⟨_, rfl⟩
    obtain ⟨c, hc⟩ : ∃ c : Nat, 2 * j + 2 = c := ⟨_, rfl⟩
    have HAC : Bx (2 * j + 1 = a ∧ 2 * j + 2 = c) := ⟨ha, hc⟩
    have z1 : 2 * (j : Int) + 1 = (a : Int) := by omega
    have z2 : (a : Int) + 1 = (c : Int) := by omega
    have c0 := HF.out.h.cell0
    rcases Nat.lt_or_ge a N with haN | haN
    · have z3 : IntKind.i64.wrap (c : Int) = c := IntWalk.i64_in _ (by omega)
      have z4 : IntKind.i64.wrap ((a : Int) + 1) = c := by rw [z2]; exact z3
      have z5 : j ≤ a := by omega
      have z6 : j < c := by omega
      have z7 : j ≠ a := by omega
      have c2 : wr.cell? ⟨hb, 2, none⟩ = some (.func (.func 39) #[] #[]) := HF.out.h.cell2
      rcases Nat.lt_or_ge c N with hcN | hcN
      · have z8 : decide (c < N) = true := decide_eq_true (by omega)
        have z9 : decide (N ≤ a) = false := decide_eq_false (by omega)
        obtain ⟨e0, e1⟩ := ent_cells HO.out HN.out.symm (i := c) (by rw [HN.out]; omega)
        obtain ⟨d0, d1⟩ := ent_cells HO.out HN.out.symm (i := a) (by rw [HN.out]; omega)
        obtain ⟨D, hD⟩ : ∃ D, ahE false (atE L' c) (atE L' a) = D := ⟨_, rfl⟩
        have ka0 := fun (a b : Ent) w => least_any a.1 b.1 a.2 b.2 w
        have ka : ∀ w, Calls Tryz.prog 39 #[.agg #[.int .i64 (atE L' c).1, strV (atE L' c).2], .agg #[.int .i64 (atE L' a).1, strV (atE L' a).2]] w fun e w' => e = .returned (.bool D) ∧ Below w.heap.size w w' := fun w => by rw [← hD]; exact ka0 _ _ w
        have HD : Bx (ahE false (atE L' c) (atE L' a) = D) := ⟨hD⟩
        clear hD ka0
        generalize (atE L' c).1 = r1 at *
        generalize (atE L' c).2 = s1 at *
        generalize (atE L' a).1 = r2 at *
        generalize (atE L' a).2 = s2 at *
        have q0 := cell_regrown c0
        have q2 := cell_regrown c2
        have q3 := cell_regrown e0
        have q4 := cell_regrown e1
        have q5 := cell_regrown d0
        have q6 := cell_regrown d1
        clear e0 e1 d0 d1
        go_wp2_with fail
        refine wp_region_quiet_below (by kernel_rfl) (by kernel_rfl) ?_
        repeat (go_big_quiet_step (first | (go_at_call 39; with_reducible exact Calls.regrown_of (ka _))))
        refine wpQuiet_nil ?_
        intro _ hw'
        obtain ⟨⟨dq, osq⟩, hw''⟩ := hw'
        subst hw''
        have HF2 : Bx (DownIn w (Go.Sort.grow (redrawn wr dq) osq) hb mb (.slice (some ⟨g, 0, none⟩) N cap) false N Z M j L' mv' ∧ (Go.Sort.grow (redrawn wr dq) osq).ownsRow 0 117 2 (.slice (some ⟨g, 0, none⟩) N cap) N (entC L')) := ⟨HF.out.grow dq osq, own_below HO.out (below_regrown wr dq osq)⟩
        generalize Go.Sort.grow (redrawn wr dq) osq = w1 at *
        clear q0 q2 q3 q4 q5 q6 ka c0 c2 HF HO
        have HF : Bx _ := ⟨HF2.out.1⟩
        have HO : Bx _ := ⟨HF2.out.2⟩
        clear HF2
        have hkd : kidE false L' j = if D then c else a := by
          unfold kidE
          rw [HN.out, HAC.out.1, HAC.out.2, HD.out, z8]
          cases D <;> rfl
        cases D
        · have HK : Bx (kidE false L' j = a) := ⟨hkd⟩
          clear hkd HD
          obtain ⟨e0, e1⟩ := ent_cells HO.out HN.out.symm (i := a) (by rw [HN.out]; omega)
          obtain ⟨d0, d1⟩ := ent_cells HO.out HN.out.symm (i := j) (by rw [HN.out]; omega)
          have c0 := HF.out.h.cell0
          have c2 : w1.cell? ⟨hb, 2, none⟩ = some (.func (.func 39) #[] #[]) := HF.out.h.cell2
          obtain ⟨D, hD⟩ : ∃ D, ahE false (atE L' a) (atE L' j) = D := ⟨_, rfl⟩
          have ka0 := fun (a b : Ent) w => least_any a.1 b.1 a.2 b.2 w
          have ka : ∀ w, Calls Tryz.prog 39 #[.agg #[.int .i64 (atE L' a).1, strV (atE L' a).2], .agg #[.int .i64 (atE L' j).1, strV (atE L' j).2]] w fun e w' => e = .returned (.bool D) ∧ Below w.heap.size w w' := fun w => by rw [← hD]; exact ka0 _ _ w
          have HD : Bx (ahE false (atE L' a) (atE L' j) = D) := ⟨hD⟩
          clear hD ka0
          generalize (atE L' a).1 = r1 at *
          generalize (atE L' a).2 = s1 at *
          generalize (atE L' j).1 = r2 at *
          generalize (atE L' j).2 = s2 at *
          have q0 := cell_regrown c0
          have q2 := cell_regrown c2
          have q3 := cell_regrown e0
          have q4 := cell_regrown e1
          have q5 := cell_regrown d0
          have q6 := cell_regrown d1
          clear c0 c2 e0 e1 d0 d1
          go_wp2_with fail
          refine wp_region_quiet_below (by kernel_rfl) (by kernel_rfl) ?_
          repeat (go_big_quiet_step (first | (go_at_call 39; with_reducible exact Calls.regrown_of (ka _))))
          refine wpQuiet_nil ?_
          intro _ hw'
          obtain ⟨⟨dq, osq⟩, hw''⟩ := hw'
          subst hw''
          have HG : Bx (DownIn w (Go.Sort.grow (redrawn w1 dq) osq) hb mb (.slice (some ⟨g, 0, none⟩) N cap) false N Z M j L' mv') := ⟨HF.out.grow dq osq⟩
          generalize Go.Sort.grow (redrawn w1 dq) osq = w3 at *
          clear q0 q2 q3 q4 q5 q6 ka
          cases D
          · have hE := downH_stop (by rw [HN.out]; omega) HK.out HD.out
            have HE : Bx (L' = Z ∧ mv' = M) := ⟨by rw [← HG.out.z, hE], by rw [← HG.out.m, hE]; rfl⟩
            clear hE
            go_wp2
            refine bodyPost_ret (results_none rfl _ _ _) rfl ?_
            exact ⟨rfl, by rw [← HE.out.1, ← HE.out.2]; exact HG.out.h, HG.out.t⟩
          · have hE := downH_go (by rw [HN.out]; omega) HK.out HD.out
            have hm := HG.out.m
            rw [hE] at hm
            have hm2 : mv' + ((downH false (swE L' j a) a).2 + 1) = M := hm
            have kc := change_any hb mb _ L' false mv' j a w3 HG.out.h (by rw [HG.out.n]; omega) (by rw [HG.out.n]; omega) (by omega) (by rw [HG.out.n]; exact hL) (by omega)
            have HE : Bx (downH false L' j = ((downH false (swE L' j a) a).1, (downH false (swE L' j a) a).2 + 1)) := ⟨hE⟩
            have HM : Bx _ := ⟨hm2⟩
            clear hE hm hm2
            go_wp2_with fail
            refine kc.mono ?_
            rintro e w4 ⟨rfl, h2, t2⟩
            have HH : Bx (DownIn w w4 hb mb (.slice (some ⟨g, 0, none⟩) N cap) false N Z M a (swE L' j a) (mv' + 1)) := ⟨⟨h2, by rw [← HG.out.z, HE.out], by have := HM.out; omega, by rw [swE_len]; exact HG.out.n, HG.out.t.trans t2⟩⟩
            clear kc h2 t2 HE HG
            go_wp2_with fail
            exact ⟨⟨a, rfl, by omega, _, _, HH⟩, by simp only [intOf]; omega⟩
        · have HK : Bx (kidE false L' j = c) := ⟨hkd⟩
          clear hkd HD
          obtain ⟨e0, e1⟩ := ent_cells HO.out HN.out.symm (i := c) (by rw [HN.out]; omega)
          obtain ⟨d0, d1⟩ := ent_cells HO.out HN.out.symm (i := j) (by rw [HN.out]; omega)
          have c0 := HF.out.h.cell0
          have c2 : w1.cell? ⟨hb, 2, none⟩ = some (.func (.func 39) #[] #[]) := HF.out.h.cell2
          obtain ⟨D, hD⟩ : ∃ D, ahE false (atE L' c) (atE L' j) = D := ⟨_, rfl⟩
          have ka0 := fun (a b : Ent) w => least_any a.1 b.1 a.2 b.2 w
          have ka : ∀ w, Calls Tryz.prog 39 #[.agg #[.int .i64 (atE L' c).1, strV (atE L' c).2], .agg #[.int .i64 (atE L' j).1, strV (atE L' j).2]] w fun e w' => e = .returned (.bool D) ∧ Below w.heap.size w w' := fun w => by rw [← hD]; exact ka0 _ _ w
          have HD : Bx (ahE false (atE L' c) (atE L' j) = D) := ⟨hD⟩
          clear hD ka0
          generalize (atE L' c).1 = r1 at *
          generalize (atE L' c).2 = s1 at *
          generalize (atE L' j).1 = r2 at *
          generalize (atE L' j).2 = s2 at *
          have q0 := cell_regrown c0
          have q2 := cell_regrown c2
          have q3 := cell_regrown e0
          have q4 := cell_regrown e1
          have q5 := cell_regrown d0
          have q6 := cell_regrown d1
          clear c0 c2 e0 e1 d0 d1
          go_wp2_with fail
          refine wp_region_quiet_below (by kernel_rfl) (by kernel_rfl) ?_
          repeat (go_big_quiet_step (first | (go_at_call 39; with_reducible exact Calls.regrown_of (ka _))))
          refine wpQuiet_nil ?_
          intro _ hw'
          obtain ⟨⟨dq, osq⟩, hw''⟩ := hw'
          subst hw''
          have HG : Bx (DownIn w (Go.Sort.grow (redrawn w1 dq) osq) hb mb (.slice (some ⟨g, 0, none⟩) N cap) false N Z M j L' mv') := ⟨HF.out.grow dq osq⟩
          generalize Go.Sort.grow (redrawn w1 dq) osq = w3 at *
          clear q0 q2 q3 q4 q5 q6 ka
          cases D
          · have hE := downH_stop (by rw [HN.out]; omega) HK.out HD.out
            have HE : Bx (L' = Z ∧ mv' = M) := ⟨by rw [← HG.out.z, hE], by rw [← HG.out.m, hE]; rfl⟩
            clear hE
            go_wp2
            refine bodyPost_ret (results_none rfl _ _ _) rfl ?_
            exact ⟨rfl, by rw [← HE.out.1, ← HE.out.2]; exact HG.out.h, HG.out.t⟩
          · have hE := downH_go (by rw [HN.out]; omega) HK.out HD.out
            have hm := HG.out.m
            rw [hE] at hm
            have hm2 : mv' + ((downH false (swE L' j c) c).2 + 1) = M := hm
            have kc := change_any hb mb _ L' false mv' j c w3 HG.out.h (by rw [HG.out.n]; omega) (by rw [HG.out.n]; omega) (by omega) (by rw [HG.out.n]; exact hL) (by omega)
            have HE : Bx (downH false L' j = ((downH false (swE L' j c) c).1, (downH false (swE L' j c) c).2 + 1)) := ⟨hE⟩
            have HM : Bx _ := ⟨hm2⟩
            clear hE hm hm2
            go_wp2_with fail
            refine kc.mono ?_
            rintro e w4 ⟨rfl, h2, t2⟩
            have HH : Bx (DownIn w w4 hb mb (.slice (some ⟨g, 0, none⟩) N cap) false N Z M c (swE L' j c) (mv' + 1)) := ⟨⟨h2, by rw [← HG.out.z, HE.out], by have := HM.out; omega, by rw [swE_len]; exact HG.out.n, HG.out.t.trans t2⟩⟩
            clear kc h2 t2 HE HG
            go_wp2_with fail
            exact ⟨⟨c, rfl, by omega, _, _, HH⟩, by simp only [intOf]; omega⟩
      · have z8 : decide (c < N) = false := decide_eq_false (by omega)
        have z9 : decide (N ≤ a) = false := decide_eq_false (by omega)
        have HK : Bx (kidE false L' j = a) := ⟨by unfold kidE; rw [HN.out, if_neg (by simp; omega)]; exact HAC.out.1⟩
        have q0 := cell_regrown c0
        go_wp2_with fail
        refine wp_region_quiet_below (by kernel_rfl) (by kernel_rfl) ?_
        repeat (go_big_quiet_step (fail))
        refine wpQuiet_nil ?_
        intro _ hw'
        obtain ⟨⟨dq, osq⟩, hw''⟩ := hw'
        subst hw''
        have HF2 : Bx (DownIn w (Go.Sort.grow (redrawn wr dq) osq) hb mb (.slice (some ⟨g, 0, none⟩) N cap) false N Z M j L' mv' ∧ (Go.Sort.grow (redrawn wr dq) osq).ownsRow 0 117 2 (.slice (some ⟨g, 0, none⟩) N cap) N (entC L')) := ⟨HF.out.grow dq osq, own_below HO.out (below_regrown wr dq osq)⟩
        generalize Go.Sort.grow (redrawn wr dq) osq = w1 at *
        clear q0 c0 c2 HF HO
        have HF : Bx _ := ⟨HF2.out.1⟩
        have HO : Bx _ := ⟨HF2.out.2⟩
        clear HF2
        obtain ⟨e0, e1⟩ := ent_cells HO.out HN.out.symm (i := a) (by rw [HN.out]; omega)
        obtain ⟨d0, d1⟩ := ent_cells HO.out HN.out.symm (i := j) (by rw [HN.out]; omega)
        have c0 := HF.out.h.cell0
        have c2 : w1.cell? ⟨hb, 2, none⟩ = some (.func (.func 39) #[] #[]) := HF.out.h.cell2
        obtain ⟨D, hD⟩ : ∃ D, ahE false (atE L' a) (atE L' j) = D := ⟨_, rfl⟩
        have ka0 := fun (a b : Ent) w => least_any a.1 b.1 a.2 b.2 w
        have ka : ∀ w, Calls Tryz.prog 39 #[.agg #[.int .i64 (atE L' a).1, strV (atE L' a).2], .agg #[.int .i64 (atE L' j).1, strV (atE L' j).2]] w fun e w' => e = .returned (.bool D) ∧ Below w.heap.size w w' := fun w => by rw [← hD]; exact ka0 _ _ w
        have HD : Bx (ahE false (atE L' a) (atE L' j) = D) := ⟨hD⟩
        clear hD ka0
        generalize (atE L' a).1 = r1 at *
        generalize (atE L' a).2 = s1 at *
        generalize (atE L' j).1 = r2 at *
        generalize (atE L' j).2 = s2 at *
        have q0 := cell_regrown c0
        have q2 := cell_regrown c2
        have q3 := cell_regrown e0
        have q4 := cell_regrown e1
        have q5 := cell_regrown d0
        have q6 := cell_regrown d1
        clear c0 c2 e0 e1 d0 d1
        go_wp2_with fail
        refine wp_region_quiet_below (by kernel_rfl) (by kernel_rfl) ?_
        repeat (go_big_quiet_step (first | (go_at_call 39; with_reducible exact Calls.regrown_of (ka _))))
        refine wpQuiet_nil ?_
        intro _ hw'
        obtain ⟨⟨dq, osq⟩, hw''⟩ := hw'
        subst hw''
        have HG : Bx (DownIn w (Go.Sort.grow (redrawn w1 dq) osq) hb mb (.slice (some ⟨g, 0, none⟩) N cap) false N Z M j L' mv') := ⟨HF.out.grow dq osq⟩
        generalize Go.Sort.grow (redrawn w1 dq) osq = w3 at *
        clear q0 q2 q3 q4 q5 q6 ka
        cases D
        · have hE := downH_stop (by rw [HN.out]; omega) HK.out HD.out
          have HE : Bx (L' = Z ∧ mv' = M) := ⟨by rw [← HG.out.z, hE], by rw [← HG.out.m, hE]; rfl⟩
          clear hE
          go_wp2
          refine bodyPost_ret (results_none rfl _ _ _) rfl ?_
          exact ⟨rfl, by rw [← HE.out.1, ← HE.out.2]; exact HG.out.h, HG.out.t⟩
        · have hE := downH_go (by rw [HN.out]; omega) HK.out HD.out
          have hm := HG.out.m
          rw [hE] at hm
          have hm2 : mv' + ((downH false (swE L' j a) a).2 + 1) = M := hm
          have kc := change_any hb mb _ L' false mv' j a w3 HG.out.h (by rw [HG.out.n]; omega) (by rw [HG.out.n]; omega) (by omega) (by rw [HG.out.n]; exact hL) (by omega)
          have HE : Bx (downH false L' j = ((downH false (swE L' j a) a).1, (downH false (swE L' j a) a).2 + 1)) := ⟨hE⟩
          have HM : Bx _ := ⟨hm2⟩
          clear hE hm hm2
          go_wp2_with fail
          refine kc.mono ?_
          rintro e w4 ⟨rfl, h2, t2⟩
          have HH : Bx (DownIn w w4 hb mb (.slice (some ⟨g, 0, none⟩) N cap) false N Z M a (swE L' j a) (mv' + 1)) := ⟨⟨h2, by rw [← HG.out.z, HE.out], by have := HM.out; omega, by rw [swE_len]; exact HG.out.n, HG.out.t.trans t2⟩⟩
          clear kc h2 t2 HE HG
          go_wp2_with fail
          exact ⟨⟨a, rfl, by omega, _, _, HH⟩, by simp only [intOf]; omega⟩
    · have hE := downH_end (mo := false) (L := L') (i := j) (by rw [HN.out]; omega)
      have HE : Bx (L' = Z ∧ mv' = M) := ⟨by rw [← HF.out.z, hE], by rw [← HF.out.m, hE]; rfl⟩
      have z8 : decide (N ≤ a) = true := decide_eq_true (by omega)
      clear hE
      go_wp2
      refine bodyPost_ret (results_none rfl _ _ _) rfl ?_
      exact ⟨rfl, by rw [← HE.out.1, ← HE.out.2]; exact HF.out.h, HF.out.t⟩
set_option maxHeartbeats 8000000 in
set_option maxRecDepth 100000 in
theorem down_true (hb mb : Nat) (v : Value) (L : List Ent) (mv i : Nat) (w : World) (hH : HeapAt w hb mb v L true mv) (hi : i < L.length) (hL : L.length ≤ 1152921504606846976) (hmv : mv + (downH true L i).2 ≤ 1152921504606846976) :
    Calls Tryz.prog 127 #[.pointer (some ⟨hb, 0, none⟩), .int .i64 i] w fun e w' => e = .returned (.tuple #[]) ∧ HeapAt w' hb mb v (downH true L i).1 true (mv + (downH true L i).2) ∧ Turned (foot hb mb v) w w' := by
  obtain ⟨Z, hZ⟩ : ∃ Z, (downH true L i).1 = Z := ⟨_, rfl⟩
  obtain ⟨M, hM⟩ : ∃ M, mv + (downH true L i).2 = M := ⟨_, rfl⟩
  rw [hM] at hmv
  rw [hZ, hM]
  obtain ⟨N, hN⟩ : ∃ N, L.length = N := ⟨_, rfl⟩
  rw [hN] at hi hL
  have HI0 : Bx (DownIn w w hb mb v true N Z M i L mv) := ⟨hH, hZ, hM, hN, Turned.refl _ _⟩
  clear hH hZ hM hN
  go_enter Tryz.func127, Tryz.ntmps127
  go_wp2_with fail
  go_loopw [1] (fun i wr => ∃ k : Nat, i = .int .i64 k ∧ k < N ∧ ∃ L' mv', Bx (DownIn w wr hb mb v true N Z M k L' mv')) (fun i _ => N - (intOf i).toNat)
  case atStart => exact ⟨i, rfl, hi, L, mv, HI0⟩
  case round =>
    obtain ⟨j, rfl, hj, L', mv', HF⟩ := hrel
    clear HI0
    obtain ⟨g, cap, hv, ho⟩ := HF.out.h.row.some (by rw [HF.out.n]; omega)
    have hn := HF.out.n
    rw [hn] at ho hv
    subst hv
    have HO : Bx _ := ⟨ho⟩
    have HN : Bx (L'.length = N) := ⟨hn⟩
    clear ho hn
    obtain ⟨a, ha⟩ : ∃ a : Nat, 2 * j + 1 = a := ⟨_, rfl⟩
    obtain ⟨c, hc⟩ : ∃ c : Nat, 2 * j + 2 = c := ⟨_, rfl⟩
    have HAC : Bx (2 * j + 1 = a ∧ 2 * j + 2 = c) := ⟨ha, hc⟩
    have z1 : 2 * (j : Int) + 1 = (a : Int) := by omega
    have z2 : (a : Int) + 1 = (c : Int) := by omega
    have c0 := HF.out.h.cell0
    rcases Nat.lt_or_ge a N with haN | haN
    · have z3 : IntKind.i64.wrap (c : Int) = c := IntWalk.i64_in _ (by omega)
      have z4 : IntKind.i64.wrap ((a : Int) + 1) = c := by rw [z2]; exact z3
      have z5 : j ≤ a := by omega
      have z6 : j < c := by omega
      have z7 : j ≠ a := by omega
      have c2 : wr.cell? ⟨hb, 2, none⟩ = some (.func (.func 40) #[] #[]) := HF.out.h.cell2
      rcases Nat.lt_or_ge c N with hcN | hcN
      · have z8 : decide (c < N) = true := decide_eq_true (by omega)
        have z9 : decide (N ≤ a) = false := decide_eq_false (by omega)
        obtain ⟨e0, e1⟩ := ent_cells HO.out HN.out.symm (i := c) (by rw [HN.out]; omega)
        obtain ⟨d0, d1⟩ := ent_cells HO.out HN.out.symm (i := a) (by rw [HN.out]; omega)
        obtain ⟨D, hD⟩ : ∃ D, ahE true (atE L' c) (atE L' a) = D := ⟨_, rfl⟩
        have ka0 := fun (a b : Ent) w => most_any a.1 b.1 a.2 b.2 w
        have ka : ∀ w, Calls Tryz.prog 40 #[.agg #[.int .i64 (atE L' c).1, strV (atE L' c).2], .agg #[.int .i64 (atE L' a).1, strV (atE L' a).2]] w fun e w' => e = .returned (.bool D) ∧ Below w.heap.size w w' := fun w => by rw [← hD]; exact ka0 _ _ w
        have HD : Bx (ahE true (atE L' c) (atE L' a) = D) := ⟨hD⟩
        clear hD ka0
        generalize (atE L' c).1 = r1 at *
        generalize (atE L' c).2 = s1 at *
        generalize (atE L' a).1 = r2 at *
        generalize (atE L' a).2 = s2 at *
        have q0 := cell_regrown c0
        have q2 := cell_regrown c2
        have q3 := cell_regrown e0
        have q4 := cell_regrown e1
        have q5 := cell_regrown d0
        have q6 := cell_regrown d1
        clear e0 e1 d0 d1
        go_wp2_with fail
        refine wp_region_quiet_below (by kernel_rfl) (by kernel_rfl) ?_
        repeat (go_big_quiet_step (first | (go_at_call 40; with_reducible exact Calls.regrown_of (ka _))))
        refine wpQuiet_nil ?_
        intro _ hw'
        obtain ⟨⟨dq, osq⟩, hw''⟩ := hw'
        subst hw''
        have HF2 : Bx (DownIn w (Go.Sort.grow (redrawn wr dq) osq) hb mb (.slice (some ⟨g, 0, none⟩) N cap) true N Z M j L' mv' ∧ (Go.Sort.grow (redrawn wr dq) osq).ownsRow 0 117 2 (.slice (some ⟨g, 0, none⟩) N cap) N (entC L')) := ⟨HF.out.grow dq osq, own_below HO.out (below_regrown wr dq osq)⟩
        generalize Go.Sort.grow (redrawn wr dq) osq = w1 at *
        clear q0 q2 q3 q4 q5 q6 ka c0 c2 HF HO
        have HF : Bx _ := ⟨HF2.out.1⟩
        have HO : Bx _ := ⟨HF2.out.2⟩
        clear HF2
        have hkd : kidE true L' j = if D then c else a := by
          unfold kidE
          rw [HN.out, HAC.out.1, HAC.out.2, HD.out, z8]
          cases D <;> rfl
        cases D
        · have HK : Bx (kidE true L' j = a) := ⟨hkd⟩
          clear hkd HD
          obtain ⟨e0, e1⟩ := ent_cells HO.out HN.out.symm (i := a) (by rw [HN.out]; omega)
          obtain ⟨d0, d1⟩ := ent_cells HO.out HN.out.symm (i := j) (by rw [HN.out]; omega)
          have c0 := HF.out.h.cell0
          have c2 : w1.cell? ⟨hb, 2, none⟩ = some (.func (.func 40) #[] #[]) := HF.out.h.cell2
          obtain ⟨D, hD⟩ : ∃ D, ahE true (atE L' a) (atE L' j) = D := ⟨_, rfl⟩
          have ka0 := fun (a b : Ent) w => most_any a.1 b.1 a.2 b.2 w
          have ka : ∀ w, Calls Tryz.prog 40 #[.agg #[.int .i64 (atE L' a).1, strV (atE L' a).2], .agg #[.int .i64 (atE L' j).1, strV (atE L' j).2]] w fun e w' => e = .returned (.bool D) ∧ Below w.heap.size w w' := fun w => by rw [← hD]; exact ka0 _ _ w
          have HD : Bx (ahE true (atE L' a) (atE L' j) = D) := ⟨hD⟩
          clear hD ka0
          generalize (atE L' a).1 = r1 at *
          generalize (atE L' a).2 = s1 at *
          generalize (atE L' j).1 = r2 at *
          generalize (atE L' j).2 = s2 at *
          have q0 := cell_regrown c0
          have q2 := cell_regrown c2
          have q3 := cell_regrown e0
          have q4 := cell_regrown e1
          have q5 := cell_regrown d0
          have q6 := cell_regrown d1
          clear c0 c2 e0 e1 d0 d1
          go_wp2_with fail
          refine wp_region_quiet_below (by kernel_rfl) (by kernel_rfl) ?_
          repeat (go_big_quiet_step (first | (go_at_call 40; with_reducible exact Calls.regrown_of (ka _))))
          refine wpQuiet_nil ?_
          intro _ hw'
          obtain ⟨⟨dq, osq⟩, hw''⟩ := hw'
          subst hw''
          have HG : Bx (DownIn w (Go.Sort.grow (redrawn w1 dq) osq) hb mb (.slice (some ⟨g, 0, none⟩) N cap) true N Z M j L' mv') := ⟨HF.out.grow dq osq⟩
          generalize Go.Sort.grow (redrawn w1 dq) osq = w3 at *
          clear q0 q2 q3 q4 q5 q6 ka
          cases D
          · have hE := downH_stop (by rw [HN.out]; omega) HK.out HD.out
            have HE : Bx (L' = Z ∧ mv' = M) := ⟨by rw [← HG.out.z, hE], by rw [← HG.out.m, hE]; rfl⟩
            clear hE
            go_wp2
            refine bodyPost_ret (results_none rfl _ _ _) rfl ?_
            exact ⟨rfl, by rw [← HE.out.1, ← HE.out.2]; exact HG.out.h, HG.out.t⟩
          · have hE := downH_go (by rw [HN.out]; omega) HK.out HD.out
            have hm := HG.out.m
            rw [hE] at hm
            have hm2 : mv' + ((downH true (swE L' j a) a).2 + 1) = M := hm
            have kc := change_any hb mb _ L' true mv' j a w3 HG.out.h (by rw [HG.out.n]; omega) (by rw [HG.out.n]; omega) (by omega) (by rw [HG.out.n]; exact hL) (by omega)
            have HE : Bx (downH true L' j = ((downH true (swE L' j a) a).1, (downH true (swE L' j a) a).2 + 1)) := ⟨hE⟩
            have HM : Bx _ := ⟨hm2⟩
            clear hE hm hm2
            go_wp2_with fail
            refine kc.mono ?_
            rintro e w4 ⟨rfl, h2, t2⟩
            have HH : Bx (DownIn w w4 hb mb (.slice (some ⟨g, 0, none⟩) N cap) true N Z M a (swE L' j a) (mv' + 1)) := ⟨⟨h2, by rw [← HG.out.z, HE.out], by have := HM.out; omega, by rw [swE_len]; exact HG.out.n, HG.out.t.trans t2⟩⟩
            clear kc h2 t2 HE HG
            go_wp2_with fail
            exact ⟨⟨a, rfl, by omega, _, _, HH⟩, by simp only [intOf]; omega⟩
        · have HK : Bx (kidE true L' j = c) := ⟨hkd⟩
          clear hkd HD
          obtain ⟨e0, e1⟩ := ent_cells HO.out HN.out.symm (i := c) (by rw [HN.out]; omega)
          obtain ⟨d0, d1⟩ := ent_cells HO.out HN.out.symm (i := j) (by rw [HN.out]; omega)
          have c0 := HF.out.h.cell0
          have c2 : w1.cell? ⟨hb, 2, none⟩ = some (.func (.func 40) #[] #[]) := HF.out.h.cell2
          obtain ⟨D, hD⟩ : ∃ D, ahE true (atE L' c) (atE L' j) = D := ⟨_, rfl⟩
          have ka0 := fun (a b : Ent) w => most_any a.1 b.1 a.2 b.2 w
          have ka : ∀ w, Calls Tryz.prog 40 #[.agg #[.int .i64 (atE L' c).1, strV (atE L' c).2], .agg #[.int .i64 (atE L' j).1, strV (atE L' j).2]] w fun e w' => e = .returned (.bool D) ∧ Below w.heap.size w w' := fun w => by rw [← hD]; exact ka0 _ _ w
          have HD : Bx (ahE true (atE L' c) (atE L' j) = D) := ⟨hD⟩
          clear hD ka0
          generalize (atE L' c).1 = r1 at *
          generalize (atE L' c).2 = s1 at *
          generalize (atE L' j).1 = r2 at *
          generalize (atE L' j).2 = s2 at *
          have q0 := cell_regrown c0
          have q2 := cell_regrown c2
          have q3 := cell_regrown e0
          have q4 := cell_regrown e1
          have q5 := cell_regrown d0
          have q6 := cell_regrown d1
          clear c0 c2 e0 e1 d0 d1
          go_wp2_with fail
          refine wp_region_quiet_below (by kernel_rfl) (by kernel_rfl) ?_
          repeat (go_big_quiet_step (first | (go_at_call 40; with_reducible exact Calls.regrown_of (ka _))))
          refine wpQuiet_nil ?_
          intro _ hw'
          obtain ⟨⟨dq, osq⟩, hw''⟩ := hw'
          subst hw''
          have HG : Bx (DownIn w (Go.Sort.grow (redrawn w1 dq) osq) hb mb (.slice (some ⟨g, 0, none⟩) N cap) true N Z M j L' mv') := ⟨HF.out.grow dq osq⟩
          generalize Go.Sort.grow (redrawn w1 dq) osq = w3 at *
          clear q0 q2 q3 q4 q5 q6 ka
          cases D
          · have hE := downH_stop (by rw [HN.out]; omega) HK.out HD.out
            have HE : Bx (L' = Z ∧ mv' = M) := ⟨by rw [← HG.out.z, hE], by rw [← HG.out.m, hE]; rfl⟩
            clear hE
            go_wp2
            refine bodyPost_ret (results_none rfl _ _ _) rfl ?_
            exact ⟨rfl, by rw [← HE.out.1, ← HE.out.2]; exact HG.out.h, HG.out.t⟩
          · have hE := downH_go (by rw [HN.out]; omega) HK.out HD.out
            have hm := HG.out.m
            rw [hE] at hm
            have hm2 : mv' + ((downH true (swE L' j c) c).2 + 1) = M := hm
            have kc := change_any hb mb _ L' true mv' j c w3 HG.out.h (by rw [HG.out.n]; omega) (by rw [HG.out.n]; omega) (by omega) (by rw [HG.out.n]; exact hL) (by omega)
            have HE : Bx (downH true L' j = ((downH true (swE L' j c) c).1, (downH true (swE L' j c) c).2 + 1)) := ⟨hE⟩
            have HM : Bx _ := ⟨hm2⟩
            clear hE hm hm2
            go_wp2_with fail
            refine kc.mono ?_
            rintro e w4 ⟨rfl, h2, t2⟩
            have HH : Bx (DownIn w w4 hb mb (.slice (some ⟨g, 0, none⟩) N cap) true N Z M c (swE L' j c) (mv' + 1)) := ⟨⟨h2, by rw [← HG.out.z, HE.out], by have := HM.out; omega, by rw [swE_len]; exact HG.out.n, HG.out.t.trans t2⟩⟩
            clear kc h2 t2 HE HG
            go_wp2_with fail
            exact ⟨⟨c, rfl, by omega, _, _, HH⟩, by simp only [intOf]; omega⟩
      · have z8 : decide (c < N) = false := decide_eq_false (by omega)
        have z9 : decide (N ≤ a) = false := decide_eq_false (by omega)
        have HK : Bx (kidE true L' j = a) := ⟨by unfold kidE; rw [HN.out, if_neg (by simp; omega)]; exact HAC.out.1⟩
        have q0 := cell_regrown c0
        go_wp2_with fail
        refine wp_region_quiet_below (by kernel_rfl) (by kernel_rfl) ?_
        repeat (go_big_quiet_step (fail))
        refine wpQuiet_nil ?_
        intro _ hw'
        obtain ⟨⟨dq, osq⟩, hw''⟩ := hw'
        subst hw''
        have HF2 : Bx (DownIn w (Go.Sort.grow (redrawn wr dq) osq) hb mb (.slice (some ⟨g, 0, none⟩) N cap) true N Z M j L' mv' ∧ (Go.Sort.grow (redrawn wr dq) osq).ownsRow 0 117 2 (.slice (some ⟨g, 0, none⟩) N cap) N (entC L')) := ⟨HF.out.grow dq osq, own_below HO.out (below_regrown wr dq osq)⟩
        generalize Go.Sort.grow (redrawn wr dq) osq = w1 at *
        clear q0 c0 c2 HF HO
        have HF : Bx _ := ⟨HF2.out.1⟩
        have HO : Bx _ := ⟨HF2.out.2⟩
        clear HF2
        obtain ⟨e0, e1⟩ := ent_cells HO.out HN.out.symm (i := a) (by rw [HN.out]; omega)
        obtain ⟨d0, d1⟩ := ent_cells HO.out HN.out.symm (i := j) (by rw [HN.out]; omega)
        have c0 := HF.out.h.cell0
        have c2 : w1.cell? ⟨hb, 2, none⟩ = some (.func (.func 40) #[] #[]) := HF.out.h.cell2
        obtain ⟨D, hD⟩ : ∃ D, ahE true (atE L' a) (atE L' j) = D := ⟨_, rfl⟩
        have ka0 := fun (a b : Ent) w => most_any a.1 b.1 a.2 b.2 w
        have ka : ∀ w, Calls Tryz.prog 40 #[.agg #[.int .i64 (atE L' a).1, strV (atE L' a).2], .agg #[.int .i64 (atE L' j).1, strV (atE L' j).2]] w fun e w' => e = .returned (.bool D) ∧ Below w.heap.size w w' := fun w => by rw [← hD]; exact ka0 _ _ w
        have HD : Bx (ahE true (atE L' a) (atE L' j) = D) := ⟨hD⟩
        clear hD ka0
        generalize (atE L' a).1 = r1 at *
        generalize (atE L' a).2 = s1 at *
        generalize (atE L' j).1 = r2 at *
        generalize (atE L' j).2 = s2 at *
        have q0 := cell_regrown c0
        have q2 := cell_regrown c2
        have q3 := cell_regrown e0
        have q4 := cell_regrown e1
        have q5 := cell_regrown d0
        have q6 := cell_regrown d1
        clear c0 c2 e0 e1 d0 d1
        go_wp2_with fail
        refine wp_region_quiet_below (by kernel_rfl) (by kernel_rfl) ?_
        repeat (go_big_quiet_step (first | (go_at_call 40; with_reducible exact Calls.regrown_of (ka _))))
        refine wpQuiet_nil ?_
        intro _ hw'
        obtain ⟨⟨dq, osq⟩, hw''⟩ := hw'
        subst hw''
        have HG : Bx (DownIn w (Go.Sort.grow (redrawn w1 dq) osq) hb mb (.slice (some ⟨g, 0, none⟩) N cap) true N Z M j L' mv') := ⟨HF.out.grow dq osq⟩
        generalize Go.Sort.grow (redrawn w1 dq) osq = w3 at *
        clear q0 q2 q3 q4 q5 q6 ka
        cases D
        · have hE := downH_stop (by rw [HN.out]; omega) HK.out HD.out
          have HE : Bx (L' = Z ∧ mv' = M) := ⟨by rw [← HG.out.z, hE], by rw [← HG.out.m, hE]; rfl⟩
          clear hE
          go_wp2
          refine bodyPost_ret (results_none rfl _ _ _) rfl ?_
          exact ⟨rfl, by rw [← HE.out.1, ← HE.out.2]; exact HG.out.h, HG.out.t⟩
        · have hE := downH_go (by rw [HN.out]; omega) HK.out HD.out
          have hm := HG.out.m
          rw [hE] at hm
          have hm2 : mv' + ((downH true (swE L' j a) a).2 + 1) = M := hm
          have kc := change_any hb mb _ L' true mv' j a w3 HG.out.h (by rw [HG.out.n]; omega) (by rw [HG.out.n]; omega) (by omega) (by rw [HG.out.n]; exact hL) (by omega)
          have HE : Bx (downH true L' j = ((downH true (swE L' j a) a).1, (downH true (swE L' j a) a).2 + 1)) := ⟨hE⟩
          have HM : Bx _ := ⟨hm2⟩
          clear hE hm hm2
          go_wp2_with fail
          refine kc.mono ?_
          rintro e w4 ⟨rfl, h2, t2⟩
          have HH : Bx (DownIn w w4 hb mb (.slice (some ⟨g, 0, none⟩) N cap) true N Z M a (swE L' j a) (mv' + 1)) := ⟨⟨h2, by rw [← HG.out.z, HE.out], by have := HM.out; omega, by rw [swE_len]; exact HG.out.n, HG.out.t.trans t2⟩⟩
          clear kc h2 t2 HE HG
          go_wp2_with fail
          exact ⟨⟨a, rfl, by omega, _, _, HH⟩, by simp only [intOf]; omega⟩
    · have hE := downH_end (mo := true) (L := L') (i := j) (by rw [HN.out]; omega)
      have HE : Bx (L' = Z ∧ mv' = M) := ⟨by rw [← HF.out.z, hE], by rw [← HF.out.m, hE]; rfl⟩
      have z8 : decide (N ≤ a) = true := decide_eq_true (by omega)
      clear hE
      go_wp2
      refine bodyPost_ret (results_none rfl _ _ _) rfl ?_
      exact ⟨rfl, by rw [← HE.out.1, ← HE.out.2]; exact HF.out.h, HF.out.t⟩
end Go.Proofs.YtaolkcbbkanhbaaGreatDoor
