/- The document's heap: up, down, mend. (Rows of the program's heap turned to the document's.) -/
import Derived.Test.YtlodgmmhaolmaaaDoorRfA
set_option linter.unusedSimpArgs false
set_option linter.unusedVariables false
namespace Go.Proofs.YtlodgmmhaolmaaaDoor
open Go.RowKit
/-- what up is about, from a place on -/
structure RUp (w wr : World) (mb : Nat) (v : Value) (mo : Bool) (N : Nat) (Z : List Ent) (M k : Nat) (L : List Ent) (mv : Nat) : Prop where
  h : RefAt wr mb v L mo mv
  z : (upH mo L k).1 = Z
  m : mv + (upH mo L k).2 = M
  n : L.length = N
  t : Turned (rfoot mb v) w wr
set_option maxHeartbeats 4000000 in
set_option maxRecDepth 100000 in
theorem rup_any (mb : Nat) (v : Value) (L : List Ent) (mo : Bool) (mv i : Nat) (w : World) (hH : RefAt w mb v L mo mv) (hi : i < L.length) (hL : L.length ≤ 1152921504606846976) (hmv : mv + (upH mo L i).2 ≤ 1152921504606846976) :
    Calls Tryd.prog 69 #[.pointer (some ⟨mb, 0, none⟩), .int .i64 i] w fun e w' => e = .returned (.tuple #[]) ∧ RefAt w' mb v (upH mo L i).1 mo (mv + (upH mo L i).2) ∧ Turned (rfoot mb v) w w' := by
  obtain ⟨Z, hZ⟩ : ∃ Z, (upH mo L i).1 = Z := ⟨_, rfl⟩
  obtain ⟨M, hM⟩ : ∃ M, mv + (upH mo L i).2 = M := ⟨_, rfl⟩
  rw [hM] at hmv
  rw [hZ, hM]
  obtain ⟨N, hN⟩ : ∃ N, L.length = N := ⟨_, rfl⟩
  rw [hN] at hi hL
  have HI0 : Bx (RUp w w mb v mo N Z M i L mv) := ⟨hH, hZ, hM, hN, Turned.refl _ _⟩
  clear hH hZ hM hN
  go_enter Tryd.func69, Tryd.ntmps69
  go_wp2_with fail
  go_loopw [1] (fun i wr => ∃ k : Nat, i = .int .i64 k ∧ k < N ∧ ∃ L' mv', Bx (RUp w wr mb v mo N Z M k L' mv')) (fun i _ => (intOf i).toNat)
  case atStart => exact ⟨i, rfl, hi, L, mv, HI0⟩
  case round =>
    obtain ⟨k, rfl, hk, L', mv', HI⟩ := hrel
    clear HI0
    cases k with
    | zero =>
      have hE := upH_stop (mo := mo) (L := L') (i := 0) (by simp)
      have HE : Bx (L' = Z ∧ mv' = M) := ⟨by rw [← HI.out.z, hE], by rw [← HI.out.m, hE]; rfl⟩
      clear hE
      go_wp2_with fail
      refine wp_region_quiet_below (by kernel_rfl) (by kernel_rfl) ?_
      repeat (go_big_quiet_step (fail))
      refine wpQuiet_nil ?_
      intro _ hw'
      obtain ⟨⟨dq, osq⟩, hw''⟩ := hw'
      subst hw''
      have HF : Bx (RefAt (Go.Sort.grow (redrawn wr dq) osq) mb v Z mo M ∧ Turned (rfoot mb v) w (Go.Sort.grow (redrawn wr dq) osq)) := ⟨by rw [← HE.out.1, ← HE.out.2]; exact HI.out.h.below (below_regrown wr dq osq), HI.out.t.trans (Turned.ofBelow (below_regrown wr dq osq))⟩
      generalize Go.Sort.grow (redrawn wr dq) osq = w1 at *
      go_wp2
      go_end0
      exact ⟨rfl, HF.out⟩
    | succ j =>
      obtain ⟨g, cap, rfl, ho⟩ := HI.out.h.row.some (by rw [HI.out.n]; omega)
      obtain ⟨e0, e1⟩ := ent_cells ho rfl (i := j + 1) (by rw [HI.out.n]; omega)
      obtain ⟨d0, d1⟩ := ent_cells ho rfl (i := j / 2) (by rw [HI.out.n]; omega)
      have c0 := HI.out.h.cell0
      have c2 : wr.cell? ⟨mb, 1, none⟩ = some (.bool mo) := HI.out.h.cell1
      rw [HI.out.n] at c0
      obtain ⟨C, hC⟩ : ∃ C, ahE mo (atE L' (j + 1)) (atE L' (j / 2)) = C := ⟨_, rfl⟩
      have ka0 := fun (a b : Ent) w => rahead_any mo a.1 b.1 a.2 b.2 w
      have ka : ∀ w, Calls Tryd.prog 67 #[.bool mo, .agg #[.int .i64 (atE L' (j + 1)).1, strV (atE L' (j + 1)).2], .agg #[.int .i64 (atE L' (j / 2)).1, strV (atE L' (j / 2)).2]] w fun e w' => e = .returned (.bool C) ∧ Below w.heap.size w w' := fun w => by rw [← hC]; exact ka0 _ _ w
      have HC : Bx (ahE mo (atE L' (j + 1)) (atE L' (j / 2)) = C) := ⟨hC⟩
      clear hC ka0 ho
      generalize (atE L' (j + 1)).1 = r1 at *
      generalize (atE L' (j + 1)).2 = s1 at *
      generalize (atE L' (j / 2)).1 = r2 at *
      generalize (atE L' (j / 2)).2 = s2 at *
      obtain ⟨q, hq⟩ : ∃ q, j / 2 = q := ⟨_, rfl⟩
      have HQ : Bx (j / 2 = q) := ⟨hq⟩
      rw [hq] at d0 d1
      have hqN : q < N := by omega
      have hq1 : (0 : Int) ≤ q := by omega
      have b1 : IntKind.i64.wrap ((j : Int) + 1) = j + 1 := IntWalk.i64_in _ (by omega)
      have b2 : ((j : Int) / 2) = (q : Int) := by omega
      have b3 : ((j : Int).tdiv 2) = (q : Int) := by rw [Int.tdiv_eq_ediv_of_nonneg (by omega)]; exact b2
      have b4 : IntKind.i64.wrap (j : Int) = j := IntWalk.i64_in _ (by omega)
      have b5 : IntKind.i64.wrap (q : Int) = q := IntWalk.i64_in _ (by omega)
      clear hq
      have q0 := cell_regrown c0
      have q2 := cell_regrown c2
      have q3 := cell_regrown e0
      have q4 := cell_regrown e1
      have q5 := cell_regrown d0
      have q6 := cell_regrown d1
      clear c0 c2 e0 e1 d0 d1
      go_wp2_with fail
      refine wp_region_quiet_below (by kernel_rfl) (by kernel_rfl) ?_
      repeat (go_big_quiet_step (first | (go_at_call 67; with_reducible exact Calls.regrown_of (ka _))))
      refine wpQuiet_nil ?_
      intro _ hw'
      obtain ⟨⟨dq, osq⟩, hw''⟩ := hw'
      subst hw''
      have HF : Bx (RUp w (Go.Sort.grow (redrawn wr dq) osq) mb (.slice (some ⟨g, 0, none⟩) L'.length cap) mo N Z M (j + 1) L' mv') := ⟨⟨HI.out.h.below (below_regrown wr dq osq), HI.out.z, HI.out.m, HI.out.n, HI.out.t.trans (Turned.ofBelow (below_regrown wr dq osq))⟩⟩
      generalize Go.Sort.grow (redrawn wr dq) osq = w1 at *
      clear q0 q2 q3 q4 q5 q6 HI ka
      have hj2 : (j + 1 - 1) / 2 = j / 2 := by rw [Nat.add_sub_cancel]
      cases C
      · have hE := upH_stop (mo := mo) (L := L') (i := j + 1) (by rw [hj2, HC.out]; simp)
        have HE : Bx (L' = Z ∧ mv' = M) := ⟨by rw [← HF.out.z, hE], by rw [← HF.out.m, hE]; rfl⟩
        clear hE hj2
        go_wp2
        go_end0
        exact ⟨rfl, by rw [← HE.out.1, ← HE.out.2]; exact HF.out.h, HF.out.t⟩
      · have hE := upH_go (mo := mo) (L := L') (i := j + 1) (by rw [hj2, HC.out]; simp)
        rw [hj2, HQ.out] at hE
        have hm := HF.out.m
        rw [hE] at hm
        have hm2 : mv' + ((upH mo (swE L' (j + 1) q) q).2 + 1) = M := hm
        have kc := rswap_any mb _ L' mo mv' (j + 1) q w1 HF.out.h (by rw [HF.out.n]; omega) (by rw [HF.out.n]; omega) (by omega) (by rw [HF.out.n]; exact hL) (by omega)
        have HE : Bx (upH mo L' (j + 1) = ((upH mo (swE L' (j + 1) q) q).1, (upH mo (swE L' (j + 1) q) q).2 + 1)) := ⟨hE⟩
        have HM : Bx _ := ⟨hm2⟩
        clear hE hm hm2 hj2
        go_wp2_with fail
        refine kc.mono ?_
        rintro e w2 ⟨rfl, h2, t2⟩
        have HG : Bx (RUp w w2 mb (.slice (some ⟨g, 0, none⟩) L'.length cap) mo N Z M q (swE L' (j + 1) q) (mv' + 1)) := ⟨⟨h2, by rw [← HF.out.z, HE.out], by have := HM.out; omega, by rw [swE_len]; exact HF.out.n, HF.out.t.trans t2⟩⟩
        clear kc h2 t2 HE HF
        go_wp2_with fail
        exact ⟨⟨q, rfl, hqN, _, _, HG⟩, by simp only [intOf]; omega⟩
/-- what down is about, from a place on -/
structure RDn (w wr : World) (mb : Nat) (v : Value) (mo : Bool) (N : Nat) (Z : List Ent) (M k : Nat) (L : List Ent) (mv : Nat) : Prop where
  h : RefAt wr mb v L mo mv
  z : (downH mo L k).1 = Z
  m : mv + (downH mo L k).2 = M
  n : L.length = N
  t : Turned (rfoot mb v) w wr
theorem RDn.grow {w wr : World} {mb : Nat} {v : Value} {mo : Bool} {N : Nat} {Z : List Ent} {M k : Nat} {L : List Ent} {mv : Nat} (h : RDn w wr mb v mo N Z M k L mv) (dq : Nat) (osq : Array Obj) : RDn w (Go.Sort.grow (redrawn wr dq) osq) mb v mo N Z M k L mv :=
  ⟨h.h.below (below_regrown wr dq osq), h.z, h.m, h.n, h.t.trans (Turned.ofBelow (below_regrown wr dq osq))⟩
set_option maxHeartbeats 8000000 in
set_option maxRecDepth 100000 in
theorem rdown_any (mb : Nat) (v : Value) (L : List Ent) (mo : Bool) (mv i : Nat) (w : World) (hH : RefAt w mb v L mo mv) (hi : i < L.length) (hL : L.length ≤ 1152921504606846976) (hmv : mv + (downH mo L i).2 ≤ 1152921504606846976) :
    Calls Tryd.prog 47 #[.pointer (some ⟨mb, 0, none⟩), .int .i64 i] w fun e w' => e = .returned (.tuple #[]) ∧ RefAt w' mb v (downH mo L i).1 mo (mv + (downH mo L i).2) ∧ Turned (rfoot mb v) w w' := by
  obtain ⟨Z, hZ⟩ : ∃ Z, (downH mo L i).1 = Z := ⟨_, rfl⟩
  obtain ⟨M, hM⟩ : ∃ M, mv + (downH mo L i).2 = M := ⟨_, rfl⟩
  rw [hM] at hmv
  rw [hZ, hM]
  obtain ⟨N, hN⟩ : ∃ N, L.length = N := ⟨_, rfl⟩
  rw [hN] at hi hL
  have HI0 : Bx (RDn w w mb v mo N Z M i L mv) := ⟨hH, hZ, hM, hN, Turned.refl _ _⟩
  clear hH hZ hM hN
  go_enter Tryd.func47, Tryd.ntmps47
  go_wp2_with fail
  go_loopw [1] (fun i wr => ∃ k : Nat, i = .int .i64 k ∧ k < N ∧ ∃ L' mv', Bx (RDn w wr mb v mo N Z M k L' mv')) (fun i _ => N - (intOf i).toNat)
  case atStart => exact ⟨i, rfl, hi, L, mv, HI0⟩
  case round =>
    obtain ⟨j, rfl, hj, L', mv', HF⟩ := hrel
    clear HI0
    obtain ⟨g, cap, hv, ho⟩ := HF.out.h.row.some (by rw [HF.out.n]; omega)
    have hn := HF.out.n
    rw [hn] at ho hv
    subst hv
    have HO : Bx _ := ⟨ho⟩
    have HN : Bx (L'.length = N) := ⟨hn⟩
    clear ho hn
    obtain ⟨a, ha⟩ : ∃ a : Nat, 2 * j + 1 = a := ⟨_, rfl⟩
    obtain ⟨c, hc⟩ : ∃ c : Nat, 2 * j + 2 = c := ⟨_, rfl⟩
    have HAC : Bx (2 * j + 1 = a ∧ 2 * j + 2 = c) := ⟨ha, hc⟩
    have z1 : 2 * (j : Int) + 1 = (a : Int) := by omega
    have z2 : (a : Int) + 1 = (c : Int) := by omega
    have c0 := HF.out.h.cell0
    rcases Nat.lt_or_ge a N with haN | haN
    · have z10 : decide (a < N) = true := decide_eq_true haN
      have z3 : IntKind.i64.wrap (c : Int) = c := IntWalk.i64_in _ (by omega)
      have z4 : IntKind.i64.wrap ((a : Int) + 1) = c := by rw [z2]; exact z3
      have z5 : j ≤ a := by omega
      have z6 : j < c := by omega
      have z7 : j ≠ a := by omega
      have c2 : wr.cell? ⟨mb, 1, none⟩ = some (.bool mo) := HF.out.h.cell1
      rcases Nat.lt_or_ge c N with hcN | hcN
      · have z8 : decide (c < N) = true := decide_eq_true (by omega)
        have z9 : decide (N ≤ a) = false := decide_eq_false (by omega)
        obtain ⟨e0, e1⟩ := ent_cells HO.out HN.out.symm (i := c) (by rw [HN.out]; omega)
        obtain ⟨d0, d1⟩ := ent_cells HO.out HN.out.symm (i := a) (by rw [HN.out]; omega)
        obtain ⟨D, hD⟩ : ∃ D, ahE mo (atE L' c) (atE L' a) = D := ⟨_, rfl⟩
        have ka0 := fun (a b : Ent) w => rahead_any mo a.1 b.1 a.2 b.2 w
        have ka : ∀ w, Calls Tryd.prog 67 #[.bool mo, .agg #[.int .i64 (atE L' c).1, strV (atE L' c).2], .agg #[.int .i64 (atE L' a).1, strV (atE L' a).2]] w fun e w' => e = .returned (.bool D) ∧ Below w.heap.size w w' := fun w => by rw [← hD]; exact ka0 _ _ w
        have HD : Bx (ahE mo (atE L' c) (atE L' a) = D) := ⟨hD⟩
        clear hD ka0
        generalize (atE L' c).1 = r1 at *
        generalize (atE L' c).2 = s1 at *
        generalize (atE L' a).1 = r2 at *
        generalize (atE L' a).2 = s2 at *
        have q0 := cell_regrown c0
        have q2 := cell_regrown c2
        have q3 := cell_regrown e0
        have q4 := cell_regrown e1
        have q5 := cell_regrown d0
        have q6 := cell_regrown d1
        clear e0 e1 d0 d1
        go_wp2_with fail
        refine wp_region_quiet_below (by kernel_rfl) (by kernel_rfl) ?_
        repeat (go_big_quiet_step (first | (go_at_call 67; with_reducible exact Calls.regrown_of (ka _))))
        refine wpQuiet_nil ?_
        intro _ hw'
        obtain ⟨⟨dq, osq⟩, hw''⟩ := hw'
        subst hw''
        have HF2 : Bx (RDn w (Go.Sort.grow (redrawn wr dq) osq) mb (.slice (some ⟨g, 0, none⟩) N cap) mo N Z M j L' mv' ∧ (Go.Sort.grow (redrawn wr dq) osq).ownsRow 0 27 2 (.slice (some ⟨g, 0, none⟩) N cap) N (entC L')) := ⟨HF.out.grow dq osq, own_below HO.out (below_regrown wr dq osq)⟩
        generalize Go.Sort.grow (redrawn wr dq) osq = w1 at *
        clear q0 q2 q3 q4 q5 q6 ka c0 c2 HF HO
        have HF : Bx _ := ⟨HF2.out.1⟩
        have HO : Bx _ := ⟨HF2.out.2⟩
        clear HF2
        have hkd : kidE mo L' j = if D then c else a := by
          unfold kidE
          rw [HN.out, HAC.out.1, HAC.out.2, HD.out, z8]
          cases D <;> rfl
        cases D
        · have HK : Bx (kidE mo L' j = a) := ⟨hkd⟩
          clear hkd HD
          obtain ⟨e0, e1⟩ := ent_cells HO.out HN.out.symm (i := a) (by rw [HN.out]; omega)
          obtain ⟨d0, d1⟩ := ent_cells HO.out HN.out.symm (i := j) (by rw [HN.out]; omega)
          have c0 := HF.out.h.cell0
          have c2 : w1.cell? ⟨mb, 1, none⟩ = some (.bool mo) := HF.out.h.cell1
          obtain ⟨D, hD⟩ : ∃ D, ahE mo (atE L' a) (atE L' j) = D := ⟨_, rfl⟩
          have ka0 := fun (a b : Ent) w => rahead_any mo a.1 b.1 a.2 b.2 w
          have ka : ∀ w, Calls Tryd.prog 67 #[.bool mo, .agg #[.int .i64 (atE L' a).1, strV (atE L' a).2], .agg #[.int .i64 (atE L' j).1, strV (atE L' j).2]] w fun e w' => e = .returned (.bool D) ∧ Below w.heap.size w w' := fun w => by rw [← hD]; exact ka0 _ _ w
          have HD : Bx (ahE mo (atE L' a) (atE L' j) = D) := ⟨hD⟩
          clear hD ka0
          generalize (atE L' a).1 = r1 at *
          generalize (atE L' a).2 = s1 at *
          generalize (atE L' j).1 = r2 at *
          generalize (atE L' j).2 = s2 at *
          have q0 := cell_regrown c0
          have q2 := cell_regrown c2
          have q3 := cell_regrown e0
          have q4 := cell_regrown e1
          have q5 := cell_regrown d0
          have q6 := cell_regrown d1
          clear c0 c2 e0 e1 d0 d1
          go_wp2_with fail
          refine wp_region_quiet_below (by kernel_rfl) (by kernel_rfl) ?_
          repeat (go_big_quiet_step (first | (go_at_call 67; with_reducible exact Calls.regrown_of (ka _))))
          refine wpQuiet_nil ?_
          intro _ hw'
          obtain ⟨⟨dq, osq⟩, hw''⟩ := hw'
          subst hw''
          have HG : Bx (RDn w (Go.Sort.grow (redrawn w1 dq) osq) mb (.slice (some ⟨g, 0, none⟩) N cap) mo N Z M j L' mv') := ⟨HF.out.grow dq osq⟩
          generalize Go.Sort.grow (redrawn w1 dq) osq = w3 at *
          clear q0 q2 q3 q4 q5 q6 ka
          cases D
          · have hE := downH_stop (by rw [HN.out]; omega) HK.out HD.out
            have HE : Bx (L' = Z ∧ mv' = M) := ⟨by rw [← HG.out.z, hE], by rw [← HG.out.m, hE]; rfl⟩
            clear hE
            go_wp2
            refine bodyPost_ret (results_none rfl _ _ _) rfl ?_
            exact ⟨rfl, by rw [← HE.out.1, ← HE.out.2]; exact HG.out.h, HG.out.t⟩
          · have hE := downH_go (by rw [HN.out]; omega) HK.out HD.out
            have hm := HG.out.m
            rw [hE] at hm
            have hm2 : mv' + ((downH mo (swE L' j a) a).2 + 1) = M := hm
            have kc := rswap_any mb _ L' mo mv' j a w3 HG.out.h (by rw [HG.out.n]; omega) (by rw [HG.out.n]; omega) (by omega) (by rw [HG.out.n]; exact hL) (by omega)
            have HE : Bx (downH mo L' j = ((downH mo (swE L' j a) a).1, (downH mo (swE L' j a) a).2 + 1)) := ⟨hE⟩
            have HM : Bx _ := ⟨hm2⟩
            clear hE hm hm2
            go_wp2_with fail
            refine kc.mono ?_
            rintro e w4 ⟨rfl, h2, t2⟩
            have HH : Bx (RDn w w4 mb (.slice (some ⟨g, 0, none⟩) N cap) mo N Z M a (swE L' j a) (mv' + 1)) := ⟨⟨h2, by rw [← HG.out.z, HE.out], by have := HM.out; omega, by rw [swE_len]; exact HG.out.n, HG.out.t.trans t2⟩⟩
            clear kc h2 t2 HE HG
            go_wp2_with fail
            exact ⟨⟨a, rfl, by omega, _, _, HH⟩, by simp only [intOf]; omega⟩
        · have HK : Bx (kidE mo L' j = c) := ⟨hkd⟩
          clear hkd HD
          obtain ⟨e0, e1⟩ := ent_cells HO.out HN.out.symm (i := c) (by rw [HN.out]; omega)
          obtain ⟨d0, d1⟩ := ent_cells HO.out HN.out.symm (i := j) (by rw [HN.out]; omega)
          have c0 := HF.out.h.cell0
          have c2 : w1.cell? ⟨mb, 1, none⟩ = some (.bool mo) := HF.out.h.cell1
          obtain ⟨D, hD⟩ : ∃ D, ahE mo (atE L' c) (atE L' j) = D := ⟨_, rfl⟩
          have ka0 := fun (a b : Ent) w => rahead_any mo a.1 b.1 a.2 b.2 w
          have ka : ∀ w, Calls Tryd.prog 67 #[.bool mo, .agg #[.int .i64 (atE L' c).1, strV (atE L' c).2], .agg #[.int .i64 (atE L' j).1, strV (atE L' j).2]] w fun e w' => e = .returned (.bool D) ∧ Below w.heap.size w w' := fun w => by rw [← hD]; exact ka0 _ _ w
          have HD : Bx (ahE mo (atE L' c) (atE L' j) = D) := ⟨hD⟩
          clear hD ka0
          generalize (atE L' c).1 = r1 at *
          generalize (atE L' c).2 = s1 at *
          generalize (atE L' j).1 = r2 at *
          generalize (atE L' j).2 = s2 at *
          have q0 := cell_regrown c0
          have q2 := cell_regrown c2
          have q3 := cell_regrown e0
          have q4 := cell_regrown e1
          have q5 := cell_regrown d0
          have q6 := cell_regrown d1
          clear c0 c2 e0 e1 d0 d1
          go_wp2_with fail
          refine wp_region_quiet_below (by kernel_rfl) (by kernel_rfl) ?_
          repeat (go_big_quiet_step (first | (go_at_call 67; with_reducible exact Calls.regrown_of (ka _))))
          refine wpQuiet_nil ?_
          intro _ hw'
          obtain ⟨⟨dq, osq⟩, hw''⟩ := hw'
          subst hw''
          have HG : Bx (RDn w (Go.Sort.grow (redrawn w1 dq) osq) mb (.slice (some ⟨g, 0, none⟩) N cap) mo N Z M j L' mv') := ⟨HF.out.grow dq osq⟩
          generalize Go.Sort.grow (redrawn w1 dq) osq = w3 at *
          clear q0 q2 q3 q4 q5 q6 ka
          cases D
          · have hE := downH_stop (by rw [HN.out]; omega) HK.out HD.out
            have HE : Bx (L' = Z ∧ mv' = M) := ⟨by rw [← HG.out.z, hE], by rw [← HG.out.m, hE]; rfl⟩
            clear hE
            go_wp2
            refine bodyPost_ret (results_none rfl _ _ _) rfl ?_
            exact ⟨rfl, by rw [← HE.out.1, ← HE.out.2]; exact HG.out.h, HG.out.t⟩
          · have hE := downH_go (by rw [HN.out]; omega) HK.out HD.out
            have hm := HG.out.m
            rw [hE] at hm
            have hm2 : mv' + ((downH mo (swE L' j c) c).2 + 1) = M := hm
            have kc := rswap_any mb _ L' mo mv' j c w3 HG.out.h (by rw [HG.out.n]; omega) (by rw [HG.out.n]; omega) (by omega) (by rw [HG.out.n]; exact hL) (by omega)
            have HE : Bx (downH mo L' j = ((downH mo (swE L' j c) c).1, (downH mo (swE L' j c) c).2 + 1)) := ⟨hE⟩
            have HM : Bx _ := ⟨hm2⟩
            clear hE hm hm2
            go_wp2_with fail
            refine kc.mono ?_
            rintro e w4 ⟨rfl, h2, t2⟩
            have HH : Bx (RDn w w4 mb (.slice (some ⟨g, 0, none⟩) N cap) mo N Z M c (swE L' j c) (mv' + 1)) := ⟨⟨h2, by rw [← HG.out.z, HE.out], by have := HM.out; omega, by rw [swE_len]; exact HG.out.n, HG.out.t.trans t2⟩⟩
            clear kc h2 t2 HE HG
            go_wp2_with fail
            exact ⟨⟨c, rfl, by omega, _, _, HH⟩, by simp only [intOf]; omega⟩
      · have z8 : decide (c < N) = false := decide_eq_false (by omega)
        have z9 : decide (N ≤ a) = false := decide_eq_false (by omega)
        have HK : Bx (kidE mo L' j = a) := ⟨by unfold kidE; rw [HN.out, if_neg (by simp; omega)]; exact HAC.out.1⟩
        have q0 := cell_regrown c0
        go_wp2_with fail
        refine wp_region_quiet_below (by kernel_rfl) (by kernel_rfl) ?_
        repeat (go_big_quiet_step (fail))
        refine wpQuiet_nil ?_
        intro _ hw'
        obtain ⟨⟨dq, osq⟩, hw''⟩ := hw'
        subst hw''
        have HF2 : Bx (RDn w (Go.Sort.grow (redrawn wr dq) osq) mb (.slice (some ⟨g, 0, none⟩) N cap) mo N Z M j L' mv' ∧ (Go.Sort.grow (redrawn wr dq) osq).ownsRow 0 27 2 (.slice (some ⟨g, 0, none⟩) N cap) N (entC L')) := ⟨HF.out.grow dq osq, own_below HO.out (below_regrown wr dq osq)⟩
        generalize Go.Sort.grow (redrawn wr dq) osq = w1 at *
        clear q0 c0 c2 HF HO
        have HF : Bx _ := ⟨HF2.out.1⟩
        have HO : Bx _ := ⟨HF2.out.2⟩
        clear HF2
        obtain ⟨e0, e1⟩ := ent_cells HO.out HN.out.symm (i := a) (by rw [HN.out]; omega)
        obtain ⟨d0, d1⟩ := ent_cells HO.out HN.out.symm (i := j) (by rw [HN.out]; omega)
        have c0 := HF.out.h.cell0
        have c2 : w1.cell? ⟨mb, 1, none⟩ = some (.bool mo) := HF.out.h.cell1
        obtain ⟨D, hD⟩ : ∃ D, ahE mo (atE L' a) (atE L' j) = D := ⟨_, rfl⟩
        have ka0 := fun (a b : Ent) w => rahead_any mo a.1 b.1 a.2 b.2 w
        have ka : ∀ w, Calls Tryd.prog 67 #[.bool mo, .agg #[.int .i64 (atE L' a).1, strV (atE L' a).2], .agg #[.int .i64 (atE L' j).1, strV (atE L' j).2]] w fun e w' => e = .returned (.bool D) ∧ Below w.heap.size w w' := fun w => by rw [← hD]; exact ka0 _ _ w
        have HD : Bx (ahE mo (atE L' a) (atE L' j) = D) := ⟨hD⟩
        clear hD ka0
        generalize (atE L' a).1 = r1 at *
        generalize (atE L' a).2 = s1 at *
        generalize (atE L' j).1 = r2 at *
        generalize (atE L' j).2 = s2 at *
        have q0 := cell_regrown c0
        have q2 := cell_regrown c2
        have q3 := cell_regrown e0
        have q4 := cell_regrown e1
        have q5 := cell_regrown d0
        have q6 := cell_regrown d1
        clear c0 c2 e0 e1 d0 d1
        go_wp2_with fail
        refine wp_region_quiet_below (by kernel_rfl) (by kernel_rfl) ?_
        repeat (go_big_quiet_step (first | (go_at_call 67; with_reducible exact Calls.regrown_of (ka _))))
        refine wpQuiet_nil ?_
        intro _ hw'
        obtain ⟨⟨dq, osq⟩, hw''⟩ := hw'
        subst hw''
        have HG : Bx (RDn w (Go.Sort.grow (redrawn w1 dq) osq) mb (.slice (some ⟨g, 0, none⟩) N cap) mo N Z M j L' mv') := ⟨HF.out.grow dq osq⟩
        generalize Go.Sort.grow (redrawn w1 dq) osq = w3 at *
        clear q0 q2 q3 q4 q5 q6 ka
        cases D
        · have hE := downH_stop (by rw [HN.out]; omega) HK.out HD.out
          have HE : Bx (L' = Z ∧ mv' = M) := ⟨by rw [← HG.out.z, hE], by rw [← HG.out.m, hE]; rfl⟩
          clear hE
          go_wp2
          refine bodyPost_ret (results_none rfl _ _ _) rfl ?_
          exact ⟨rfl, by rw [← HE.out.1, ← HE.out.2]; exact HG.out.h, HG.out.t⟩
        · have hE := downH_go (by rw [HN.out]; omega) HK.out HD.out
          have hm := HG.out.m
          rw [hE] at hm
          have hm2 : mv' + ((downH mo (swE L' j a) a).2 + 1) = M := hm
          have kc := rswap_any mb _ L' mo mv' j a w3 HG.out.h (by rw [HG.out.n]; omega) (by rw [HG.out.n]; omega) (by omega) (by rw [HG.out.n]; exact hL) (by omega)
          have HE : Bx (downH mo L' j = ((downH mo (swE L' j a) a).1, (downH mo (swE L' j a) a).2 + 1)) := ⟨hE⟩
          have HM : Bx _ := ⟨hm2⟩
          clear hE hm hm2
          go_wp2_with fail
          refine kc.mono ?_
          rintro e w4 ⟨rfl, h2, t2⟩
          have HH : Bx (RDn w w4 mb (.slice (some ⟨g, 0, none⟩) N cap) mo N Z M a (swE L' j a) (mv' + 1)) := ⟨⟨h2, by rw [← HG.out.z, HE.out], by have := HM.out; omega, by rw [swE_len]; exact HG.out.n, HG.out.t.trans t2⟩⟩
          clear kc h2 t2 HE HG
          go_wp2_with fail
          exact ⟨⟨a, rfl, by omega, _, _, HH⟩, by simp only [intOf]; omega⟩
    · have hE := downH_end (mo := mo) (L := L') (i := j) (by rw [HN.out]; omega)
      have HE : Bx (L' = Z ∧ mv' = M) := ⟨by rw [← HF.out.z, hE], by rw [← HF.out.m, hE]; rfl⟩
      have z10 : decide (a < N) = false := decide_eq_false (by omega)
      clear hE
      go_wp2
      go_end0
      exact ⟨rfl, by rw [← HE.out.1, ← HE.out.2]; exact HF.out.h, HF.out.t⟩
set_option maxHeartbeats 2000000 in
theorem rmend_any (mb : Nat) (v : Value) (L : List Ent) (mo : Bool) (i : Nat) (w : World) (hH : RefAt w mb v L mo 0) (hi : i < L.length) (hL : L.length ≤ 1152921504606846976) (hmv : (mendH mo L i).2 ≤ 1152921504606846976) :
    Calls Tryd.prog 70 #[.pointer (some ⟨mb, 0, none⟩), .int .i64 i] w fun e w' => e = .returned (.tuple #[]) ∧ RefAt w' mb v (mendH mo L i).1 mo (mendH mo L i).2 ∧ Turned (rfoot mb v) w w' := by
  have hu : 0 + (upH mo L i).2 ≤ 1152921504606846976 := by
    unfold mendH at hmv
    split at hmv <;> omega
  have ku := rup_any mb v L mo 0 i w hH hi hL hu
  have HL : Bx _ := ⟨And.intro hi (And.intro hL hmv)⟩
  rw [Nat.zero_add] at ku
  by_cases h0 : (upH mo L i).2 = 0
  · have hE : mendH mo L i = downH mo (upH mo L i).1 i := by unfold mendH; rw [if_pos h0]
    have HE : Bx _ := ⟨hE⟩
    rw [h0] at ku
    clear hH hu h0 hE hi hL hmv
    go_enter Tryd.func70, Tryd.ntmps70
    go_wp2_with fail
    refine ku.mono ?_
    rintro e w1 ⟨rfl, h1, t1⟩
    have kd := rdown_any mb v (upH mo L i).1 mo 0 i w1 h1 (by rw [upH_len]; exact HL.out.1) (by rw [upH_len]; exact HL.out.2.1) (by rw [← HE.out, Nat.zero_add]; exact HL.out.2.2)
    have d3 := h1.cell2
    have HT : Bx _ := ⟨t1⟩
    clear ku h1 t1
    go_wp2_with fail
    refine kd.mono ?_
    rintro e w2 ⟨rfl, h2, t2⟩
    have HF : Bx _ := ⟨And.intro h2 t2⟩
    clear kd h2 t2 d3
    go_wp2
    go_end0
    refine ⟨rfl, ?_, HT.out.trans HF.out.2⟩
    rw [HE.out]
    have := HF.out.1
    rwa [Nat.zero_add] at this
  · have hE : mendH mo L i = upH mo L i := by unfold mendH; rw [if_neg h0]
    have HE : Bx _ := ⟨hE⟩
    obtain ⟨M, hM⟩ : ∃ M, (upH mo L i).2 = M := ⟨_, rfl⟩
    have hne : ((M : Int) == (0 : Int)) = false := by simp; omega
    rw [hM] at ku
    have HM : Bx _ := ⟨hM⟩
    clear hH hu h0 hE hi hL hmv hM
    go_enter Tryd.func70, Tryd.ntmps70
    go_wp2_with fail
    refine ku.mono ?_
    rintro e w1 ⟨rfl, h1, t1⟩
    have d3 := h1.cell2
    have HT : Bx _ := ⟨And.intro h1 t1⟩
    clear ku h1 t1
    go_wp2
    go_end0
    exact ⟨rfl, by rw [HE.out, HM.out]; exact HT.out.1, HT.out.2⟩
end Go.Proofs.YtlodgmmhaolmaaaDoor
