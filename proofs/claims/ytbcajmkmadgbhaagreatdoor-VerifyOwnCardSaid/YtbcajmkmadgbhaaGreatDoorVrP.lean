/- Verify, the document's answer: each. -/
import Derived.Test.YtbcajmkmadgbhaaGreatDoorVrO
import Derived.Deep.CutRange
set_option linter.unusedSimpArgs false
set_option linter.unusedVariables false
namespace Go.Proofs.YtbcajmkmadgbhaaGreatDoor
open Go.RowKit
abbrev badC : Array Value := #[.int .i64 0, .int .i64 0, .int .i64 0, .bool false, .bool false]
/-- an error of the document, or none -/
def optB (o : Option (Int × Int)) : Value := match o with | none => badV 0 | some (p, c) => badAt p c
/-- what each knows -/
structure EcB (w wr : World) (S : Nat) (D : PrgD) (L : PLoc) : Prop where
  box : PBox wr S D L
  bad : ∃ T, wr.heap[S + 1]? = some (.cells badC T (0, 0))
  below : Below S w wr
  eq : w.heap.size = S
  m0 : PrgM w D L
theorem EcB.mem {w w0 : World} {S : Nat} {D : PrgD} {L : PLoc} (h : EcB w w0 S D L) : PrgM w0 D L := h.m0.below (by rw [h.eq]; exact h.below)
theorem EcB.step {w w0 w' : World} {S : Nat} {D : PrgD} {L : PLoc} (h : EcB w w0 S D L) (hb : Below w0.heap.size w0 w') : EcB w w' S D L where
  box := h.box.below hb
  bad := by obtain ⟨T, h0⟩ := h.bad; exact ⟨T, by rw [hb.block (S + 1) (block_lt h0)]; exact h0⟩
  below := h.below.trans (hb.mono (Nat.le_of_lt h.box.lt))
  eq := h.eq
  m0 := h.m0
theorem EcB.alloc (w : World) (D : PrgD) (L : PLoc) (T1 T2 : TypeId) (hM : PrgM w D L) : EcB w ((w.alloc (.cells (prgC D L) T1)).alloc (.cells badC T2)) w.heap.size D L where
  box := (PBox.alloc w D L T1).below (below1 _ _)
  bad := ⟨T2, by
    have := heap_alloc_new (w.alloc (.cells (prgC D L) T1)) (.cells badC T2)
    simpa only [heap_push, Array.size_push] using this⟩
  below := below2 _ _ _
  eq := rfl
  m0 := hM
theorem bad_zy {w : World} {B : Nat} (h : ∃ T, w.heap[B]? = some (.cells badC T (0, 0))) : (w.cell? ⟨B, 0, none⟩ = some (.int .i64 0) ∧ w.cell? ⟨B, 1, none⟩ = some (.int .i64 0) ∧ w.cell? ⟨B, 2, none⟩ = some (.int .i64 0) ∧ w.cell? ⟨B, 3, none⟩ = some (.bool false) ∧ w.cell? ⟨B, 4, none⟩ = some (.bool false)) ∧ ∀ i, w.frozen? ⟨B, i, none⟩ = false := by
  obtain ⟨T, h⟩ := h
  exact ⟨⟨cells_at h 0 _ rfl, cells_at h 1 _ rfl, cells_at h 2 _ rfl, cells_at h 3 _ rfl, cells_at h 4 _ rfl⟩, fun i => cells_free h i⟩
theorem bset5 {S : Nat} {w w1 : World} (h : Below S w w1) (a b c d e : Value) : Below S w (((((w1.setCell ⟨S + 1, 0, none⟩ a).setCell ⟨S + 1, 1, none⟩ b).setCell ⟨S + 1, 2, none⟩ c).setCell ⟨S + 1, 3, none⟩ d).setCell ⟨S + 1, 4, none⟩ e) :=
  ((((h.setCell (Nat.le_succ _) _).setCell (Nat.le_succ _) _).setCell (Nat.le_succ _) _).setCell (Nat.le_succ _) _).setCell (Nat.le_succ _) _
theorem ec_v {fi : Bool} {D : PrgD} {l : List InsD} {k j : Nat} {e : Int} {V : Value} (hV : V = optB ((formF fi D l).map fun x => ((k : Int) + (x.1 : Int), x.2))) (h : formF fi D l = some (j, e)) : V = badAt ((k : Int) + (j : Int)) e := by
  rw [hV, h]; rfl
set_option maxHeartbeats 8000000 in
set_option maxRecDepth 100000 in
theorem each_any (A : Option Addr) (l : List InsD) (cap : Nat) (fi : Bool) (k : Nat) (D : PrgD) (L : PLoc) (w : World) (hM : PrgM w D L) (hr : InsL w A l) (hB : ∀ i ∈ l, InsB i) (hk : k ≤ 1048576) (hl : l.length ≤ 1048576) :
    Calls Tryz.prog 21 #[prgV D L, .slice A l.length cap, .int .i64 (k : Int), .int .u8 ((lastC fi : Nat) : Int)] w fun e w' => e = .returned (optB ((formF fi D l).map fun x => ((k : Int) + (x.1 : Int), x.2))) ∧ Below w.heap.size w w' := by
  have H0 : Bx _ := ⟨EcB.alloc w D L 28 60 hM⟩
  have HB : Bx _ := ⟨And.intro hB hr⟩
  obtain ⟨V, hV⟩ : ∃ V, V = optB ((formF fi D l).map fun x => ((k : Int) + (x.1 : Int), x.2)) := ⟨_, rfl⟩
  rw [← hV]
  have HV : Bx _ := ⟨hV⟩
  clear hV hM hr hB
  go_enter Tryz.func21, Tryz.ntmps21
  go_upto_region 1 with (fail)
  generalize ((w.alloc (.cells (prgC D L) 28)).alloc (.cells #[.int .i64 0, .int .i64 0, .int .i64 0, .bool false, .bool false] 60)) = w0 at *
  generalize hS : w.heap.size = S at *
  have HZ : Bx (w.heap.size = S) := ⟨hS⟩
  clear hS
  obtain ⟨R, hR⟩ : ∃ R, formL fi D l.length l 0 = R := ⟨_, rfl⟩
  have HR : Bx (formL fi D l.length l 0 = R) := ⟨hR⟩
  clear hR
  go_wp2_with fail
  go_loopw [9] (fun i wr => ∃ j : Nat, j ≤ l.length ∧ i = .int .i64 (j : Int) ∧ Bx (EcB w wr S D L ∧ formL fi D l.length (l.drop j) j = R)) (fun i _ => l.length - (intOf i).toNat)
  case atStart => exact ⟨0, by omega, rfl, ⟨H0.out, HR.out⟩⟩
  case round =>
    obtain ⟨j, hj, rfl, HI⟩ := hrel
    have HRW : Bx _ := ⟨HB.out.2.below (by rw [HZ.out]; exact HI.out.1.below)⟩
    by_cases hlt : j < l.length
    · obtain ⟨pb, off, rfl, hrow⟩ := HRW.out.row (by omega)
      have hx : l[j]? = some l[j] := List.getElem?_eq_getElem hlt
      have HM : Bx (InsB l[j]) := ⟨HB.out.1 _ (List.getElem_mem hlt)⟩
      have HF : Bx (l.drop j = l[j] :: l.drop (j + 1)) := ⟨List.drop_eq_getElem_cons hlt⟩
      have a0 : wr.cell? ⟨pb, off + j * 3, none⟩ = some (.int .u8 (l[j].c : Int)) := hrow j _ hx 0 _ rfl
      have a1 : wr.cell? ⟨pb, off + j * 3 + 1, none⟩ = some (.int .i64 l[j].a) := hrow j _ hx 1 _ rfl
      have a2 : wr.cell? ⟨pb, off + j * 3 + 2, none⟩ = some (.int .i64 l[j].b) := hrow j _ hx 2 _ rfl
      generalize l[j] = i at *
      obtain ⟨c, a, b⟩ := i
      clear hrow hx
      obtain ⟨J, hJ⟩ : ∃ J, jumpC c = J := ⟨_, rfl⟩
      have hJ1 : ((((c : Int) == 10) : Bool) || (((c : Int) == 11) : Bool)) = J := by rw [← hJ]; unfold jumpC; rw [show (((c : Int) == 10) : Bool) = (c == 10) from beq_code c 10, show (((c : Int) == 11) : Bool) = (c == 11) from beq_code c 11]
      have HJ0 : Bx (jumpC c = J) := ⟨hJ⟩
      obtain ⟨j1, hj1⟩ : ∃ j1, (((c : Int) == 10) : Bool) = j1 := ⟨_, rfl⟩
      obtain ⟨j2, hj2⟩ : ∃ j2, (((c : Int) == 11) : Bool) = j2 := ⟨_, rfl⟩
      rw [hj1, hj2] at hJ1
      obtain ⟨O, hO⟩ : ∃ O, okC fi c = O := ⟨_, rfl⟩
      have HO0 : Bx (okC fi c = O) := ⟨hO⟩
      clear hJ
      go_upto_region 5 with (fail)
      go_cut [11] from 12 to 101 (fun g wx => g = .bool J ∧ wx = wr)
      case first =>
        cases j1
        · go_wp2_with fail
          go_meet
          exact ⟨by rw [← hJ1], rfl⟩
        · go_wp2_with fail
          go_meet
          exact ⟨by rw [← hJ1]; rfl, rfl⟩
      case rest =>
        obtain ⟨rfl, rfl⟩ := hcut
        clear hj1 hj2 hJ1
        go_upto_region 6 with (fail)
        go_cut [29] from 30 to 101 (fun g wx => g = .bool (!O) ∧ wx = wc)
        case first =>
          cases fi
          · have ko := fun w => outputs_any c w
            rw [hO] at ko
            go_wp2_with fail
            refine (ko _).mono ?_
            rintro e wx ⟨rfl, rfl⟩
            go_wp2_with fail
            go_meet
            exact ⟨by cases O <;> rfl, rfl⟩
          · have ko := fun w => filters_any c w
            rw [hO] at ko
            cases O
            all_goals
              go_wp2_with fail
              refine (ko _).mono ?_
              rintro e wx ⟨rfl, rfl⟩
              go_wp2_with fail
              go_meet
              exact ⟨rfl, rfl⟩
        case rest =>
          obtain ⟨rfl, rfl⟩ := hcut
          clear hO
          cases O
          · have HO : Bx (okC fi c = false) := ⟨HO0.out⟩
            have HX6 : Bx _ := ⟨HI.out.1⟩
            have HE : Bx (V = badAt ((k : Int) + (j : Int)) 180) := ⟨ec_v HV.out (fm_stop HR.out HI.out.2 HF.out (by unfold errC; rw [if_pos HO.out]) (by decide))⟩
            have kf := fun p w => rat_any p 180 w (by decide)
            go_wp2_with fail
            refine (kf _ _).mono ?_
            rintro e w7 ⟨rfl, hb⟩
            have HX7 : Bx _ := ⟨HX6.out.step hb⟩
            clear kf hb
            obtain ⟨⟨z0, z1, z2, z3, z4⟩, y⟩ := bad_zy HX7.out.bad
            have y0 := y 0
            have y1 := y 1
            have y2 := y 2
            have y3 := y 3
            have y4 := y 4
            clear y
            go_wp2
            refine bodyPost_ret (by simp [results, Tryz.results21, go_sem, z0, z1, z2, z3, z4, y0, y1, y2, y3, y4]; rfl) rfl ?_
            exact ⟨by rw [HE.out], by rw [HZ.out]; exact bset5 HX7.out.below _ _ _ _ _⟩
          · have HO : Bx (okC fi c = true) := ⟨HO0.out⟩
            have ko : ∀ d os, Calls Tryz.prog 73 #[prgV D L, insV ⟨c, a, b⟩] (Go.Sort.grow (redrawn wc d) os) _ := fun d os => rops_any D L ⟨c, a, b⟩ _ (HI.out.1.mem.below (below_regrown wc d os)) HM.out
            obtain ⟨P, hP⟩ : ∃ P, opsB D ⟨c, a, b⟩ = P := ⟨_, rfl⟩
            rw [hP] at ko
            have HP0 : Bx (opsB D ⟨c, a, b⟩ = P) := ⟨hP⟩
            clear hP
            have q0 := cell_regrown a0
            have q1 := cell_regrown a1
            have q2 := cell_regrown a2
            have p0 := cell_regrown (HI.out.1.box.cell 0 _ rfl)
            have p1 := cell_regrown (HI.out.1.box.cell 1 _ rfl)
            have p2 := cell_regrown (HI.out.1.box.cell 2 _ rfl)
            have p3 := cell_regrown (HI.out.1.box.cell 3 _ rfl)
            have p4 := cell_regrown (HI.out.1.box.cell 4 _ rfl)
            have p5 := cell_regrown (HI.out.1.box.cell 5 _ rfl)
            have p6 := cell_regrown (HI.out.1.box.cell 6 _ rfl)
            have p7 := cell_regrown (HI.out.1.box.cell 7 _ rfl)
            have p8 := cell_regrown (HI.out.1.box.cell 8 _ rfl)
            have p9 := cell_regrown (HI.out.1.box.cell 9 _ rfl)
            have p10 := cell_regrown (HI.out.1.box.cell 10 _ rfl)
            have p11 := cell_regrown (HI.out.1.box.cell 11 _ rfl)
            have p12 := cell_regrown (HI.out.1.box.cell 12 _ rfl)
            have p13 := cell_regrown (HI.out.1.box.cell 13 _ rfl)
            go_wp2_with fail
            clear a0 a1 a2
            refine wp_region_quiet_below (by kernel_rfl) (by kernel_rfl) ?_
            repeat (go_big_quiet_step (first | (go_at_call 73; with_reducible exact Calls.regrown_of (ko _ _))))
            refine wpQuiet_nil ?_
            intro _ hw'
            obtain ⟨⟨dq, osq⟩, hw''⟩ := hw'
            subst hw''
            have HX6 : Bx _ := ⟨HI.out.1.step (below_regrown wc dq osq)⟩
            have a0 := q0 dq osq
            have a1 := q1 dq osq
            have a2 := q2 dq osq
            clear ko q0 q1 q2 p0 p1 p2 p3 p4 p5 p6 p7 p8 p9 p10 p11 p12 p13
            generalize Go.Sort.grow (redrawn wc dq) osq = w6 at *
            cases P
            · have HP : Bx (opsB D ⟨c, a, b⟩ = false) := ⟨HP0.out⟩
              have HE : Bx (V = badAt ((k : Int) + (j : Int)) 192) := ⟨ec_v HV.out (fm_stop HR.out HI.out.2 HF.out (by unfold errC; rw [if_neg (by rw [HO.out]; simp), if_pos HP.out]) (by decide))⟩
              have kf := fun p w => rat_any p 192 w (by decide)
              go_wp2_with fail
              refine (kf _ _).mono ?_
              rintro e w7 ⟨rfl, hb⟩
              have HX7 : Bx _ := ⟨HX6.out.step hb⟩
              clear kf hb
              obtain ⟨⟨z0, z1, z2, z3, z4⟩, y⟩ := bad_zy HX7.out.bad
              have y0 := y 0
              have y1 := y 1
              have y2 := y 2
              have y3 := y 3
              have y4 := y 4
              clear y
              go_wp2
              refine bodyPost_ret (by simp [results, Tryz.results21, go_sem, z0, z1, z2, z3, z4, y0, y1, y2, y3, y4]; rfl) rfl ?_
              exact ⟨by rw [HE.out], by rw [HZ.out]; exact bset5 HX7.out.below _ _ _ _ _⟩
            · have HP : Bx (opsB D ⟨c, a, b⟩ = true) := ⟨HP0.out⟩
              obtain ⟨X, hX⟩ : ∃ X, decide (a ≤ (j : Int)) = X := ⟨_, rfl⟩
              obtain ⟨Y, hY⟩ : ∃ Y, decide ((l.length : Int) ≤ a) = Y := ⟨_, rfl⟩
              have HJ : Bx (jumpC c = J ∧ decide (a ≤ (j : Int)) = X ∧ decide ((l.length : Int) ≤ a) = Y) := ⟨HJ0.out, hX, hY⟩
              cases J
              · have HJN : Bx (¬(jumpC c = true ∧ (a ≤ (j : Int) ∨ (l.length : Int) ≤ a))) := ⟨by rw [HJ.out.1]; simp⟩
                obtain ⟨Z, hZ⟩ : ∃ Z, (((c : Int) == ((lastC fi : Nat) : Int)) : Bool) = Z := ⟨_, rfl⟩
                obtain ⟨Y2, hY2⟩ : ∃ Y2, decide ((j : Int) < (l.length : Int) - 1) = Y2 := ⟨_, rfl⟩
                have HZY : Bx ((c == lastC fi) = Z ∧ decide ((j : Int) < (l.length : Int) - 1) = Y2) := ⟨by rw [← hZ]; exact (beq_code _ _).symm, hY2⟩
                cases Z
                · have HN : Bx (EcB w w6 S D L ∧ formL fi D l.length (l.drop (j + 1)) (j + 1) = R) := ⟨HX6.out, fm_go HI.out.2 HF.out (by unfold errC; rw [if_neg (by rw [HO.out]; simp), if_neg (by rw [HP.out]; simp), if_neg HJN.out]; rw [if_neg]; rintro ⟨h, _⟩; have := HZY.out.1; simp at this; exact this h)⟩
                  go_wp2_with fail
                  exact ⟨⟨j + 1, by omega, by rw [Int.natCast_succ], HN⟩, by simp only [intOf]; omega⟩
                · cases Y2
                  · have HN : Bx (EcB w w6 S D L ∧ formL fi D l.length (l.drop (j + 1)) (j + 1) = R) := ⟨HX6.out, fm_go HI.out.2 HF.out (by unfold errC; rw [if_neg (by rw [HO.out]; simp), if_neg (by rw [HP.out]; simp), if_neg HJN.out]; rw [if_neg]; rintro ⟨_, h⟩; have := HZY.out.2; simp at this; omega)⟩
                    go_wp2_with fail
                    exact ⟨⟨j + 1, by omega, by rw [Int.natCast_succ], HN⟩, by simp only [intOf]; omega⟩
                  · have HE : Bx (V = badAt ((k : Int) + (j : Int)) 193) := ⟨ec_v HV.out (fm_stop HR.out HI.out.2 HF.out (by unfold errC; rw [if_neg (by rw [HO.out]; simp), if_neg (by rw [HP.out]; simp), if_neg HJN.out]; rw [if_pos]; have h1 := HZY.out.1; have h2 := HZY.out.2; simp at h1 h2; exact ⟨h1, by omega⟩) (by decide))⟩
                    have kf := fun p w => rat_any p 193 w (by decide)
                    go_wp2_with fail
                    refine (kf _ _).mono ?_
                    rintro e w7 ⟨rfl, hb⟩
                    have HX7 : Bx _ := ⟨HX6.out.step hb⟩
                    clear kf hb
                    obtain ⟨⟨z0, z1, z2, z3, z4⟩, y⟩ := bad_zy HX7.out.bad
                    have y0 := y 0
                    have y1 := y 1
                    have y2 := y 2
                    have y3 := y 3
                    have y4 := y 4
                    clear y
                    go_wp2
                    refine bodyPost_ret (by simp [results, Tryz.results21, go_sem, z0, z1, z2, z3, z4, y0, y1, y2, y3, y4]; rfl) rfl ?_
                    exact ⟨by rw [HE.out], by rw [HZ.out]; exact bset5 HX7.out.below _ _ _ _ _⟩
              · cases X
                · cases Y
                  · have HJN : Bx (¬(jumpC c = true ∧ (a ≤ (j : Int) ∨ (l.length : Int) ≤ a))) := ⟨by have h1 := HJ.out.2.1; have h2 := HJ.out.2.2; simp at h1 h2; rintro ⟨_, h | h⟩ <;> omega⟩
                    obtain ⟨Z, hZ⟩ : ∃ Z, (((c : Int) == ((lastC fi : Nat) : Int)) : Bool) = Z := ⟨_, rfl⟩
                    obtain ⟨Y2, hY2⟩ : ∃ Y2, decide ((j : Int) < (l.length : Int) - 1) = Y2 := ⟨_, rfl⟩
                    have HZY : Bx ((c == lastC fi) = Z ∧ decide ((j : Int) < (l.length : Int) - 1) = Y2) := ⟨by rw [← hZ]; exact (beq_code _ _).symm, hY2⟩
                    cases Z
                    · have HN : Bx (EcB w w6 S D L ∧ formL fi D l.length (l.drop (j + 1)) (j + 1) = R) := ⟨HX6.out, fm_go HI.out.2 HF.out (by unfold errC; rw [if_neg (by rw [HO.out]; simp), if_neg (by rw [HP.out]; simp), if_neg HJN.out]; rw [if_neg]; rintro ⟨h, _⟩; have := HZY.out.1; simp at this; exact this h)⟩
                      go_wp2_with fail
                      exact ⟨⟨j + 1, by omega, by rw [Int.natCast_succ], HN⟩, by simp only [intOf]; omega⟩
                    · cases Y2
                      · have HN : Bx (EcB w w6 S D L ∧ formL fi D l.length (l.drop (j + 1)) (j + 1) = R) := ⟨HX6.out, fm_go HI.out.2 HF.out (by unfold errC; rw [if_neg (by rw [HO.out]; simp), if_neg (by rw [HP.out]; simp), if_neg HJN.out]; rw [if_neg]; rintro ⟨_, h⟩; have := HZY.out.2; simp at this; omega)⟩
                        go_wp2_with fail
                        exact ⟨⟨j + 1, by omega, by rw [Int.natCast_succ], HN⟩, by simp only [intOf]; omega⟩
                      · have HE : Bx (V = badAt ((k : Int) + (j : Int)) 193) := ⟨ec_v HV.out (fm_stop HR.out HI.out.2 HF.out (by unfold errC; rw [if_neg (by rw [HO.out]; simp), if_neg (by rw [HP.out]; simp), if_neg HJN.out]; rw [if_pos]; have h1 := HZY.out.1; have h2 := HZY.out.2; simp at h1 h2; exact ⟨h1, by omega⟩) (by decide))⟩
                        have kf := fun p w => rat_any p 193 w (by decide)
                        go_wp2_with fail
                        refine (kf _ _).mono ?_
                        rintro e w7 ⟨rfl, hb⟩
                        have HX7 : Bx _ := ⟨HX6.out.step hb⟩
                        clear kf hb
                        obtain ⟨⟨z0, z1, z2, z3, z4⟩, y⟩ := bad_zy HX7.out.bad
                        have y0 := y 0
                        have y1 := y 1
                        have y2 := y 2
                        have y3 := y 3
                        have y4 := y 4
                        clear y
                        go_wp2
                        refine bodyPost_ret (by simp [results, Tryz.results21, go_sem, z0, z1, z2, z3, z4, y0, y1, y2, y3, y4]; rfl) rfl ?_
                        exact ⟨by rw [HE.out], by rw [HZ.out]; exact bset5 HX7.out.below _ _ _ _ _⟩
                  · have HE : Bx (V = badAt ((k : Int) + (j : Int)) 191) := ⟨ec_v HV.out (fm_stop HR.out HI.out.2 HF.out (by unfold errC; rw [if_neg (by rw [HO.out]; simp), if_neg (by rw [HP.out]; simp), if_pos ⟨HJ.out.1, Or.inr (of_decide_eq_true HJ.out.2.2)⟩]) (by decide))⟩
                    have kf := fun p w => rat_any p 191 w (by decide)
                    go_wp2_with fail
                    refine (kf _ _).mono ?_
                    rintro e w7 ⟨rfl, hb⟩
                    have HX7 : Bx _ := ⟨HX6.out.step hb⟩
                    clear kf hb
                    obtain ⟨⟨z0, z1, z2, z3, z4⟩, y⟩ := bad_zy HX7.out.bad
                    have y0 := y 0
                    have y1 := y 1
                    have y2 := y 2
                    have y3 := y 3
                    have y4 := y 4
                    clear y
                    go_wp2
                    refine bodyPost_ret (by simp [results, Tryz.results21, go_sem, z0, z1, z2, z3, z4, y0, y1, y2, y3, y4]; rfl) rfl ?_
                    exact ⟨by rw [HE.out], by rw [HZ.out]; exact bset5 HX7.out.below _ _ _ _ _⟩
                · have HE : Bx (V = badAt ((k : Int) + (j : Int)) 191) := ⟨ec_v HV.out (fm_stop HR.out HI.out.2 HF.out (by unfold errC; rw [if_neg (by rw [HO.out]; simp), if_neg (by rw [HP.out]; simp), if_pos ⟨HJ.out.1, Or.inl (of_decide_eq_true HJ.out.2.1)⟩]) (by decide))⟩
                  have kf := fun p w => rat_any p 191 w (by decide)
                  go_wp2_with fail
                  refine (kf _ _).mono ?_
                  rintro e w7 ⟨rfl, hb⟩
                  have HX7 : Bx _ := ⟨HX6.out.step hb⟩
                  clear kf hb
                  obtain ⟨⟨z0, z1, z2, z3, z4⟩, y⟩ := bad_zy HX7.out.bad
                  have y0 := y 0
                  have y1 := y 1
                  have y2 := y 2
                  have y3 := y 3
                  have y4 := y 4
                  clear y
                  go_wp2
                  refine bodyPost_ret (by simp [results, Tryz.results21, go_sem, z0, z1, z2, z3, z4, y0, y1, y2, y3, y4]; rfl) rfl ?_
                  exact ⟨by rw [HE.out], by rw [HZ.out]; exact bset5 HX7.out.below _ _ _ _ _⟩
    · obtain rfl : j = l.length := by omega
      have HN : Bx (formL fi D l.length l 0 = none) := ⟨by
        have h := HI.out.2
        rw [List.drop_length] at h
        rw [HR.out, ← h]; rfl⟩
      have kf := fun p w => rat_any p 193 w (by decide)
      have HX6 : Bx _ := ⟨HI.out.1⟩
      clear HI HR HB
      by_cases hz : l = []
      · have HE : Bx (V = badAt ((k : Int) + (l.length : Int)) 193) := ⟨ec_v HV.out (by unfold formF; rw [HN.out, hz]; rfl)⟩
        have hlz : ((l.length : Int) == 0) = true := by rw [hz]; rfl
        clear hz HRW
        go_wp2_with fail
        refine (kf _ _).mono ?_
        rintro e w7 ⟨rfl, hb⟩
        have HX7 : Bx _ := ⟨HX6.out.step hb⟩
        clear kf hb
        obtain ⟨⟨z0, z1, z2, z3, z4⟩, y⟩ := bad_zy HX7.out.bad
        have y0 := y 0
        have y1 := y 1
        have y2 := y 2
        have y3 := y 3
        have y4 := y 4
        clear y
        go_wp2
        refine bodyPost_ret (by simp [results, Tryz.results21, go_sem, z0, z1, z2, z3, z4, y0, y1, y2, y3, y4]; rfl) rfl ?_
        exact ⟨by rw [HE.out], by rw [HZ.out]; exact bset5 HX7.out.below _ _ _ _ _⟩
      · obtain ⟨n', hn'⟩ : ∃ n', l.length = n' + 1 := ⟨l.length - 1, by have : l.length ≠ 0 := fun h => hz (List.length_eq_zero_iff.1 h); omega⟩
        obtain ⟨pb, off, hA, hrow⟩ := HRW.out.row (by omega)
        have hx : l[n']? = some (l[n']'(by omega)) := List.getElem?_eq_getElem (by omega)
        have hlast : l.getLast? = some (l[n']'(by omega)) := by rw [List.getLast?_eq_getElem?, show l.length - 1 = n' by omega]; exact hx
        have r0 : wr.cell? ⟨pb, off + n' * 3, none⟩ = some (.int .u8 ((l[n']'(by omega)).c : Int)) := hrow n' _ hx 0 _ rfl
        have HFF : Bx (formF fi D l = if (l[n']'(by omega)).c = lastC fi then none else some (l.length, 193)) := ⟨by unfold formF; rw [HN.out, hlast]; simp⟩
        clear hrow hx hlast
        generalize (l[n']'(by omega)).c = c at *
        obtain ⟨Z, hZ⟩ : ∃ Z, (((c : Int) == ((lastC fi : Nat) : Int)) : Bool) = Z := ⟨_, rfl⟩
        have HZZ : Bx ((c == lastC fi) = Z) := ⟨by rw [← hZ]; exact (beq_code _ _).symm⟩
        generalize hN : l.length = N at hl hn' ⊢
        have HNZ : Bx (l.length = N) := ⟨hN⟩
        subst hA
        have hz0 : ((N : Int) == 0) = false := by simp; omega
        have hs1 : (N : Int) - 1 = (n' : Int) := by omega
        have hlt2 : n' < N := by omega
        clear HRW hn'
        cases Z
        · have HE : Bx (V = badAt ((k : Int) + (N : Int)) 193) := ⟨by rw [← HNZ.out]; exact ec_v HV.out (by rw [HFF.out, if_neg]; intro h; have := HZZ.out; simp [h] at this)⟩
          go_wp2_with fail
          refine (kf _ _).mono ?_
          rintro e w7 ⟨rfl, hb⟩
          have HX7 : Bx _ := ⟨HX6.out.step hb⟩
          clear kf hb
          obtain ⟨⟨z0, z1, z2, z3, z4⟩, y⟩ := bad_zy HX7.out.bad
          have y0 := y 0
          have y1 := y 1
          have y2 := y 2
          have y3 := y 3
          have y4 := y 4
          clear y
          go_wp2
          refine bodyPost_ret (by simp [results, Tryz.results21, go_sem, z0, z1, z2, z3, z4, y0, y1, y2, y3, y4]; rfl) rfl ?_
          exact ⟨by rw [HE.out], by rw [HZ.out]; exact bset5 HX7.out.below _ _ _ _ _⟩
        · have HE : Bx (V = badV 0) := ⟨by rw [HV.out, HFF.out, if_pos (by have := HZZ.out; simpa using this)]; rfl⟩
          obtain ⟨⟨z0, z1, z2, z3, z4⟩, y⟩ := bad_zy HX6.out.bad
          have y0 := y 0
          have y1 := y 1
          have y2 := y 2
          have y3 := y 3
          have y4 := y 4
          clear y
          go_wp2
          refine bodyPost_ret (by simp [results, Tryz.results21, go_sem, z0, z1, z2, z3, z4, y0, y1, y2, y3, y4]; rfl) rfl ?_
          exact ⟨by rw [HE.out], by rw [HZ.out]; exact bset5 HX6.out.below _ _ _ _ _⟩
end Go.Proofs.YtbcajmkmadgbhaaGreatDoor
