/- Verify: fault.At, operands. Condition: code.table holds what the program's text lays in it. -/
import Derived.Test.YtbcajmkmadgbhaaGreatDoorVrE
import Derived.Test.YtbcajmkmadgbhaaGreatDoorAsA
import Derived.BigQuiet
import Derived.Lib.QuietBelow
set_option linter.unusedSimpArgs false
set_option linter.unusedVariables false
namespace Go.Proofs.YtbcajmkmadgbhaaGreatDoor
open Go.RowKit
theorem vat_any (p c : Int) (w : World) (hc : 1 ≤ c) : Calls Tryz.prog 78 #[.int .i64 p, .int .i64 c] w fun e w' => e = .returned (atV p c) ∧ w = w' := by
  have h : (c == 0) = false := by simp; omega
  go_enter Tryz.func78, Tryz.ntmps78
  go_wp2
  go_ret
  exact ⟨rfl, rfl⟩
/-- an instruction as a value -/
abbrev insV (i : InsD) : Value := .agg #[.int .u8 (i.c : Int), .int .i64 i.a, .int .i64 i.b]
abbrev insC (i : InsD) : Array Value := #[.int .u8 (i.c : Int), .int .i64 i.a, .int .i64 i.b]
/-- the two boxes of a program and an instruction -/
structure OpB (w w0 : World) (S : Nat) (D : PrgD) (L : PLoc) (i : InsD) : Prop where
  box : PBox w0 S D L
  ins : ∃ T, w0.heap[S + 1]? = some (.cells (insC i) T (0, 0))
  below : Below S w w0
  mem : PrgM w0 D L
  tab : TabU w0
theorem OpB.alloc (w : World) (D : PrgD) (L : PLoc) (i : InsD) (T1 T2 : TypeId) (hM : PrgM w D L) (hT : TabU w) : OpB w ((w.alloc (.cells (prgC D L) T1)).alloc (.cells (insC i) T2)) w.heap.size D L i where
  box := (PBox.alloc w D L T1).below (below1 _ _)
  ins := ⟨T2, by
    have := heap_alloc_new (w.alloc (.cells (prgC D L) T1)) (.cells (insC i) T2)
    simpa only [heap_push, Array.size_push] using this⟩
  below := below2 _ _ _
  mem := hM.below (below2 _ _ _)
  tab := hT.below (below2 _ _ _)
set_option maxHeartbeats 8000000 in
set_option maxRecDepth 100000 in
theorem operands_any (D : PrgD) (L : PLoc) (i : InsD) (w : World) (hM : PrgM w D L) (hi : InsB i) (hT : TabU w) :
    Calls Tryz.prog 101 #[prgV D L, insV i] w fun e w' => e = .returned (.bool (opsB D i)) ∧ Below w.heap.size w w' := by
  obtain ⟨c, a, b⟩ := i
  have H0 : Bx _ := ⟨OpB.alloc w D L ⟨c, a, b⟩ 28 94 hM hT⟩
  have ku := fun w h => uses_any c w hi.c h
  obtain ⟨V, hV⟩ : ∃ V, V = opsB D ⟨c, a, b⟩ := ⟨_, rfl⟩
  rw [← hV]
  have HV : Bx _ := ⟨hV⟩
  have HI : Bx _ := ⟨hi⟩
  clear hV hM hi hT
  go_enter Tryz.func101, Tryz.ntmps101
  go_wp2_with fail
  refine (ku _ H0.out.tab).mono ?_
  rintro e w1 ⟨rfl, rfl⟩
  generalize ((w.alloc (.cells (prgC D L) 28)).alloc (.cells #[.int .u8 (c : Int), .int .i64 a, .int .i64 b] 94)) = w0 at *
  generalize hS : w.heap.size = S at *
  have HZ : Bx (w.heap.size = S) := ⟨hS⟩
  clear hS ku
  obtain ⟨T, hins⟩ := H0.out.ins
  have i0 : w0.cell? ⟨S + 1, 0, none⟩ = some (.int .u8 (c : Int)) := cells_at hins 0 _ rfl
  have i1 : w0.cell? ⟨S + 1, 1, none⟩ = some (.int .i64 a) := cells_at hins 1 _ rfl
  have i2 : w0.cell? ⟨S + 1, 2, none⟩ = some (.int .i64 b) := cells_at hins 2 _ rfl
  clear hins
  -- CASES
  have hcs : c = 3 ∨ c = 4 ∨ c = 5 ∨ c = 6 ∨ c = 14 ∨ c = 15 ∨ c = 23 ∨ c = 10 ∨ c = 11 ∨ c = 16 ∨ (c ≠ 3 ∧ c ≠ 4 ∧ c ≠ 5 ∧ c ≠ 6 ∧ c ≠ 14 ∧ c ≠ 15 ∧ c ≠ 23 ∧ c ≠ 10 ∧ c ≠ 11 ∧ c ≠ 16) := by omega
  rcases hcs with rfl | rfl | rfl | rfl | rfl | rfl | rfl | rfl | rfl | rfl | hc
  · have hu : usesC 3 = 2 := by decide
    rw [hu]
    have HO : Bx (opsB D ⟨3, a, b⟩ = (inB a D.names.length && inB b D.texts.length)) := ⟨rfl⟩
    have k1 := fun w => has_any a D.names.length w
    have k2 := fun w => has_any b D.texts.length w
    obtain ⟨X, hX⟩ : ∃ X, inB a D.names.length = X := ⟨_, rfl⟩
    obtain ⟨Y, hY⟩ : ∃ Y, inB b D.texts.length = Y := ⟨_, rfl⟩
    rw [hX] at k1
    rw [hY] at k2
    have HE : Bx (V = (X && Y)) := ⟨by rw [HV.out, HO.out, hX, hY]⟩
    have n7 := H0.out.box.cell 7 _ rfl
    have n8 := H0.out.box.cell 8 _ rfl
    clear hX hY HV HO hu
    cases X
    · go_wp2_with fail
      refine (k1 _).mono ?_
      rintro e w2 ⟨rfl, rfl⟩
      go_wp2
      go_ret
      exact ⟨by rw [HE.out]; rfl, by rw [HZ.out]; exact H0.out.below⟩
    · go_wp2_with fail
      refine (k1 _).mono ?_
      rintro e w2 ⟨rfl, rfl⟩
      go_wp2_with fail
      refine (k2 _).mono ?_
      rintro e w3 ⟨rfl, rfl⟩
      go_wp2
      go_ret
      exact ⟨by rw [HE.out]; cases Y <;> rfl, by rw [HZ.out]; exact H0.out.below⟩
  · have hu : usesC 4 = 2 := by decide
    rw [hu]
    have HO : Bx (opsB D ⟨4, a, b⟩ = (inB a D.names.length && inB b D.lists.length)) := ⟨rfl⟩
    have k1 := fun w => has_any a D.names.length w
    have k2 := fun w => has_any b D.lists.length w
    obtain ⟨X, hX⟩ : ∃ X, inB a D.names.length = X := ⟨_, rfl⟩
    obtain ⟨Y, hY⟩ : ∃ Y, inB b D.lists.length = Y := ⟨_, rfl⟩
    rw [hX] at k1
    rw [hY] at k2
    have HE : Bx (V = (X && Y)) := ⟨by rw [HV.out, HO.out, hX, hY]⟩
    have n7 := H0.out.box.cell 7 _ rfl
    have n9 := H0.out.box.cell 9 _ rfl
    clear hX hY HV HO hu
    cases X
    · go_wp2_with fail
      refine (k1 _).mono ?_
      rintro e w2 ⟨rfl, rfl⟩
      go_wp2
      go_ret
      exact ⟨by rw [HE.out]; rfl, by rw [HZ.out]; exact H0.out.below⟩
    · go_wp2_with fail
      refine (k1 _).mono ?_
      rintro e w2 ⟨rfl, rfl⟩
      go_wp2_with fail
      refine (k2 _).mono ?_
      rintro e w3 ⟨rfl, rfl⟩
      go_wp2
      go_ret
      exact ⟨by rw [HE.out]; cases Y <;> rfl, by rw [HZ.out]; exact H0.out.below⟩
  · have hu : usesC 5 = 2 := by decide
    rw [hu]
    have HO : Bx (opsB D ⟨5, a, b⟩ = (inB a D.names.length && inB b D.names.length)) := ⟨rfl⟩
    have k1 := fun w => has_any a D.names.length w
    have k2 := fun w => has_any b D.names.length w
    obtain ⟨X, hX⟩ : ∃ X, inB a D.names.length = X := ⟨_, rfl⟩
    obtain ⟨Y, hY⟩ : ∃ Y, inB b D.names.length = Y := ⟨_, rfl⟩
    rw [hX] at k1
    rw [hY] at k2
    have HE : Bx (V = (X && Y)) := ⟨by rw [HV.out, HO.out, hX, hY]⟩
    have n7 := H0.out.box.cell 7 _ rfl
    clear hX hY HV HO hu
    cases X
    · go_wp2_with fail
      refine (k1 _).mono ?_
      rintro e w2 ⟨rfl, rfl⟩
      go_wp2
      go_ret
      exact ⟨by rw [HE.out]; rfl, by rw [HZ.out]; exact H0.out.below⟩
    · go_wp2_with fail
      refine (k1 _).mono ?_
      rintro e w2 ⟨rfl, rfl⟩
      go_wp2_with fail
      refine (k2 _).mono ?_
      rintro e w3 ⟨rfl, rfl⟩
      go_wp2
      go_ret
      exact ⟨by rw [HE.out]; cases Y <;> rfl, by rw [HZ.out]; exact H0.out.below⟩
  · have hu : usesC 6 = 2 := by decide
    rw [hu]
    have HO : Bx (opsB D ⟨6, a, b⟩ = (inB a 6 && inB b D.times.length)) := ⟨rfl⟩
    have k1 := fun w => has_any a 6 w
    have k2 := fun w => has_any b D.times.length w
    obtain ⟨X, hX⟩ : ∃ X, inB a 6 = X := ⟨_, rfl⟩
    obtain ⟨Y, hY⟩ : ∃ Y, inB b D.times.length = Y := ⟨_, rfl⟩
    rw [hX] at k1
    rw [hY] at k2
    have HE : Bx (V = (X && Y)) := ⟨by rw [HV.out, HO.out, hX, hY]⟩
    have n10 := H0.out.box.cell 10 _ rfl
    clear hX hY HV HO hu
    cases X
    · go_wp2_with fail
      refine (k1 _).mono ?_
      rintro e w2 ⟨rfl, rfl⟩
      go_wp2
      go_ret
      exact ⟨by rw [HE.out]; rfl, by rw [HZ.out]; exact H0.out.below⟩
    · go_wp2_with fail
      refine (k1 _).mono ?_
      rintro e w2 ⟨rfl, rfl⟩
      go_wp2_with fail
      refine (k2 _).mono ?_
      rintro e w3 ⟨rfl, rfl⟩
      go_wp2
      go_ret
      exact ⟨by rw [HE.out]; cases Y <;> rfl, by rw [HZ.out]; exact H0.out.below⟩
  · have hu : usesC 14 = 1 := by decide
    rw [hu]
    have HO : Bx (opsB D ⟨14, a, b⟩ = (inB a D.accs.length && b == 0)) := ⟨rfl⟩
    have k1 := fun w => has_any a D.accs.length w
    obtain ⟨X, hX⟩ : ∃ X, inB a D.accs.length = X := ⟨_, rfl⟩
    rw [hX] at k1
    have n5 := H0.out.box.cell 5 _ rfl
    by_cases hb : b = 0
    · have hb0 : (b == 0) = true := by simp [hb]
      have HE : Bx (V = X) := ⟨by rw [HV.out, HO.out, hX, hb0]; simp⟩
      clear hX HV HO hu hb
      go_wp2_with fail
      refine (k1 _).mono ?_
      rintro e w2 ⟨rfl, rfl⟩
      go_wp2
      go_ret
      exact ⟨by rw [HE.out]; rfl, by rw [HZ.out]; exact H0.out.below⟩
    · have hb0 : (b == 0) = false := by simp [hb]
      have HE : Bx (V = false) := ⟨by rw [HV.out, HO.out, hb0]; simp⟩
      clear hX HV HO hu hb
      go_wp2
      go_ret
      exact ⟨by rw [HE.out]; rfl, by rw [HZ.out]; exact H0.out.below⟩
  · have hu : usesC 15 = 1 := by decide
    rw [hu]
    have HO : Bx (opsB D ⟨15, a, b⟩ = (inB a D.ints.length && b == 0)) := ⟨rfl⟩
    have k1 := fun w => has_any a D.ints.length w
    obtain ⟨X, hX⟩ : ∃ X, inB a D.ints.length = X := ⟨_, rfl⟩
    rw [hX] at k1
    have n11 := H0.out.box.cell 11 _ rfl
    by_cases hb : b = 0
    · have hb0 : (b == 0) = true := by simp [hb]
      have HE : Bx (V = X) := ⟨by rw [HV.out, HO.out, hX, hb0]; simp⟩
      clear hX HV HO hu hb
      go_wp2_with fail
      refine (k1 _).mono ?_
      rintro e w2 ⟨rfl, rfl⟩
      go_wp2
      go_ret
      exact ⟨by rw [HE.out]; rfl, by rw [HZ.out]; exact H0.out.below⟩
    · have hb0 : (b == 0) = false := by simp [hb]
      have HE : Bx (V = false) := ⟨by rw [HV.out, HO.out, hb0]; simp⟩
      clear hX HV HO hu hb
      go_wp2
      go_ret
      exact ⟨by rw [HE.out]; rfl, by rw [HZ.out]; exact H0.out.below⟩
  · have hu : usesC 23 = 1 := by decide
    rw [hu]
    have HO : Bx (opsB D ⟨23, a, b⟩ = (inB a D.aliases.length && b == 0)) := ⟨rfl⟩
    have k1 := fun w => has_any a D.aliases.length w
    obtain ⟨X, hX⟩ : ∃ X, inB a D.aliases.length = X := ⟨_, rfl⟩
    rw [hX] at k1
    have n6 := H0.out.box.cell 6 _ rfl
    by_cases hb : b = 0
    · have hb0 : (b == 0) = true := by simp [hb]
      have HE : Bx (V = X) := ⟨by rw [HV.out, HO.out, hX, hb0]; simp⟩
      clear hX HV HO hu hb
      go_wp2_with fail
      refine (k1 _).mono ?_
      rintro e w2 ⟨rfl, rfl⟩
      go_wp2
      go_ret
      exact ⟨by rw [HE.out]; rfl, by rw [HZ.out]; exact H0.out.below⟩
    · have hb0 : (b == 0) = false := by simp [hb]
      have HE : Bx (V = false) := ⟨by rw [HV.out, HO.out, hb0]; simp⟩
      clear hX HV HO hu hb
      go_wp2
      go_ret
      exact ⟨by rw [HE.out]; rfl, by rw [HZ.out]; exact H0.out.below⟩
  · have hu : usesC 10 = 1 := by decide
    rw [hu]
    have HO : Bx (opsB D ⟨10, a, b⟩ = (b == 0)) := ⟨rfl⟩
    obtain ⟨X, hX⟩ : ∃ X, (b == 0) = X := ⟨_, rfl⟩
    have HE : Bx (V = X) := ⟨by rw [HV.out, HO.out, hX]⟩
    clear HV HO hu
    cases X
    all_goals
      go_wp2
      go_ret
      exact ⟨by rw [HE.out]; rfl, by rw [HZ.out]; exact H0.out.below⟩
  · have hu : usesC 11 = 1 := by decide
    rw [hu]
    have HO : Bx (opsB D ⟨11, a, b⟩ = (b == 0)) := ⟨rfl⟩
    obtain ⟨X, hX⟩ : ∃ X, (b == 0) = X := ⟨_, rfl⟩
    have HE : Bx (V = X) := ⟨by rw [HV.out, HO.out, hX]⟩
    clear HV HO hu
    cases X
    all_goals
      go_wp2
      go_ret
      exact ⟨by rw [HE.out]; rfl, by rw [HZ.out]; exact H0.out.below⟩
  · have hu : usesC 16 = 2 := by decide
    rw [hu]
    have HO : Bx (opsB D ⟨16, a, b⟩ = (inB a D.accs.length && inB b D.accs.length && (accAt D a).1 == 2 && (accAt D b).1 == 1 && (accAt D a).2 == (accAt D b).2)) := ⟨rfl⟩
    have k1 : ∀ d os, Calls Tryz.prog 111 #[.int .i64 a, .int .i64 (D.accs.length : Nat)] (Go.Sort.grow (redrawn w0 d) os) (fun e w' => e = .returned (.bool (inB a D.accs.length)) ∧ Below (Go.Sort.grow (redrawn w0 d) os).heap.size (Go.Sort.grow (redrawn w0 d) os) w') := fun d os => (has_any a D.accs.length _).mono fun e w' h => ⟨h.1, by rw [← h.2]; exact Below.refl _ _⟩
    have k2 : ∀ d os, Calls Tryz.prog 111 #[.int .i64 b, .int .i64 (D.accs.length : Nat)] (Go.Sort.grow (redrawn w0 d) os) (fun e w' => e = .returned (.bool (inB b D.accs.length)) ∧ Below (Go.Sort.grow (redrawn w0 d) os).heap.size (Go.Sort.grow (redrawn w0 d) os) w') := fun d os => (has_any b D.accs.length _).mono fun e w' h => ⟨h.1, by rw [← h.2]; exact Below.refl _ _⟩
    have n5 : w0.cell? ⟨S, 5, none⟩ = some (.slice L.ac D.accs.length L.cc) := H0.out.box.cell 5 _ rfl
    clear hu
    have fin : ∀ dq osq, Below w.heap.size w (Go.Sort.grow (redrawn w0 dq) osq) := fun dq osq => by
      rw [HZ.out]
      exact H0.out.below.trans ((below_regrown w0 dq osq).mono (Nat.le_of_lt H0.out.box.lt))
    have HF : Bx _ := ⟨fin⟩
    clear fin
    cases hX : inB a D.accs.length with
    | false =>
      have HE : Bx (V = false) := ⟨by rw [HV.out, HO.out, hX]; rfl⟩
      rw [hX] at k1
      have q0 := cell_regrown i0
      have q1 := cell_regrown i1
      have q2 := cell_regrown i2
      have q5 := cell_regrown n5
      clear HV HO hX i1 i2 n5 k2
      go_wp2_with fail
      clear i0
      refine wp_region_quiet_below (by kernel_rfl) (by kernel_rfl) ?_
      repeat (go_big_quiet_step (first | (go_at_call 111; with_reducible exact Calls.regrown_of (k1 _ _))))
      refine wpQuiet_nil ?_
      intro _ hw'
      obtain ⟨⟨dq, osq⟩, hw''⟩ := hw'
      subst hw''
      go_wp2
      go_ret
      exact ⟨by rw [HE.out]; rfl, HF.out _ _⟩
    | true =>
      cases hY : inB b D.accs.length with
      | false =>
        have HE : Bx (V = false) := ⟨by rw [HV.out, HO.out, hX, hY]; rfl⟩
        rw [hX] at k1
        rw [hY] at k2
        have q0 := cell_regrown i0
        have q1 := cell_regrown i1
        have q2 := cell_regrown i2
        have q5 := cell_regrown n5
        clear HV HO hX hY i1 i2 n5
        go_wp2_with fail
        clear i0
        refine wp_region_quiet_below (by kernel_rfl) (by kernel_rfl) ?_
        repeat (go_big_quiet_step (first | (go_at_call 111; with_reducible exact Calls.regrown_of (k1 _ _)) | (go_at_call 111; with_reducible exact Calls.regrown_of (k2 _ _))))
        refine wpQuiet_nil ?_
        intro _ hw'
        obtain ⟨⟨dq, osq⟩, hw''⟩ := hw'
        subst hw''
        go_wp2
        go_ret
        exact ⟨by rw [HE.out]; rfl, HF.out _ _⟩
      | true =>
        obtain ⟨ia, rfl, hia⟩ : ∃ ia : Nat, a = ia ∧ ia < D.accs.length := by
          unfold inB at hX
          simp only [Bool.and_eq_true, decide_eq_true_eq] at hX
          exact ⟨a.toNat, by omega, by omega⟩
        obtain ⟨ib, rfl, hib⟩ : ∃ ib : Nat, b = ib ∧ ib < D.accs.length := by
          unfold inB at hY
          simp only [Bool.and_eq_true, decide_eq_true_eq] at hY
          exact ⟨b.toNat, by omega, by omega⟩
        obtain ⟨pb, off, hA, hrow⟩ := H0.out.mem.accs.row (by omega)
        have ga : D.accs[ia]? = some (accAt D ia) := by unfold accAt; rw [Int.toNat_natCast, List.getD_eq_getElem?_getD, List.getElem?_eq_getElem hia]; rfl
        have gb : D.accs[ib]? = some (accAt D ib) := by unfold accAt; rw [Int.toNat_natCast, List.getD_eq_getElem?_getD, List.getElem?_eq_getElem hib]; rfl
        have r0 := cell_regrown (show w0.cell? ⟨pb, off + ia * 2, none⟩ = some (.int .u8 ((accAt D ia).1 : Int)) from hrow ia _ ga 0 _ rfl)
        have r1 := cell_regrown (hrow ia _ ga 1 _ rfl)
        have r2 := cell_regrown (show w0.cell? ⟨pb, off + ib * 2, none⟩ = some (.int .u8 ((accAt D ib).1 : Int)) from hrow ib _ gb 0 _ rfl)
        have r3 := cell_regrown (hrow ib _ gb 1 _ rfl)
        rw [hA] at n5
        obtain ⟨Z, hZ⟩ : ∃ Z, ((accAt D ia).1 == 2) = Z := ⟨_, rfl⟩
        obtain ⟨W, hW⟩ : ∃ W, ((accAt D ib).1 == 1) = W := ⟨_, rfl⟩
        obtain ⟨E, hE⟩ : ∃ E, ((accAt D ia).2 == (accAt D ib).2) = E := ⟨_, rfl⟩
        have HE : Bx (V = (Z && W && E)) := ⟨by rw [HV.out, HO.out, hX, hY, hZ, hW, hE]; rfl⟩
        have e1 : ((((accAt D ia).1 : Int) == 2) : Bool) = Z := by rw [← hZ]; exact beq_code _ 2
        have e2 : ((((accAt D ib).1 : Int) == 1) : Bool) = W := by rw [← hW]; exact beq_code _ 1
        rw [hX] at k1
        rw [hY] at k2
        have q0 := cell_regrown i0
        have q1 := cell_regrown i1
        have q2 := cell_regrown i2
        have q5 := cell_regrown n5
        clear HV HO hX hY i1 i2 n5 hrow hA ga gb hZ hW
        generalize (accAt D ia).1 = fa at *
        generalize (accAt D ib).1 = fb at *
        generalize (accAt D ia).2 = sa at *
        generalize (accAt D ib).2 = sb at *
        generalize D.accs.length = N at *
        cases Z <;> cases W
        all_goals
          go_wp2_with fail
          clear i0
          refine wp_region_quiet_below (by kernel_rfl) (by kernel_rfl) ?_
          repeat (go_big_quiet_step (first | (go_at_call 111; with_reducible exact Calls.regrown_of (k1 _ _)) | (go_at_call 111; with_reducible exact Calls.regrown_of (k2 _ _))))
          refine wpQuiet_nil ?_
          intro _ hw'
          obtain ⟨⟨dq, osq⟩, hw''⟩ := hw'
          subst hw''
          go_wp2
          go_ret
          exact ⟨by rw [HE.out]; rfl, HF.out _ _⟩
  · obtain ⟨h3, h4, h5, h6, h14, h15, h23, h10, h11, h16⟩ := hc
    have hu : usesC c = 0 := by unfold usesC; rw [if_neg (by omega), if_neg (by omega)]
    rw [hu]
    have HO : Bx (opsB D ⟨c, a, b⟩ = (a == 0 && b == 0)) := ⟨by simp only [opsB, h3, h4, h5, h6, h14, h15, h23, h10, h11, h16, if_false, or_self]⟩
    obtain ⟨X, hX⟩ : ∃ X, (a == 0) = X := ⟨_, rfl⟩
    obtain ⟨Y, hY⟩ : ∃ Y, (b == 0) = Y := ⟨_, rfl⟩
    have HE : Bx (V = (X && Y)) := ⟨by rw [HV.out, HO.out, hX, hY]⟩
    clear HV HO hu h3 h4 h5 h6 h14 h15 h23 h10 h11 h16
    cases X <;> cases Y
    all_goals
      go_wp2
      go_ret
      exact ⟨by rw [HE.out]; rfl, by rw [HZ.out]; exact H0.out.below⟩
end Go.Proofs.YtbcajmkmadgbhaaGreatDoor
