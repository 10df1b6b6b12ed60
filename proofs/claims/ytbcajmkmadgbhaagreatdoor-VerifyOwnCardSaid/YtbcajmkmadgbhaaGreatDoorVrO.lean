/- Verify, the document's answer: in, Filters, Outputs, Moves, At, operands. -/
import Derived.Test.YtbcajmkmadgbhaaGreatDoorVrN
import Derived.Test.YtbcajmkmadgbhaaGreatDoorSameA
set_option linter.unusedSimpArgs false
set_option linter.unusedVariables false
namespace Go.Proofs.YtbcajmkmadgbhaaGreatDoor
open Go.RowKit
theorem in_any (n : Int) (m : Nat) (w : World) : Calls Tryz.prog 94 #[.int .i64 n, .int .i64 m] w fun e w' => e = .returned (.bool (inB n m)) ∧ w = w' := by
  unfold inB
  obtain ⟨X, hX⟩ : ∃ X, decide (0 ≤ n) = X := ⟨_, rfl⟩
  obtain ⟨Y, hY⟩ : ∃ Y, decide (n < (m : Int)) = Y := ⟨_, rfl⟩
  rw [hX, hY]
  cases X <;> cases Y <;>
  · go_enter Tryz.func94, Tryz.ntmps94
    go_wp2
    go_ret
    exact ⟨rfl, rfl⟩
theorem filters_any (c : Nat) (w : World) : Calls Tryz.prog 70 #[.int .u8 (c : Int)] w fun e w' => e = .returned (.bool (okC true c)) ∧ w = w' := by
  have ho : okC true c = (decide ((1 : Int) ≤ (c : Int)) && decide ((c : Int) ≤ 13)) := by
    unfold okC
    rw [if_pos rfl]
    have e1 : decide (1 ≤ c) = decide ((1 : Int) ≤ (c : Int)) := by rw [decide_eq_decide]; omega
    have e2 : decide (c ≤ 13) = decide ((c : Int) ≤ 13) := by rw [decide_eq_decide]; omega
    rw [e1, e2]
  obtain ⟨X, hX⟩ : ∃ X, decide ((1 : Int) ≤ (c : Int)) = X := ⟨_, rfl⟩
  obtain ⟨Y, hY⟩ : ∃ Y, decide ((c : Int) ≤ 13) = Y := ⟨_, rfl⟩
  rw [ho, hX, hY]
  clear ho
  cases X <;> cases Y <;>
  · go_enter Tryz.func70, Tryz.ntmps70
    go_wp2
    go_ret
    exact ⟨rfl, rfl⟩
theorem outputs_any (c : Nat) (w : World) : Calls Tryz.prog 71 #[.int .u8 (c : Int)] w fun e w' => e = .returned (.bool (okC false c)) ∧ w = w' := by
  have ho : okC false c = (decide ((14 : Int) ≤ (c : Int)) && decide ((c : Int) ≤ 24)) := by
    unfold okC
    rw [if_neg (by simp)]
    have e1 : decide (14 ≤ c) = decide ((14 : Int) ≤ (c : Int)) := by rw [decide_eq_decide]; omega
    have e2 : decide (c ≤ 24) = decide ((c : Int) ≤ 24) := by rw [decide_eq_decide]; omega
    rw [e1, e2]
  obtain ⟨X, hX⟩ : ∃ X, decide ((14 : Int) ≤ (c : Int)) = X := ⟨_, rfl⟩
  obtain ⟨Y, hY⟩ : ∃ Y, decide ((c : Int) ≤ 24) = Y := ⟨_, rfl⟩
  rw [ho, hX, hY]
  clear ho
  cases X <;> cases Y <;>
  · go_enter Tryz.func71, Tryz.ntmps71
    go_wp2
    go_ret
    exact ⟨rfl, rfl⟩
set_option maxHeartbeats 4000000 in
theorem moves_any (c : Nat) (w : World) : Calls Tryz.prog 74 #[.int .u8 (c : Int)] w fun e w' => e = .returned (.tuple #[.int .i64 (takesC c), .int .i64 (putsC c)]) ∧ w = w' := by
  have hcs : c = 7 ∨ c = 17 ∨ c = 10 ∨ c = 11 ∨ c = 8 ∨ c = 9 ∨ c = 18 ∨ c = 19 ∨ c = 20 ∨ c = 21 ∨ c = 22 ∨ c = 12 ∨ c = 13 ∨ c = 23 ∨ c = 24 ∨ (c ≠ 7 ∧ c ≠ 17 ∧ c ≠ 10 ∧ c ≠ 11 ∧ c ≠ 8 ∧ c ≠ 9 ∧ c ≠ 18 ∧ c ≠ 19 ∧ c ≠ 20 ∧ c ≠ 21 ∧ c ≠ 22 ∧ c ≠ 12 ∧ c ≠ 13 ∧ c ≠ 23 ∧ c ≠ 24) := by omega
  rcases hcs with rfl | rfl | rfl | rfl | rfl | rfl | rfl | rfl | rfl | rfl | rfl | rfl | rfl | rfl | rfl | hc
  · go_enter Tryz.func74, Tryz.ntmps74
    go_wp2
    go_ret2
    exact ⟨rfl, rfl⟩
  · go_enter Tryz.func74, Tryz.ntmps74
    go_wp2
    go_ret2
    exact ⟨rfl, rfl⟩
  · go_enter Tryz.func74, Tryz.ntmps74
    go_wp2
    go_ret2
    exact ⟨rfl, rfl⟩
  · go_enter Tryz.func74, Tryz.ntmps74
    go_wp2
    go_ret2
    exact ⟨rfl, rfl⟩
  · go_enter Tryz.func74, Tryz.ntmps74
    go_wp2
    go_ret2
    exact ⟨rfl, rfl⟩
  · go_enter Tryz.func74, Tryz.ntmps74
    go_wp2
    go_ret2
    exact ⟨rfl, rfl⟩
  · go_enter Tryz.func74, Tryz.ntmps74
    go_wp2
    go_ret2
    exact ⟨rfl, rfl⟩
  · go_enter Tryz.func74, Tryz.ntmps74
    go_wp2
    go_ret2
    exact ⟨rfl, rfl⟩
  · go_enter Tryz.func74, Tryz.ntmps74
    go_wp2
    go_ret2
    exact ⟨rfl, rfl⟩
  · go_enter Tryz.func74, Tryz.ntmps74
    go_wp2
    go_ret2
    exact ⟨rfl, rfl⟩
  · go_enter Tryz.func74, Tryz.ntmps74
    go_wp2
    go_ret2
    exact ⟨rfl, rfl⟩
  · go_enter Tryz.func74, Tryz.ntmps74
    go_wp2
    go_ret2
    exact ⟨rfl, rfl⟩
  · go_enter Tryz.func74, Tryz.ntmps74
    go_wp2
    go_ret2
    exact ⟨rfl, rfl⟩
  · go_enter Tryz.func74, Tryz.ntmps74
    go_wp2
    go_ret2
    exact ⟨rfl, rfl⟩
  · go_enter Tryz.func74, Tryz.ntmps74
    go_wp2
    go_ret2
    exact ⟨rfl, rfl⟩
  · obtain ⟨h7, h17, h10, h11, h8, h9, h18, h19, h20, h21, h22, h12, h13, h23, h24⟩ := hc
    have e7 : (((c : Int) == 7) : Bool) = false := by simp; omega
    have e17 : (((c : Int) == 17) : Bool) = false := by simp; omega
    have e10 : (((c : Int) == 10) : Bool) = false := by simp; omega
    have e11 : (((c : Int) == 11) : Bool) = false := by simp; omega
    have e8 : (((c : Int) == 8) : Bool) = false := by simp; omega
    have e9 : (((c : Int) == 9) : Bool) = false := by simp; omega
    have e18 : (((c : Int) == 18) : Bool) = false := by simp; omega
    have e19 : (((c : Int) == 19) : Bool) = false := by simp; omega
    have e20 : (((c : Int) == 20) : Bool) = false := by simp; omega
    have e21 : (((c : Int) == 21) : Bool) = false := by simp; omega
    have e22 : (((c : Int) == 22) : Bool) = false := by simp; omega
    have e12 : (((c : Int) == 12) : Bool) = false := by simp; omega
    have e13 : (((c : Int) == 13) : Bool) = false := by simp; omega
    have e23 : (((c : Int) == 23) : Bool) = false := by simp; omega
    have e24 : (((c : Int) == 24) : Bool) = false := by simp; omega
    have ht : takesC c = 0 := by unfold takesC; rw [if_neg (by omega), if_neg (by omega)]
    have hp : putsC c = 1 := by unfold putsC; rw [if_neg (by omega)]
    rw [ht, hp]
    clear ht hp h7 h17 h10 h11 h8 h9 h18 h19 h20 h21 h22 h12 h13 h23 h24
    go_enter Tryz.func74, Tryz.ntmps74
    go_wp2
    go_ret2
    exact ⟨rfl, rfl⟩
theorem rat_any (p c : Int) (w : World) (hc : 1 ≤ c) : Calls Tryz.prog 72 #[.int .i64 p, .int .i64 c] w fun e w' => e = .returned (badAt p c) ∧ Below w.heap.size w w' := by
  have h : (c == 0) = false := by simp; omega
  go_enter Tryz.func72, Tryz.ntmps72
  go_wp2
  exact bodyPost_ret (v := badAt p c) (by simp [results, Tryz.results72, go_sem]) rfl ⟨rfl, below1 _ _⟩
/-- the two boxes of a program and an instruction -/
structure OpR (w w0 : World) (S : Nat) (D : PrgD) (L : PLoc) (i : InsD) : Prop where
  box : PBox w0 S D L
  ins : ∃ T, w0.heap[S + 1]? = some (.cells (insC i) T (0, 0))
  below : Below S w w0
  mem : PrgM w0 D L
theorem OpR.alloc (w : World) (D : PrgD) (L : PLoc) (i : InsD) (T1 T2 : TypeId) (hM : PrgM w D L) : OpR w ((w.alloc (.cells (prgC D L) T1)).alloc (.cells (insC i) T2)) w.heap.size D L i where
  box := (PBox.alloc w D L T1).below (below1 _ _)
  ins := ⟨T2, by
    have := heap_alloc_new (w.alloc (.cells (prgC D L) T1)) (.cells (insC i) T2)
    simpa only [heap_push, Array.size_push] using this⟩
  below := below2 _ _ _
  mem := hM.below (below2 _ _ _)
set_option maxHeartbeats 8000000 in
set_option maxRecDepth 100000 in
theorem rops_any (D : PrgD) (L : PLoc) (i : InsD) (w : World) (hM : PrgM w D L) (hi : InsB i) :
    Calls Tryz.prog 73 #[prgV D L, insV i] w fun e w' => e = .returned (.bool (opsB D i)) ∧ Below w.heap.size w w' := by
  obtain ⟨c, a, b⟩ := i
  have H0 : Bx _ := ⟨OpR.alloc w D L ⟨c, a, b⟩ 28 94 hM⟩
  obtain ⟨V, hV⟩ : ∃ V, V = opsB D ⟨c, a, b⟩ := ⟨_, rfl⟩
  rw [← hV]
  have HV : Bx _ := ⟨hV⟩
  have HI : Bx _ := ⟨hi⟩
  clear hV hM hi
  go_enter Tryz.func73, Tryz.ntmps73
  go_upto_region 1 with (fail)
  generalize ((w.alloc (.cells (prgC D L) 28)).alloc (.cells #[.int .u8 (c : Int), .int .i64 a, .int .i64 b] 94)) = w0 at *
  generalize hS : w.heap.size = S at *
  have HZ : Bx (w.heap.size = S) := ⟨hS⟩
  clear hS
  obtain ⟨T, hins⟩ := H0.out.ins
  have i0 : w0.cell? ⟨S + 1, 0, none⟩ = some (.int .u8 (c : Int)) := cells_at hins 0 _ rfl
  have i1 : w0.cell? ⟨S + 1, 1, none⟩ = some (.int .i64 a) := cells_at hins 1 _ rfl
  have i2 : w0.cell? ⟨S + 1, 2, none⟩ = some (.int .i64 b) := cells_at hins 2 _ rfl
  clear hins
  have hcs : c = 3 ∨ c = 4 ∨ c = 5 ∨ c = 6 ∨ c = 14 ∨ c = 15 ∨ c = 23 ∨ c = 10 ∨ c = 11 ∨ c = 16 ∨ (c ≠ 3 ∧ c ≠ 4 ∧ c ≠ 5 ∧ c ≠ 6 ∧ c ≠ 14 ∧ c ≠ 15 ∧ c ≠ 23 ∧ c ≠ 10 ∧ c ≠ 11 ∧ c ≠ 16) := by omega
  rcases hcs with rfl | rfl | rfl | rfl | rfl | rfl | rfl | rfl | rfl | rfl | hc
  · have HO : Bx (opsB D ⟨3, a, b⟩ = (inB a D.names.length && inB b D.texts.length)) := ⟨rfl⟩
    have k1 := fun w => in_any a D.names.length w
    have k2 := fun w => in_any b D.texts.length w
    obtain ⟨X, hX⟩ : ∃ X, inB a D.names.length = X := ⟨_, rfl⟩
    obtain ⟨Y, hY⟩ : ∃ Y, inB b D.texts.length = Y := ⟨_, rfl⟩
    rw [hX] at k1
    rw [hY] at k2
    have HE : Bx (V = (X && Y)) := ⟨by rw [HV.out, HO.out, hX, hY]⟩
    have n7 := H0.out.box.cell 7 _ rfl
    have n8 := H0.out.box.cell 8 _ rfl
    clear hX hY HV HO
    cases X
    · go_wp2_with fail
      refine (k1 _).mono ?_
      rintro e w2 ⟨rfl, rfl⟩
      go_wp2
      go_ret
      exact ⟨by rw [HE.out]; rfl, by rw [HZ.out]; exact H0.out.below⟩
    · go_wp2_with fail
      refine (k1 _).mono ?_
      rintro e w2 ⟨rfl, rfl⟩
      go_wp2_with fail
      refine (k2 _).mono ?_
      rintro e w3 ⟨rfl, rfl⟩
      go_wp2
      go_ret
      exact ⟨by rw [HE.out]; cases Y <;> rfl, by rw [HZ.out]; exact H0.out.below⟩
  · have HO : Bx (opsB D ⟨4, a, b⟩ = (inB a D.names.length && inB b D.lists.length)) := ⟨rfl⟩
    have k1 := fun w => in_any a D.names.length w
    have k2 := fun w => in_any b D.lists.length w
    obtain ⟨X, hX⟩ : ∃ X, inB a D.names.length = X := ⟨_, rfl⟩
    obtain ⟨Y, hY⟩ : ∃ Y, inB b D.lists.length = Y := ⟨_, rfl⟩
    rw [hX] at k1
    rw [hY] at k2
    have HE : Bx (V = (X && Y)) := ⟨by rw [HV.out, HO.out, hX, hY]⟩
    have n7 := H0.out.box.cell 7 _ rfl
    have n9 := H0.out.box.cell 9 _ rfl
    clear hX hY HV HO
    cases X
    · go_wp2_with fail
      refine (k1 _).mono ?_
      rintro e w2 ⟨rfl, rfl⟩
      go_wp2
      go_ret
      exact ⟨by rw [HE.out]; rfl, by rw [HZ.out]; exact H0.out.below⟩
    · go_wp2_with fail
      refine (k1 _).mono ?_
      rintro e w2 ⟨rfl, rfl⟩
      go_wp2_with fail
      refine (k2 _).mono ?_
      rintro e w3 ⟨rfl, rfl⟩
      go_wp2
      go_ret
      exact ⟨by rw [HE.out]; cases Y <;> rfl, by rw [HZ.out]; exact H0.out.below⟩
  · have HO : Bx (opsB D ⟨5, a, b⟩ = (inB a D.names.length && inB b D.names.length)) := ⟨rfl⟩
    have k1 := fun w => in_any a D.names.length w
    have k2 := fun w => in_any b D.names.length w
    obtain ⟨X, hX⟩ : ∃ X, inB a D.names.length = X := ⟨_, rfl⟩
    obtain ⟨Y, hY⟩ : ∃ Y, inB b D.names.length = Y := ⟨_, rfl⟩
    rw [hX] at k1
    rw [hY] at k2
    have HE : Bx (V = (X && Y)) := ⟨by rw [HV.out, HO.out, hX, hY]⟩
    have n7 := H0.out.box.cell 7 _ rfl
    clear hX hY HV HO
    cases X
    · go_wp2_with fail
      refine (k1 _).mono ?_
      rintro e w2 ⟨rfl, rfl⟩
      go_wp2
      go_ret
      exact ⟨by rw [HE.out]; rfl, by rw [HZ.out]; exact H0.out.below⟩
    · go_wp2_with fail
      refine (k1 _).mono ?_
      rintro e w2 ⟨rfl, rfl⟩
      go_wp2_with fail
      refine (k2 _).mono ?_
      rintro e w3 ⟨rfl, rfl⟩
      go_wp2
      go_ret
      exact ⟨by rw [HE.out]; cases Y <;> rfl, by rw [HZ.out]; exact H0.out.below⟩
  · have HO : Bx (opsB D ⟨6, a, b⟩ = (inB a 6 && inB b D.times.length)) := ⟨rfl⟩
    have k1 := fun w => in_any a 6 w
    have k2 := fun w => in_any b D.times.length w
    obtain ⟨X, hX⟩ : ∃ X, inB a 6 = X := ⟨_, rfl⟩
    obtain ⟨Y, hY⟩ : ∃ Y, inB b D.times.length = Y := ⟨_, rfl⟩
    rw [hX] at k1
    rw [hY] at k2
    have HE : Bx (V = (X && Y)) := ⟨by rw [HV.out, HO.out, hX, hY]⟩
    have n10 := H0.out.box.cell 10 _ rfl
    clear hX hY HV HO
    cases X
    · go_wp2_with fail
      refine (k1 _).mono ?_
      rintro e w2 ⟨rfl, rfl⟩
      go_wp2
      go_ret
      exact ⟨by rw [HE.out]; rfl, by rw [HZ.out]; exact H0.out.below⟩
    · go_wp2_with fail
      refine (k1 _).mono ?_
      rintro e w2 ⟨rfl, rfl⟩
      go_wp2_with fail
      refine (k2 _).mono ?_
      rintro e w3 ⟨rfl, rfl⟩
      go_wp2
      go_ret
      exact ⟨by rw [HE.out]; cases Y <;> rfl, by rw [HZ.out]; exact H0.out.below⟩
  · have HO : Bx (opsB D ⟨14, a, b⟩ = (inB a D.accs.length && b == 0)) := ⟨rfl⟩
    have k1 := fun w => in_any a D.accs.length w
    obtain ⟨X, hX⟩ : ∃ X, inB a D.accs.length = X := ⟨_, rfl⟩
    rw [hX] at k1
    have n5 := H0.out.box.cell 5 _ rfl
    obtain ⟨Y, hY⟩ : ∃ Y, (b == 0) = Y := ⟨_, rfl⟩
    have HE : Bx (V = (X && Y)) := ⟨by rw [HV.out, HO.out, hX, hY]⟩
    clear hX HV HO
    cases X
    · go_wp2_with fail
      refine (k1 _).mono ?_
      rintro e w2 ⟨rfl, rfl⟩
      go_wp2
      go_ret
      exact ⟨by rw [HE.out]; rfl, by rw [HZ.out]; exact H0.out.below⟩
    · go_wp2_with fail
      refine (k1 _).mono ?_
      rintro e w2 ⟨rfl, rfl⟩
      go_wp2
      go_ret
      exact ⟨by rw [HE.out]; cases Y <;> rfl, by rw [HZ.out]; exact H0.out.below⟩
  · have HO : Bx (opsB D ⟨15, a, b⟩ = (inB a D.ints.length && b == 0)) := ⟨rfl⟩
    have k1 := fun w => in_any a D.ints.length w
    obtain ⟨X, hX⟩ : ∃ X, inB a D.ints.length = X := ⟨_, rfl⟩
    rw [hX] at k1
    have n11 := H0.out.box.cell 11 _ rfl
    obtain ⟨Y, hY⟩ : ∃ Y, (b == 0) = Y := ⟨_, rfl⟩
    have HE : Bx (V = (X && Y)) := ⟨by rw [HV.out, HO.out, hX, hY]⟩
    clear hX HV HO
    cases X
    · go_wp2_with fail
      refine (k1 _).mono ?_
      rintro e w2 ⟨rfl, rfl⟩
      go_wp2
      go_ret
      exact ⟨by rw [HE.out]; rfl, by rw [HZ.out]; exact H0.out.below⟩
    · go_wp2_with fail
      refine (k1 _).mono ?_
      rintro e w2 ⟨rfl, rfl⟩
      go_wp2
      go_ret
      exact ⟨by rw [HE.out]; cases Y <;> rfl, by rw [HZ.out]; exact H0.out.below⟩
  · have HO : Bx (opsB D ⟨23, a, b⟩ = (inB a D.aliases.length && b == 0)) := ⟨rfl⟩
    have k1 := fun w => in_any a D.aliases.length w
    obtain ⟨X, hX⟩ : ∃ X, inB a D.aliases.length = X := ⟨_, rfl⟩
    rw [hX] at k1
    have n6 := H0.out.box.cell 6 _ rfl
    obtain ⟨Y, hY⟩ : ∃ Y, (b == 0) = Y := ⟨_, rfl⟩
    have HE : Bx (V = (X && Y)) := ⟨by rw [HV.out, HO.out, hX, hY]⟩
    clear hX HV HO
    cases X
    · go_wp2_with fail
      refine (k1 _).mono ?_
      rintro e w2 ⟨rfl, rfl⟩
      go_wp2
      go_ret
      exact ⟨by rw [HE.out]; rfl, by rw [HZ.out]; exact H0.out.below⟩
    · go_wp2_with fail
      refine (k1 _).mono ?_
      rintro e w2 ⟨rfl, rfl⟩
      go_wp2
      go_ret
      exact ⟨by rw [HE.out]; cases Y <;> rfl, by rw [HZ.out]; exact H0.out.below⟩
  · have HO : Bx (opsB D ⟨10, a, b⟩ = (b == 0)) := ⟨rfl⟩
    obtain ⟨X, hX⟩ : ∃ X, (b == 0) = X := ⟨_, rfl⟩
    have HE : Bx (V = X) := ⟨by rw [HV.out, HO.out, hX]⟩
    clear HV HO
    cases X
    all_goals
      go_wp2
      go_ret
      exact ⟨by rw [HE.out]; rfl, by rw [HZ.out]; exact H0.out.below⟩
  · have HO : Bx (opsB D ⟨11, a, b⟩ = (b == 0)) := ⟨rfl⟩
    obtain ⟨X, hX⟩ : ∃ X, (b == 0) = X := ⟨_, rfl⟩
    have HE : Bx (V = X) := ⟨by rw [HV.out, HO.out, hX]⟩
    clear HV HO
    cases X
    all_goals
      go_wp2
      go_ret
      exact ⟨by rw [HE.out]; rfl, by rw [HZ.out]; exact H0.out.below⟩
  · have HO : Bx (opsB D ⟨16, a, b⟩ = (inB a D.accs.length && inB b D.accs.length && (accAt D a).1 == 2 && (accAt D b).1 == 1 && (accAt D a).2 == (accAt D b).2)) := ⟨rfl⟩
    have k1 : ∀ d os, Calls Tryz.prog 94 #[.int .i64 a, .int .i64 (D.accs.length : Nat)] (Go.Sort.grow (redrawn w0 d) os) (fun e w' => e = .returned (.bool (inB a D.accs.length)) ∧ Below (Go.Sort.grow (redrawn w0 d) os).heap.size (Go.Sort.grow (redrawn w0 d) os) w') := fun d os => (in_any a D.accs.length _).mono fun e w' h => ⟨h.1, by rw [← h.2]; exact Below.refl _ _⟩
    have k2 : ∀ d os, Calls Tryz.prog 94 #[.int .i64 b, .int .i64 (D.accs.length : Nat)] (Go.Sort.grow (redrawn w0 d) os) (fun e w' => e = .returned (.bool (inB b D.accs.length)) ∧ Below (Go.Sort.grow (redrawn w0 d) os).heap.size (Go.Sort.grow (redrawn w0 d) os) w') := fun d os => (in_any b D.accs.length _).mono fun e w' h => ⟨h.1, by rw [← h.2]; exact Below.refl _ _⟩
    have n5 : w0.cell? ⟨S, 5, none⟩ = some (.slice L.ac D.accs.length L.cc) := H0.out.box.cell 5 _ rfl
    have fin : ∀ dq osq, Below w.heap.size w (Go.Sort.grow (redrawn w0 dq) osq) := fun dq osq => by
      rw [HZ.out]
      exact H0.out.below.trans ((below_regrown w0 dq osq).mono (Nat.le_of_lt H0.out.box.lt))
    have HF : Bx _ := ⟨fin⟩
    clear fin
    cases hX : inB a D.accs.length with
    | false =>
      have HE : Bx (V = false) := ⟨by rw [HV.out, HO.out, hX]; rfl⟩
      rw [hX] at k1
      have q0 := cell_regrown i0
      have q1 := cell_regrown i1
      have q2 := cell_regrown i2
      have q5 := cell_regrown n5
      clear HV HO hX i1 i2 n5 k2
      go_wp2_with fail
      clear i0
      refine wp_region_quiet_below (by kernel_rfl) (by kernel_rfl) ?_
      repeat (go_big_quiet_step (first | (go_at_call 94; with_reducible exact Calls.regrown_of (k1 _ _))))
      refine wpQuiet_nil ?_
      intro _ hw'
      obtain ⟨⟨dq, osq⟩, hw''⟩ := hw'
      subst hw''
      go_wp2
      go_ret
      exact ⟨by rw [HE.out]; rfl, HF.out _ _⟩
    | true =>
      cases hY : inB b D.accs.length with
      | false =>
        have HE : Bx (V = false) := ⟨by rw [HV.out, HO.out, hX, hY]; rfl⟩
        rw [hX] at k1
        rw [hY] at k2
        have q0 := cell_regrown i0
        have q1 := cell_regrown i1
        have q2 := cell_regrown i2
        have q5 := cell_regrown n5
        clear HV HO hX hY i1 i2 n5
        go_wp2_with fail
        clear i0
        refine wp_region_quiet_below (by kernel_rfl) (by kernel_rfl) ?_
        repeat (go_big_quiet_step (first | (go_at_call 94; with_reducible exact Calls.regrown_of (k1 _ _)) | (go_at_call 94; with_reducible exact Calls.regrown_of (k2 _ _))))
        refine wpQuiet_nil ?_
        intro _ hw'
        obtain ⟨⟨dq, osq⟩, hw''⟩ := hw'
        subst hw''
        go_wp2
        go_ret
        exact ⟨by rw [HE.out]; rfl, HF.out _ _⟩
      | true =>
        obtain ⟨ia, rfl, hia⟩ : ∃ ia : Nat, a = ia ∧ ia < D.accs.length := by
          unfold inB at hX
          simp only [Bool.and_eq_true, decide_eq_true_eq] at hX
          exact ⟨a.toNat, by omega, by omega⟩
        obtain ⟨ib, rfl, hib⟩ : ∃ ib : Nat, b = ib ∧ ib < D.accs.length := by
          unfold inB at hY
          simp only [Bool.and_eq_true, decide_eq_true_eq] at hY
          exact ⟨b.toNat, by omega, by omega⟩
        obtain ⟨pb, off, hA, hrow⟩ := H0.out.mem.accs.row (by omega)
        have ga : D.accs[ia]? = some (accAt D ia) := by unfold accAt; rw [Int.toNat_natCast, List.getD_eq_getElem?_getD, List.getElem?_eq_getElem hia]; rfl
        have gb : D.accs[ib]? = some (accAt D ib) := by unfold accAt; rw [Int.toNat_natCast, List.getD_eq_getElem?_getD, List.getElem?_eq_getElem hib]; rfl
        have r0 := cell_regrown (show w0.cell? ⟨pb, off + ia * 2, none⟩ = some (.int .u8 ((accAt D ia).1 : Int)) from hrow ia _ ga 0 _ rfl)
        have r1 := cell_regrown (hrow ia _ ga 1 _ rfl)
        have r2 := cell_regrown (show w0.cell? ⟨pb, off + ib * 2, none⟩ = some (.int .u8 ((accAt D ib).1 : Int)) from hrow ib _ gb 0 _ rfl)
        have r3 := cell_regrown (hrow ib _ gb 1 _ rfl)
        rw [hA] at n5
        obtain ⟨Z, hZ⟩ : ∃ Z, ((accAt D ia).1 == 2) = Z := ⟨_, rfl⟩
        obtain ⟨W, hW⟩ : ∃ W, ((accAt D ib).1 == 1) = W := ⟨_, rfl⟩
        obtain ⟨E, hE⟩ : ∃ E, ((accAt D ia).2 == (accAt D ib).2) = E := ⟨_, rfl⟩
        have HE : Bx (V = (Z && W && E)) := ⟨by rw [HV.out, HO.out, hX, hY, hZ, hW, hE]; rfl⟩
        have e1 : ((((accAt D ia).1 : Int) == 2) : Bool) = Z := by rw [← hZ]; exact beq_code _ 2
        have e2 : ((((accAt D ib).1 : Int) == 1) : Bool) = W := by rw [← hW]; exact beq_code _ 1
        rw [hX] at k1
        rw [hY] at k2
        have q0 := cell_regrown i0
        have q1 := cell_regrown i1
        have q2 := cell_regrown i2
        have q5 := cell_regrown n5
        clear HV HO hX hY i1 i2 n5 hrow hA ga gb hZ hW
        generalize (accAt D ia).1 = fa at *
        generalize (accAt D ib).1 = fb at *
        generalize (accAt D ia).2 = sa at *
        generalize (accAt D ib).2 = sb at *
        generalize D.accs.length = N at *
        cases Z <;> cases W
        all_goals
          go_wp2_with fail
          clear i0
          refine wp_region_quiet_below (by kernel_rfl) (by kernel_rfl) ?_
          repeat (go_big_quiet_step (first | (go_at_call 94; with_reducible exact Calls.regrown_of (k1 _ _)) | (go_at_call 94; with_reducible exact Calls.regrown_of (k2 _ _))))
          refine wpQuiet_nil ?_
          intro _ hw'
          obtain ⟨⟨dq, osq⟩, hw''⟩ := hw'
          subst hw''
          go_wp2
          go_ret
          exact ⟨by rw [HE.out]; rfl, HF.out _ _⟩
  · obtain ⟨h3, h4, h5, h6, h14, h15, h23, h10, h11, h16⟩ := hc
    have e3 : (((c : Int) == 3) : Bool) = false := by simp; omega
    have e4 : (((c : Int) == 4) : Bool) = false := by simp; omega
    have e5 : (((c : Int) == 5) : Bool) = false := by simp; omega
    have e6 : (((c : Int) == 6) : Bool) = false := by simp; omega
    have e14 : (((c : Int) == 14) : Bool) = false := by simp; omega
    have e15 : (((c : Int) == 15) : Bool) = false := by simp; omega
    have e23 : (((c : Int) == 23) : Bool) = false := by simp; omega
    have e10 : (((c : Int) == 10) : Bool) = false := by simp; omega
    have e11 : (((c : Int) == 11) : Bool) = false := by simp; omega
    have e16 : (((c : Int) == 16) : Bool) = false := by simp; omega
    have HO : Bx (opsB D ⟨c, a, b⟩ = (a == 0 && b == 0)) := ⟨by simp only [opsB, h3, h4, h5, h6, h14, h15, h23, h10, h11, h16, if_false, or_self]⟩
    obtain ⟨X, hX⟩ : ∃ X, (a == 0) = X := ⟨_, rfl⟩
    obtain ⟨Y, hY⟩ : ∃ Y, (b == 0) = Y := ⟨_, rfl⟩
    have HE : Bx (V = (X && Y)) := ⟨by rw [HV.out, HO.out, hX, hY]⟩
    clear HV HO h3 h4 h5 h6 h14 h15 h23 h10 h11 h16
    cases X <;> cases Y
    all_goals
      go_wp2
      go_ret
      exact ⟨by rw [HE.out]; rfl, by rw [HZ.out]; exact H0.out.below⟩
end Go.Proofs.YtbcajmkmadgbhaaGreatDoor
