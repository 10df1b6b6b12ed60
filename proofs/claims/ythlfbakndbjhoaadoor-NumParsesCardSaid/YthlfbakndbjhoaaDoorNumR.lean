/- Contracts of num.Small, num.Mul, and of the document's Add, Sub, Mul, Neg, Div, Mod. -/
import Derived.Test.YthlfbakndbjhoaaDoorNumWin
import Derived.Test.YthlfbakndbjhoaaDoorShelf
set_option linter.unusedSimpArgs false
set_option linter.unusedVariables false
namespace Go.Proofs.YthlfbakndbjhoaaDoor
open Go.RowKit

/-- the number of an int64: a premise in one word -/
structure I64 (a : Int) : Prop where
  lo : -9223372036854775808 ≤ a
  hi : a ≤ 9223372036854775807

theorem badnew_x (c : Int) (w : World) : Calls Tryd.prog 51 #[.int .i64 c] w fun e w' => e = .returned (badV c) ∧ w.alloc (.cells #[.int .i64 c, .int .i64 0, .int .i64 0, .bool false, .bool false] 44) = w' := by
  go_enter Tryd.func51, Tryd.ntmps51
  go_wp2
  exact bodyPost_ret (v := badV c) (by simp [results, Tryd.results51, go_sem]) rfl ⟨rfl, rfl⟩
theorem radd_ok (a b : Int) (w : World) (h0 : -9223372036854775808 ≤ a + b) (h1 : a + b ≤ 9223372036854775807) :
    Calls Tryd.prog 21 #[.int .i64 a, .int .i64 b] w fun e w' => e = .returned (.tuple #[.int .i64 (a + b), badV 0]) ∧ Below w.heap.size w w' := by
  go_enter Tryd.func21, Tryd.ntmps21
  go_wp2
  all_goals exact bodyPost_ret (v := .tuple #[.int .i64 (a + b), badV 0]) (by simp [results, Tryd.results21, go_sem]) rfl ⟨rfl, below1 _ _⟩
theorem radd_over (a b : Int) (w : World) (ha : I64 a) (hb : I64 b) (h : ¬ (-9223372036854775808 ≤ a + b ∧ a + b ≤ 9223372036854775807)) :
    Calls Tryd.prog 21 #[.int .i64 a, .int .i64 b] w fun e w' => e = .returned (.tuple #[.int .i64 0, badV 20]) ∧ Below w.heap.size w w' := by
  obtain ⟨a0, a1⟩ := ha
  obtain ⟨b0, b1⟩ := hb
  by_cases hp : 0 < b
  · have t : wrap64 (a + b) < a := by unfold wrap64; omega
    clear h a0 a1 b0 b1
    go_enter Tryd.func21, Tryd.ntmps21
    go_wp2_with (go_at_call 51; refine (badnew_x _ _).mono ?_; rintro e w' ⟨rfl, rfl⟩)
    exact bodyPost_ret (v := .tuple #[.int .i64 0, badV 20]) (by simp [results, Tryd.results21, go_sem]) rfl ⟨rfl, below2 _ _ _⟩
  · have t : a < wrap64 (a + b) := by unfold wrap64; omega
    have t2 : b < 0 := by omega
    clear h a0 a1 b0 b1
    go_enter Tryd.func21, Tryd.ntmps21
    go_wp2_with (go_at_call 51; refine (badnew_x _ _).mono ?_; rintro e w' ⟨rfl, rfl⟩)
    exact bodyPost_ret (v := .tuple #[.int .i64 0, badV 20]) (by simp [results, Tryd.results21, go_sem]) rfl ⟨rfl, below2 _ _ _⟩
theorem rsub_ok (a b : Int) (w : World) (h0 : -9223372036854775808 ≤ a - b) (h1 : a - b ≤ 9223372036854775807) :
    Calls Tryd.prog 24 #[.int .i64 a, .int .i64 b] w fun e w' => e = .returned (.tuple #[.int .i64 (a - b), badV 0]) ∧ Below w.heap.size w w' := by
  go_enter Tryd.func24, Tryd.ntmps24
  go_wp2
  all_goals exact bodyPost_ret (v := .tuple #[.int .i64 (a - b), badV 0]) (by simp [results, Tryd.results24, go_sem]) rfl ⟨rfl, below1 _ _⟩
theorem rsub_over (a b : Int) (w : World) (ha : I64 a) (hb : I64 b) (h : ¬ (-9223372036854775808 ≤ a - b ∧ a - b ≤ 9223372036854775807)) :
    Calls Tryd.prog 24 #[.int .i64 a, .int .i64 b] w fun e w' => e = .returned (.tuple #[.int .i64 0, badV 20]) ∧ Below w.heap.size w w' := by
  obtain ⟨a0, a1⟩ := ha
  obtain ⟨b0, b1⟩ := hb
  by_cases hp : 0 < b
  · have t : a < wrap64 (a - b) := by unfold wrap64; omega
    clear h a0 a1 b0 b1
    go_enter Tryd.func24, Tryd.ntmps24
    go_wp2_with (go_at_call 51; refine (badnew_x _ _).mono ?_; rintro e w' ⟨rfl, rfl⟩)
    exact bodyPost_ret (v := .tuple #[.int .i64 0, badV 20]) (by simp [results, Tryd.results24, go_sem]) rfl ⟨rfl, below2 _ _ _⟩
  · have t : wrap64 (a - b) < a := by unfold wrap64; omega
    have t2 : b < 0 := by omega
    clear h a0 a1 b0 b1
    go_enter Tryd.func24, Tryd.ntmps24
    go_wp2_with (go_at_call 51; refine (badnew_x _ _).mono ?_; rintro e w' ⟨rfl, rfl⟩)
    exact bodyPost_ret (v := .tuple #[.int .i64 0, badV 20]) (by simp [results, Tryd.results24, go_sem]) rfl ⟨rfl, below2 _ _ _⟩
theorem rneg_ok (a : Int) (w : World) (h0 : -9223372036854775807 ≤ a) (h1 : a ≤ 9223372036854775807) :
    Calls Tryd.prog 28 #[.int .i64 a] w fun e w' => e = .returned (.tuple #[.int .i64 (-a), badV 0]) ∧ Below w.heap.size w w' := by
  go_enter Tryd.func28, Tryd.ntmps28
  go_wp2
  exact bodyPost_ret (v := .tuple #[.int .i64 (-a), badV 0]) (by simp [results, Tryd.results28, go_sem]) rfl ⟨rfl, below1 _ _⟩
theorem rneg_over (w : World) :
    Calls Tryd.prog 28 #[.int .i64 (-9223372036854775808)] w fun e w' => e = .returned (.tuple #[.int .i64 0, badV 20]) ∧ Below w.heap.size w w' := by
  go_enter Tryd.func28, Tryd.ntmps28
  go_wp2_with (go_at_call 51; refine (badnew_x _ _).mono ?_; rintro e w' ⟨rfl, rfl⟩)
  exact bodyPost_ret (v := .tuple #[.int .i64 0, badV 20]) (by simp [results, Tryd.results28, go_sem]) rfl ⟨rfl, below2 _ _ _⟩
theorem rdiv_zero (a : Int) (w : World) :
    Calls Tryd.prog 29 #[.int .i64 a, .int .i64 0] w fun e w' => e = .returned (.tuple #[.int .i64 0, badV 21]) ∧ Below w.heap.size w w' := by
  go_enter Tryd.func29, Tryd.ntmps29
  go_wp2_with (go_at_call 51; refine (badnew_x _ _).mono ?_; rintro e w' ⟨rfl, rfl⟩)
  exact bodyPost_ret (v := .tuple #[.int .i64 0, badV 21]) (by simp [results, Tryd.results29, go_sem]) rfl ⟨rfl, below2 _ _ _⟩
theorem rdiv_over (w : World) :
    Calls Tryd.prog 29 #[.int .i64 (-9223372036854775808), .int .i64 (-1)] w fun e w' => e = .returned (.tuple #[.int .i64 0, badV 20]) ∧ Below w.heap.size w w' := by
  go_enter Tryd.func29, Tryd.ntmps29
  go_wp2_with (go_at_call 51; refine (badnew_x _ _).mono ?_; rintro e w' ⟨rfl, rfl⟩)
  exact bodyPost_ret (v := .tuple #[.int .i64 0, badV 20]) (by simp [results, Tryd.results29, go_sem]) rfl ⟨rfl, below2 _ _ _⟩
theorem tdiv_m1 (a : Int) : a.tdiv (-1) = -a := by rw [Int.tdiv_neg, Int.tdiv_one]
theorem rdiv_m1 (a : Int) (w : World) (h0 : -9223372036854775807 ≤ a) (h1 : a ≤ 9223372036854775807) :
    Calls Tryd.prog 29 #[.int .i64 a, .int .i64 (-1)] w fun e w' => e = .returned (.tuple #[.int .i64 (-a), badV 0]) ∧ Below w.heap.size w w' := by
  have e1 : a.tdiv (-1) = -a := tdiv_m1 a
  have e2 : a.tmod (-1) = 0 := by rw [Int.tmod_neg, Int.tmod_one]
  have e3 : a ≠ -9223372036854775808 := by omega
  go_enter Tryd.func29, Tryd.ntmps29
  go_wp2
  exact bodyPost_ret (v := .tuple #[.int .i64 (-a), badV 0]) (by simp [results, Tryd.results29, go_sem]) rfl ⟨rfl, below1 _ _⟩
theorem rdiv_any (a b : Int) (w : World) (ha : I64 a) (hb : b ≠ 0) (hbm : b ≠ -1) :
    Calls Tryd.prog 29 #[.int .i64 a, .int .i64 b] w fun e w' => e = .returned (.tuple #[.int .i64 (divN a b), badV 0]) ∧ Below w.heap.size w w' := by
  obtain ⟨t0, t1⟩ := tdiv_bound a b hb hbm ha.lo ha.hi
  by_cases hm : a.tmod b = 0
  · have e : divN a b = a.tdiv b := by unfold divN; rw [if_neg (by simp [hm])]
    rw [e]
    have m0 : (a.tmod b != 0) = false := by simpa using hm
    clear e hm
    cases hq : (a == -9223372036854775808)
    all_goals
      go_enter Tryd.func29, Tryd.ntmps29
      go_wp2
      exact bodyPost_ret (v := .tuple #[.int .i64 (a.tdiv b), badV 0]) (by simp [results, Tryd.results29, go_sem]) rfl ⟨rfl, below1 _ _⟩
  · obtain ⟨u0, u1⟩ := tdiv_half a b hb hbm (tmod_one_zero hm) ha.lo ha.hi
    have m0 : (a.tmod b != 0) = true := by simpa using hm
    by_cases hs : (a < 0 ↔ b < 0)
    · have e : divN a b = a.tdiv b := by unfold divN; rw [if_neg (by simp [hs])]
      have s0 : (!decide (a < 0) == decide (b < 0)) = false := by by_cases h1 : a < 0 <;> by_cases h2 : b < 0 <;> first | (simp [h1, h2]; done) | (exfalso; omega)
      rw [e]
      clear e hs
      cases hq : (a == -9223372036854775808)
      all_goals
        go_enter Tryd.func29, Tryd.ntmps29
        go_wp2
        exact bodyPost_ret (v := .tuple #[.int .i64 (a.tdiv b), badV 0]) (by simp [results, Tryd.results29, go_sem]) rfl ⟨rfl, below1 _ _⟩
    · have e : divN a b = a.tdiv b - 1 := by unfold divN; rw [if_pos ⟨hm, hs⟩]
      have s0 : (!decide (a < 0) == decide (b < 0)) = true := by by_cases h1 : a < 0 <;> by_cases h2 : b < 0 <;> first | (simp [h1, h2]; done) | (exfalso; omega)
      rw [e]
      clear e hs
      cases hq : (a == -9223372036854775808)
      all_goals
        go_enter Tryd.func29, Tryd.ntmps29
        go_wp2
        exact bodyPost_ret (v := .tuple #[.int .i64 (a.tdiv b - 1), badV 0]) (by simp [results, Tryd.results29, go_sem]) rfl ⟨rfl, below1 _ _⟩
theorem rmod_zero (a : Int) (w : World) :
    Calls Tryd.prog 30 #[.int .i64 a, .int .i64 0] w fun e w' => e = .returned (.tuple #[.int .i64 0, badV 21]) ∧ Below w.heap.size w w' := by
  go_enter Tryd.func30, Tryd.ntmps30
  go_wp2_with (go_at_call 51; refine (badnew_x _ _).mono ?_; rintro e w' ⟨rfl, rfl⟩)
  exact bodyPost_ret (v := .tuple #[.int .i64 0, badV 21]) (by simp [results, Tryd.results30, go_sem]) rfl ⟨rfl, below2 _ _ _⟩
theorem rmod_m1 (a : Int) (w : World) :
    Calls Tryd.prog 30 #[.int .i64 a, .int .i64 (-1)] w fun e w' => e = .returned (.tuple #[.int .i64 0, badV 0]) ∧ Below w.heap.size w w' := by
  go_enter Tryd.func30, Tryd.ntmps30
  go_wp2
  exact bodyPost_ret (v := .tuple #[.int .i64 (0), badV 0]) (by simp [results, Tryd.results30, go_sem]) rfl ⟨rfl, below1 _ _⟩
theorem rmod_any (a b : Int) (w : World) (hb1 : I64 b) (hb : b ≠ 0) (hbm : b ≠ -1) :
    Calls Tryd.prog 30 #[.int .i64 a, .int .i64 b] w fun e w' => e = .returned (.tuple #[.int .i64 (modN a b), badV 0]) ∧ Below w.heap.size w w' := by
  obtain ⟨b0, b1⟩ := hb1
  obtain ⟨t0, t1⟩ := tmod_bound a b hb
  obtain ⟨g0, g1⟩ := tmod_sign a b
  by_cases hm : a.tmod b = 0
  · have e : modN a b = a.tmod b := by unfold modN; rw [if_neg (by simp [hm])]
    rw [e]
    have m0 : (a.tmod b != 0) = false := by simpa using hm
    clear e hm t0 t1 g0 g1
    go_enter Tryd.func30, Tryd.ntmps30
    go_wp2
    exact bodyPost_ret (v := .tuple #[.int .i64 (a.tmod b), badV 0]) (by simp [results, Tryd.results30, go_sem]) rfl ⟨rfl, below1 _ _⟩
  · have m0 : (a.tmod b != 0) = true := by simpa using hm
    by_cases hs : (a < 0 ↔ b < 0)
    · have e : modN a b = a.tmod b := by unfold modN; rw [if_neg (by simp [hs])]
      have s1 : (!decide (a.tmod b < 0) == decide (b < 0)) = false := by by_cases h1 : a.tmod b < 0 <;> by_cases h2 : b < 0 <;> first | (simp [h1, h2]; done) | (exfalso; omega)
      rw [e]
      clear e hs t0 t1 g0 g1
      go_enter Tryd.func30, Tryd.ntmps30
      go_wp2
      exact bodyPost_ret (v := .tuple #[.int .i64 (a.tmod b), badV 0]) (by simp [results, Tryd.results30, go_sem]) rfl ⟨rfl, below1 _ _⟩
    · have e : modN a b = a.tmod b + b := by unfold modN; rw [if_pos ⟨hm, hs⟩]
      have s1 : (!decide (a.tmod b < 0) == decide (b < 0)) = true := by by_cases h1 : a.tmod b < 0 <;> by_cases h2 : b < 0 <;> first | (simp [h1, h2]; done) | (exfalso; omega)
      have u0 : -9223372036854775808 ≤ a.tmod b + b := by omega
      have u1 : a.tmod b + b ≤ 9223372036854775807 := by omega
      rw [e]
      clear e hs t0 t1 g0 g1
      go_enter Tryd.func30, Tryd.ntmps30
      go_wp2
      exact bodyPost_ret (v := .tuple #[.int .i64 (a.tmod b + b), badV 0]) (by simp [results, Tryd.results30, go_sem]) rfl ⟨rfl, below1 _ _⟩

/-! the product -/
theorem rmul_zero (a b : Int) (w : World) (h : a = 0 ∨ b = 0) :
    Calls Tryd.prog 26 #[.int .i64 a, .int .i64 b] w fun e w' => e = .returned (.tuple #[.int .i64 0, badV 0]) ∧ Below w.heap.size w w' := by
  by_cases ha : a = 0
  · subst ha
    clear h
    go_enter Tryd.func26, Tryd.ntmps26
    go_wp2
    exact bodyPost_ret (v := .tuple #[.int .i64 (0), badV 0]) (by simp [results, Tryd.results26, go_sem]) rfl ⟨rfl, below1 _ _⟩
  · obtain rfl : b = 0 := by omega
    have ha0 : (a == 0) = false := by simpa using ha
    clear h
    go_enter Tryd.func26, Tryd.ntmps26
    go_wp2
    exact bodyPost_ret (v := .tuple #[.int .i64 (0), badV 0]) (by simp [results, Tryd.results26, go_sem]) rfl ⟨rfl, below1 _ _⟩
theorem rmul_ok (a b : Int) (w : World) (ha : a ≠ 0) (hb : b ≠ 0) (h0 : -9223372036854775808 ≤ a * b) (h1 : a * b ≤ 9223372036854775807) (i0 : I64 a) (i1 : I64 b) :
    Calls Tryd.prog 26 #[.int .i64 a, .int .i64 b] w fun e w' => e = .returned (.tuple #[.int .i64 (a * b), badV 0]) ∧ Below w.heap.size w w' := by
  obtain ⟨a0, a1⟩ := i0
  obtain ⟨b0, b1⟩ := i1
  have e1 : (a * b).tdiv b = a := Int.mul_tdiv_cancel a hb
  have x1 : a = -1 → b ≠ -9223372036854775808 := by rintro rfl; omega
  have x2 : b = -1 → a ≠ -9223372036854775808 := by rintro rfl; omega
  have z1 : (a == 0) = false := by simpa using ha
  have z2 : (b == 0) = false := by simpa using hb
  have z3 : (wrap64 a != a) = false := by rw [IntWalk.wrap64_in _ ⟨a0, a1⟩]; simp
  cases hx1 : (a == -1) <;> cases hy1 : (b == -9223372036854775808) <;> cases hx2 : (b == -1) <;> cases hy2 : (a == -9223372036854775808)
  all_goals first
    | (exfalso; simp only [beq_iff_eq, beq_eq_false_iff_ne] at hx1 hy1 hx2 hy2; omega)
    | (clear x1 x2 a0 a1 b0 b1
       go_enter Tryd.func26, Tryd.ntmps26
       go_wp2
       exact bodyPost_ret (v := .tuple #[.int .i64 (a * b), badV 0]) (by simp [results, Tryd.results26, go_sem]) rfl ⟨rfl, below1 _ _⟩)
theorem rmul_over (a b : Int) (w : World) (h : ¬ (-9223372036854775808 ≤ a * b ∧ a * b ≤ 9223372036854775807)) (i0 : I64 a) (i1 : I64 b) :
    Calls Tryd.prog 26 #[.int .i64 a, .int .i64 b] w fun e w' => e = .returned (.tuple #[.int .i64 0, badV 20]) ∧ Below w.heap.size w w' := by
  obtain ⟨a0, a1⟩ := i0
  obtain ⟨b0, b1⟩ := i1
  have ha : a ≠ 0 := by rintro rfl; simp at h
  have hb : b ≠ 0 := by rintro rfl; simp at h
  have z1 : (a == 0) = false := by simpa using ha
  have z2 : (b == 0) = false := by simpa using hb
  have key : ¬ (a = -1 ∧ b = -9223372036854775808) → ¬ (b = -1 ∧ a = -9223372036854775808) → (wrap64 ((wrap64 (a * b)).tdiv b) != a) = true := by
    intro n1 n2
    rw [bne_iff_ne]
    intro hc
    have h1 := Int.tdiv_mul_add_tmod (wrap64 (a * b)) b
    obtain ⟨t0, t1⟩ := tmod_bound (wrap64 (a * b)) b hb
    by_cases hm : b = -1
    · subst hm
      have : a ≠ -9223372036854775808 := by omega
      omega
    · have hf : I64 (wrap64 (a * b)) := by unfold wrap64; constructor <;> omega
      obtain ⟨q0, q1⟩ := tdiv_bound (wrap64 (a * b)) b hb hm hf.lo hf.hi
      rw [IntWalk.wrap64_in _ ⟨q0, q1⟩] at hc
      rw [hc] at h1
      unfold wrap64 at *
      omega
  cases hx1 : (a == -1) <;> cases hy1 : (b == -9223372036854775808) <;> cases hx2 : (b == -1) <;> cases hy2 : (a == -9223372036854775808)
  all_goals first
    | (exfalso; simp only [beq_iff_eq, beq_eq_false_iff_ne] at hx1 hy1 hx2 hy2; omega)
    | (have hk : (wrap64 ((wrap64 (a * b)).tdiv b) != a) = true := key (by simp only [beq_iff_eq, beq_eq_false_iff_ne] at hx1 hy1 hx2 hy2; omega) (by simp only [beq_iff_eq, beq_eq_false_iff_ne] at hx1 hy1 hx2 hy2; omega)
       clear key h a0 a1 b0 b1
       go_enter Tryd.func26, Tryd.ntmps26
       go_wp2_with (go_at_call 51; refine (badnew_x _ _).mono ?_; rintro e w' ⟨rfl, rfl⟩)
       exact bodyPost_ret (v := .tuple #[.int .i64 0, badV 20]) (by simp [results, Tryd.results26, go_sem]) rfl ⟨rfl, below2 _ _ _⟩)
    | (clear key h a0 a1 b0 b1
       go_enter Tryd.func26, Tryd.ntmps26
       go_wp2_with (go_at_call 51; refine (badnew_x _ _).mono ?_; rintro e w' ⟨rfl, rfl⟩)
       exact bodyPost_ret (v := .tuple #[.int .i64 0, badV 20]) (by simp [results, Tryd.results26, go_sem]) rfl ⟨rfl, below2 _ _ _⟩)
end Go.Proofs.YthlfbakndbjhoaaDoor
