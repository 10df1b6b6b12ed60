/- Contracts of num.Small and num.Mul. -/
import Derived.Test.YthlfbakndbjhoaaDoorNumR
set_option linter.unusedSimpArgs false
set_option linter.unusedVariables false
namespace Go.Proofs.YthlfbakndbjhoaaDoor
open Go.RowKit

theorem keep2 {w w' w2 : World} {a b : Addr} {x y : Value} (hn : Below w'.heap.size w' w2) (hs : w'.cell? a = some x ∧ w'.cell? b = some y ∧ Below w.heap.size w w') :
    w2.cell? a = some x ∧ w2.cell? b = some y ∧ Below w.heap.size w w2 :=
  ⟨by rw [hn.cell (cell_lt hs.1)]; exact hs.1, by rw [hn.cell (cell_lt hs.2.1)]; exact hs.2.1, hs.2.2.trans (hn.mono hs.2.2.size)⟩
def hiOf (n : Int) : Int := n / 9223372036854775808
def loOf (n : Int) : Int := IntKind.u64.wrap n
theorem sum_b (n : Int) (w : World) : Calls Tryd.prog 48 #[.int .i64 n] w fun e w' => e = .returned (.agg #[.int .i64 (hiOf n), .int .u64 (loOf n)]) ∧ Below w.heap.size w w' :=
  (sum_any n w).mono fun e w' ⟨he, hw⟩ => ⟨he, by rw [← hw]; exact below1 _ _⟩
theorem sum_c (n h l : Int) (h1 : h = hiOf n) (h2 : loOf n = l) (w : World) : Calls Tryd.prog 48 #[.int .i64 n] w fun e w' => e = .returned (.agg #[.int .i64 h, .int .u64 l]) ∧ Below w.heap.size w w' := by
  subst h1; subst h2
  exact sum_b n w
/-- does a sum fit into int64? -/
def SmallFits (h l : Int) : Prop := h = 0 ∧ l ≤ 9223372036854775807 ∨ h = -1 ∧ 9223372036854775808 ≤ l
theorem small_eq (h l : Int) (hl0 : 0 ≤ l) (hl1 : l ≤ 18446744073709551615) : SmallFits h l ↔ h = wrap64 l / 9223372036854775808 := by
  unfold SmallFits wrap64; omega
theorem small_u (l : Int) (hl0 : 0 ≤ l) (hl1 : l ≤ 18446744073709551615) : IntKind.u64.wrap (wrap64 l) = l := by rw [IntKind.wrap_u64]; unfold wrap64; omega
set_option maxRecDepth 100000 in
theorem small_ok (h l : Int) (w : World) (hl0 : 0 ≤ l) (hl1 : l ≤ 18446744073709551615) (hf : SmallFits h l) :
    Calls Tryd.prog 43 #[.agg #[.int .i64 h, .int .u64 l]] w fun e w' => e = .returned (.tuple #[.int .i64 (wrap64 l), .nilIface]) ∧ Below w.heap.size w w' := by
  have e1 : h = hiOf (IntKind.i64.wrap l) := by rw [IntWalk.i64_left]; exact (small_eq h l hl0 hl1).1 hf
  have e2 : loOf (IntKind.i64.wrap l) = l := by rw [IntWalk.i64_left]; exact small_u l hl0 hl1
  have E1 := Lib.hid e1
  have E2 := Lib.hid e2
  clear hf e1 e2 hl1
  go_enter Tryd.func43, Tryd.ntmps43
  go_wp2_with fail
  go_region_held3 (fun w' => w'.cell? ⟨w.heap.size, 0, none⟩ = some (.int .i64 h) ∧ w'.cell? ⟨w.heap.size, 1, none⟩ = some (.int .u64 l) ∧ Below w.heap.size w w') (first | exact ⟨by simp, by simp, (below1 _ _).drew⟩ | exact keep2 (by assumption) (by assumption)) ((go_at_call 48; refine (sum_c _ h l E1.out E2.out _).mono ?_; rintro e w1 ⟨rfl, hb⟩))
  obtain ⟨c0, c1, hbb⟩ := ‹_ ∧ _ ∧ Below _ _ w1›
  have HB := Lib.hid hbb
  clear hbb hb E1 E2
  go_wp2
  go_ret2
  exact ⟨by rw [← IntWalk.i64_left]; rfl, HB.out⟩
set_option maxRecDepth 100000 in
theorem small_over (h l : Int) (w : World) (hl0 : 0 ≤ l) (hl1 : l ≤ 18446744073709551615) (hf : ¬ SmallFits h l) :
    Calls Tryd.prog 43 #[.agg #[.int .i64 h, .int .u64 l]] w fun e w' => e = .returned (.tuple #[.int .i64 0, errV 20]) ∧ Below w.heap.size w w' := by
  obtain ⟨k, hk⟩ : ∃ k, k = hiOf (IntKind.i64.wrap l) := ⟨_, rfl⟩
  have e1 : (h != k) = true := by
    rw [bne_iff_ne]; rintro rfl
    exact hf ((small_eq h l hl0 hl1).2 (by rw [IntWalk.i64_left] at hk; exact hk))
  have e3 : (h == k) = false := by rw [bne_iff_ne] at e1; simpa using e1
  have e2 : loOf (IntKind.i64.wrap l) = l := by rw [IntWalk.i64_left]; exact small_u l hl0 hl1
  have E1 := Lib.hid hk
  have E2 := Lib.hid e2
  clear hf hk e2 hl1
  go_enter Tryd.func43, Tryd.ntmps43
  go_wp2_with fail
  go_region_held3 (fun w' => w'.cell? ⟨w.heap.size, 0, none⟩ = some (.int .i64 h) ∧ w'.cell? ⟨w.heap.size, 1, none⟩ = some (.int .u64 l) ∧ Below w.heap.size w w') (first | exact ⟨by simp, by simp, (below1 _ _).drew⟩ | exact keep2 (by assumption) (by assumption)) ((go_at_call 48; refine (sum_c _ k l E1.out E2.out _).mono ?_; rintro e w1 ⟨rfl, hb⟩))
  obtain ⟨c0, c1, hbb⟩ := ‹_ ∧ _ ∧ Below _ _ w1›
  have HB := Lib.hid hbb
  clear hbb hb E1 E2
  go_wp2_with (go_at_call 46; refine (new_any _ _ (by decide)).mono ?_; rintro e w' ⟨rfl, rfl⟩)
  go_ret2
  exact ⟨rfl, HB.out⟩

/-! the product -/
def m64h (x y : Int) : Int := x * y / 18446744073709551616
def m64l (x y : Int) : Int := x * y % 18446744073709551616
theorem mul64 (x y : Int) (w : World) (hx : 0 ≤ x) (hx1 : x ≤ 18446744073709551615) (hy : 0 ≤ y) (hy1 : y ≤ 18446744073709551615) :
    Calls Tryd.prog 52 #[.int .u64 x, .int .u64 y] w fun e w' => e = .returned (.tuple #[.int .u64 (m64h x y), .int .u64 (m64l x y)]) ∧ w = w' := by
  obtain ⟨x, rfl⟩ := Int.eq_ofNat_of_zero_le hx
  obtain ⟨y, rfl⟩ := Int.eq_ofNat_of_zero_le hy
  refine (Tryd.bits_Mul64 x y (by omega) (by omega) w).mono ?_
  rintro e w' ⟨rfl, rfl⟩
  exact ⟨by unfold m64h m64l; rw [← Int.natCast_mul]; rfl, rfl⟩

/-- the upper word of a product, mended for signs -/
def mulHi (a b : Int) : Int := a * b / 18446744073709551616
theorem mul_bound (a b : Int) (ha : I64 a) (hb : I64 b) : -85070591730234615865843651857942052864 ≤ a * b ∧ a * b ≤ 85070591730234615865843651857942052864 := by
  obtain ⟨a0, a1⟩ := ha
  obtain ⟨b0, b1⟩ := hb
  have h1 : (a * b).natAbs = a.natAbs * b.natAbs := Int.natAbs_mul a b
  have h2 : a.natAbs * b.natAbs ≤ 9223372036854775808 * 9223372036854775808 := Nat.mul_le_mul (by omega) (by omega)
  omega
theorem mul_words (a b : Int) (ha : I64 a) (hb : I64 b) :
    m64l (IntKind.u64.wrap a) (IntKind.u64.wrap b) = a * b % 18446744073709551616 ∧
    (m64h (IntKind.u64.wrap a) (IntKind.u64.wrap b) - (if a < 0 then IntKind.u64.wrap b else 0) - (if b < 0 then IntKind.u64.wrap a else 0) - mulHi a b) % 18446744073709551616 = 0 := by
  obtain ⟨a0, a1⟩ := ha
  obtain ⟨b0, b1⟩ := hb
  unfold m64l m64h mulHi
  simp only [IntKind.wrap_u64]
  have wa : a % 18446744073709551616 = if a < 0 then a + 18446744073709551616 else a := by split <;> omega
  have wb : b % 18446744073709551616 = if b < 0 then b + 18446744073709551616 else b := by split <;> omega
  rw [wa, wb]
  by_cases h1 : a < 0 <;> by_cases h2 : b < 0 <;> simp only [h1, h2, if_true, if_false]
  · have e : (a + 18446744073709551616) * (b + 18446744073709551616) = a * b + 18446744073709551616 * a + 18446744073709551616 * b + 18446744073709551616 * 18446744073709551616 := by
      rw [Int.add_mul, Int.mul_add, Int.mul_add]; omega
    rw [e]; omega
  · have e : (a + 18446744073709551616) * b = a * b + 18446744073709551616 * b := by rw [Int.add_mul]
    rw [e]; omega
  · have e : a * (b + 18446744073709551616) = a * b + 18446744073709551616 * a := by rw [Int.mul_add]; omega
    rw [e]; omega
  · exact ⟨trivial, by simp⟩

theorem mul_hi_of (a b x : Int) (ha : I64 a) (hb : I64 b) (h : (x - mulHi a b) % 18446744073709551616 = 0) : wrap64 x = mulHi a b := by
  obtain ⟨p0, p1⟩ := mul_bound a b ha hb
  unfold mulHi at *
  generalize a * b = p at *
  unfold wrap64
  omega
theorem mul_fits (a b : Int) : SmallFits (mulHi a b) (a * b % 18446744073709551616) ↔ -9223372036854775808 ≤ a * b ∧ a * b ≤ 9223372036854775807 := by
  unfold SmallFits mulHi
  generalize a * b = p
  omega
theorem mul_ok (a b : Int) (w : World) (ha : I64 a) (hb : I64 b) (h : -9223372036854775808 ≤ a * b ∧ a * b ≤ 9223372036854775807) :
    Calls Tryd.prog 25 #[.int .i64 a, .int .i64 b] w fun e w' => e = .returned (.tuple #[.int .i64 (a * b), .nilIface]) ∧ Below w.heap.size w w' := by
  obtain ⟨e1, e2⟩ := mul_words a b ha hb
  obtain ⟨k0, k1⟩ := u64_range a
  obtain ⟨k2, k3⟩ := u64_range b
  have hm := mul_hi_of a b
  have hs := (mul_fits a b).2 h
  have hv : wrap64 (a * b % 18446744073709551616) = a * b := by generalize a * b = p at *; unfold wrap64; omega
  have hl : 0 ≤ a * b % 18446744073709551616 ∧ a * b % 18446744073709551616 ≤ 18446744073709551615 := by omega
  have fin : ∀ x w, wrap64 x = mulHi a b → Calls Tryd.prog 43 #[.agg #[.int .i64 (wrap64 x), .int .u64 (m64l (IntKind.u64.wrap a) (IntKind.u64.wrap b))]] w fun e w' => e = .returned (.tuple #[.int .i64 (a * b), .nilIface]) ∧ Below w.heap.size w w' := by
    intro x w hx
    rw [hx, e1]
    exact (small_ok _ _ w hl.1 hl.2 hs).mono fun e w' ⟨he, hb⟩ => ⟨by rw [he, hv], hb⟩
  have HF := Lib.hid fin
  have E2 := Lib.hid e2
  have HM := Lib.hid hm
  clear e1 e2 fin hm hs hv hl h
  go_enter Tryd.func25, Tryd.ntmps25
  go_wp2_with (go_at_call 52; refine (mul64 _ _ _ k0 k1 k2 k3).mono ?_; rintro e w' ⟨rfl, rfl⟩)
  all_goals
    have E2' := E2.out
    refine (HF.out _ _ (HM.out _ ha hb ?_)).mono ?_
    · (repeat rw [if_pos (by assumption)] at E2'); (repeat rw [if_neg (by omega)] at E2'); (try simp only [IntKind.wrap_u64] at E2' ⊢); omega
    · rintro e w' ⟨rfl, hbb⟩
      clear E2' E2 HF HM
      go_wp2
      go_ret2
      exact ⟨rfl, hbb⟩
theorem mul_over (a b : Int) (w : World) (ha : I64 a) (hb : I64 b) (h : ¬ (-9223372036854775808 ≤ a * b ∧ a * b ≤ 9223372036854775807)) :
    Calls Tryd.prog 25 #[.int .i64 a, .int .i64 b] w fun e w' => e = .returned (.tuple #[.int .i64 0, errV 20]) ∧ Below w.heap.size w w' := by
  obtain ⟨e1, e2⟩ := mul_words a b ha hb
  obtain ⟨k0, k1⟩ := u64_range a
  obtain ⟨k2, k3⟩ := u64_range b
  have hm := mul_hi_of a b
  have hs : ¬ SmallFits (mulHi a b) (a * b % 18446744073709551616) := fun x => h ((mul_fits a b).1 x)
  have hl : 0 ≤ a * b % 18446744073709551616 ∧ a * b % 18446744073709551616 ≤ 18446744073709551615 := by omega
  have fin : ∀ x w, wrap64 x = mulHi a b → Calls Tryd.prog 43 #[.agg #[.int .i64 (wrap64 x), .int .u64 (m64l (IntKind.u64.wrap a) (IntKind.u64.wrap b))]] w fun e w' => e = .returned (.tuple #[.int .i64 0, errV 20]) ∧ Below w.heap.size w w' := by
    intro x w hx
    rw [hx, e1]
    exact small_over _ _ w hl.1 hl.2 hs
  have HF := Lib.hid fin
  have E2 := Lib.hid e2
  have HM := Lib.hid hm
  clear e1 e2 fin hm hs hl h
  go_enter Tryd.func25, Tryd.ntmps25
  go_wp2_with (go_at_call 52; refine (mul64 _ _ _ k0 k1 k2 k3).mono ?_; rintro e w' ⟨rfl, rfl⟩)
  all_goals
    have E2' := E2.out
    refine (HF.out _ _ (HM.out _ ha hb ?_)).mono ?_
    · (repeat rw [if_pos (by assumption)] at E2'); (repeat rw [if_neg (by omega)] at E2'); (try simp only [IntKind.wrap_u64] at E2' ⊢); omega
    · rintro e w' ⟨rfl, hbb⟩
      clear E2' E2 HF HM
      go_wp2
      go_ret2
      exact ⟨rfl, hbb⟩
end Go.Proofs.YthlfbakndbjhoaaDoor
