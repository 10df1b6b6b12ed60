/- Contracts of package num's functions over sums of 128 bits: Plus, Minus, Compare; and of the document's. -/
import Derived.Test.YthlfbakndbjhoaaNumA
import Derived.Laws.Externs
set_option linter.unusedSimpArgs false
set_option linter.unusedVariables false
namespace Go.Proofs.Ythlfbakndbjhoaa
open Go.RowKit

/-! bits.Add64, bits.Sub64 by the model's entries, over Int, the numbers behind names -/
def a64l (x y c : Int) : Int := (x + y + c) % 18446744073709551616
def a64h (x y c : Int) : Int := (x + y + c) / 18446744073709551616
def s64l (x y b : Int) : Int := (x - y - b) % 18446744073709551616
def s64b (x y b : Int) : Int := if x < y + b then 1 else 0
def add64Entry : Array Value → Sem Value := fun args => do
  let (x, y, c) ← Extern.MathBitsCarry.three "Add64" args
  pure (Extern.MathBitsCarry.pair ((x + y + c) % Extern.MathBitsCarry.m64) ((x + y + c) / Extern.MathBitsCarry.m64))
def sub64Entry : Array Value → Sem Value := fun args => do
  let (x, y, b) ← Extern.MathBitsCarry.three "Sub64" args
  pure (Extern.MathBitsCarry.pair ((x + Extern.MathBitsCarry.m64 - y - b) % Extern.MathBitsCarry.m64) (if x < y + b then 1 else 0))
theorem run_add64 (x y c : Nat) (hc : c ≤ 1) (w : World) : (add64Entry #[.int .u64 x, .int .u64 y, .int .u64 c]).run Try.prog w = .ok (.tuple #[.int .u64 (((x + y + c) % 18446744073709551616 : Nat) : Int), .int .u64 (((x + y + c) / 18446744073709551616 : Nat) : Int)]) w := by
  have : c = 0 ∨ c = 1 := by omega
  rcases this with rfl | rfl <;> rfl
theorem add64 (x y c : Int) (hx : 0 ≤ x) (hy : 0 ≤ y) (hc0 : 0 ≤ c) (hc : c ≤ 1) (w : World) :
    (callFunc 11 #[.int .u64 x, .int .u64 y, .int .u64 c]).run Try.prog w = .ok (.value (.tuple #[.int .u64 (a64l x y c), .int .u64 (a64h x y c)])) w := by
  obtain ⟨x, rfl⟩ := Int.eq_ofNat_of_zero_le hx
  obtain ⟨y, rfl⟩ := Int.eq_ofNat_of_zero_le hy
  obtain ⟨c, rfl⟩ := Int.eq_ofNat_of_zero_le hc0
  rw [run_callFunc_extern Try.func11 (by kernel_rfl) (by kernel_rfl) (by kernel_rfl) (e := add64Entry) (by kernel_rfl), run_add64 x y c (by omega)]
  simp only [Result.andThen, a64l, a64h]
  congr 5 <;> omega
theorem run_sub64 (x y b : Nat) (hb : b ≤ 1) (w : World) : (sub64Entry #[.int .u64 x, .int .u64 y, .int .u64 b]).run Try.prog w = .ok (.tuple #[.int .u64 (((x + 18446744073709551616 - y - b) % 18446744073709551616 : Nat) : Int), .int .u64 ((if x < y + b then 1 else 0 : Nat) : Int)]) w := by
  have : b = 0 ∨ b = 1 := by omega
  rcases this with rfl | rfl <;> rfl
theorem sub64 (x y b : Int) (hx : 0 ≤ x) (hy : 0 ≤ y) (hy' : y ≤ 18446744073709551615) (hb0 : 0 ≤ b) (hb : b ≤ 1) (w : World) :
    (callFunc 12 #[.int .u64 x, .int .u64 y, .int .u64 b]).run Try.prog w = .ok (.value (.tuple #[.int .u64 (s64l x y b), .int .u64 (s64b x y b)])) w := by
  obtain ⟨x, rfl⟩ := Int.eq_ofNat_of_zero_le hx
  obtain ⟨y, rfl⟩ := Int.eq_ofNat_of_zero_le hy
  obtain ⟨b, rfl⟩ := Int.eq_ofNat_of_zero_le hb0
  have e1 : (((x + 18446744073709551616 - y - b) % 18446744073709551616 : Nat) : Int) = s64l x y b := by unfold s64l; omega
  have e2 : ((if x < y + b then 1 else 0 : Nat) : Int) = s64b x y b := by unfold s64b; split <;> split <;> omega
  rw [← e1, ← e2, run_callFunc_extern Try.func12 (by kernel_rfl) (by kernel_rfl) (by kernel_rfl) (e := sub64Entry) (by kernel_rfl), run_sub64 x y b (by omega)]
  rfl

theorem sum_any (n : Int) (w : World) : Calls Try.prog 10 #[.int .i64 n] w fun e w' => e = .returned (.agg #[.int .i64 (n / 9223372036854775808), .int .u64 (IntKind.u64.wrap n)]) ∧ w.alloc (.cells #[.int .i64 (n / 9223372036854775808), .int .u64 (IntKind.u64.wrap n)] 24) = w' := by
  go_enter Try.func10, Try.ntmps10
  go_wp2
  exact bodyPost_ret (v := .agg #[.int .i64 (n / 9223372036854775808), .int .u64 (IntKind.u64.wrap n)]) (by simp [results, Try.results10, go_sem]) rfl ⟨rfl, rfl⟩

/-- the words of a sum and a number more -/
def plusLo (l n : Int) : Int := a64l l (IntKind.u64.wrap n) 0
def plusHi (h l n : Int) : Int := wrap64 (a64l (IntKind.u64.wrap h) (IntKind.u64.wrap (n / 9223372036854775808)) (a64h l (IntKind.u64.wrap n) 0))
theorem a64h_01 (x y : Int) (hx : 0 ≤ x) (hx1 : x ≤ 18446744073709551615) (hy : 0 ≤ y) (hy1 : y ≤ 18446744073709551615) : 0 ≤ a64h x y 0 ∧ a64h x y 0 ≤ 1 := by unfold a64h; omega
theorem u64_range (n : Int) : 0 ≤ IntKind.u64.wrap n ∧ IntKind.u64.wrap n ≤ 18446744073709551615 := by rw [IntKind.wrap_u64]; omega

theorem plus_any (h l n : Int) (hl0 : 0 ≤ l) (hl1 : l ≤ 18446744073709551615) (w : World) :
    Calls Try.prog 5 #[.agg #[.int .i64 h, .int .u64 l], .int .i64 n] w fun e w' => e = .returned (.agg #[.int .i64 (plusHi h l n), .int .u64 (plusLo l n)]) ∧ Below w.heap.size w w' := by
  obtain ⟨n0, n1⟩ := u64_range n
  obtain ⟨m0, m1⟩ := u64_range (n / 9223372036854775808)
  obtain ⟨k0, k1⟩ := u64_range h
  obtain ⟨c0, c1⟩ := a64h_01 l (IntKind.u64.wrap n) hl0 hl1 n0 n1
  have a1 := fun w => add64 l (IntKind.u64.wrap n) 0 hl0 n0 (Int.le_refl 0) (by decide) w
  have a2 := fun w => add64 (IntKind.u64.wrap h) (IntKind.u64.wrap (n / 9223372036854775808)) (a64h l (IntKind.u64.wrap n) 0) k0 m0 c0 c1 w
  go_enter Try.func5, Try.ntmps5
  go_wp2_with (first | (go_at_call 10; refine (sum_any _ _).mono ?_; rintro e w1 ⟨rfl, rfl⟩) | simp only [a1] | simp only [a2])
  exact bodyPost_ret (v := .agg #[.int .i64 (plusHi h l n), .int .u64 (plusLo l n)]) (by simp [results, Try.results5, go_sem, plusHi, plusLo]) rfl ⟨rfl, below4 _ _ _ _ _⟩

theorem plus_val (h l n : Int) (hh0 : -9223372036854775808 ≤ h) (hh1 : h ≤ 9223372036854775807) (hl0 : 0 ≤ l) (hl1 : l ≤ 18446744073709551615) (hn0 : -9223372036854775808 ≤ n) (hn1 : n ≤ 9223372036854775807) :
    plusLo l n = (l + n) % 18446744073709551616 ∧ plusHi h l n = wrap64 (h + (l + n) / 18446744073709551616) := by
  unfold plusLo plusHi a64l a64h
  simp only [IntKind.wrap_u64]
  refine ⟨by omega, ?_⟩
  by_cases hn : n < 0
  · have e1 : n / 9223372036854775808 = -1 := by omega
    have e2 : (l + n % 18446744073709551616 + 0) / 18446744073709551616 = (l + n) / 18446744073709551616 + 1 := by omega
    rw [e1, e2]
    generalize (l + n) / 18446744073709551616 = c at *
    unfold wrap64
    omega
  · have e1 : n / 9223372036854775808 = 0 := by omega
    have e2 : (l + n % 18446744073709551616 + 0) / 18446744073709551616 = (l + n) / 18446744073709551616 := by omega
    rw [e1, e2]
    generalize (l + n) / 18446744073709551616 = c at *
    unfold wrap64
    omega
/-- the words of a sum and a number less -/
def minusLo (l n : Int) : Int := s64l l (IntKind.u64.wrap n) 0
def minusHi (h l n : Int) : Int := wrap64 (s64l (IntKind.u64.wrap h) (IntKind.u64.wrap (n / 9223372036854775808)) (s64b l (IntKind.u64.wrap n) 0))
theorem s64b_01 (x y : Int) : 0 ≤ s64b x y 0 ∧ s64b x y 0 ≤ 1 := by unfold s64b; split <;> omega
theorem minus_val (h l n : Int) (hh0 : -9223372036854775808 ≤ h) (hh1 : h ≤ 9223372036854775807) (hl0 : 0 ≤ l) (hl1 : l ≤ 18446744073709551615) (hn0 : -9223372036854775808 ≤ n) (hn1 : n ≤ 9223372036854775807) :
    minusLo l n = (l - n) % 18446744073709551616 ∧ minusHi h l n = wrap64 (h + (l - n) / 18446744073709551616) := by
  unfold minusLo minusHi s64l s64b
  simp only [IntKind.wrap_u64]
  refine ⟨by omega, ?_⟩
  by_cases hn : n < 0
  · have e1 : n / 9223372036854775808 = -1 := by omega
    have e2 : (if l < n % 18446744073709551616 + 0 then 1 else 0) = 1 - (l - n) / 18446744073709551616 := by split <;> omega
    rw [e1, e2]
    generalize (l - n) / 18446744073709551616 = c at *
    unfold wrap64
    omega
  · have e1 : n / 9223372036854775808 = 0 := by omega
    have e2 : (if l < n % 18446744073709551616 + 0 then 1 else 0) = - ((l - n) / 18446744073709551616) := by split <;> omega
    rw [e1, e2]
    generalize (l - n) / 18446744073709551616 = c at *
    unfold wrap64
    omega
theorem minus_any (h l n : Int) (hl0 : 0 ≤ l) (hl1 : l ≤ 18446744073709551615) (w : World) :
    Calls Try.prog 6 #[.agg #[.int .i64 h, .int .u64 l], .int .i64 n] w fun e w' => e = .returned (.agg #[.int .i64 (minusHi h l n), .int .u64 (minusLo l n)]) ∧ Below w.heap.size w w' := by
  obtain ⟨n0, n1⟩ := u64_range n
  obtain ⟨m0, m1⟩ := u64_range (n / 9223372036854775808)
  obtain ⟨k0, k1⟩ := u64_range h
  obtain ⟨c0, c1⟩ := s64b_01 l (IntKind.u64.wrap n)
  have a1 := fun w => sub64 l (IntKind.u64.wrap n) 0 hl0 n0 n1 (Int.le_refl 0) (by decide) w
  have a2 := fun w => sub64 (IntKind.u64.wrap h) (IntKind.u64.wrap (n / 9223372036854775808)) (s64b l (IntKind.u64.wrap n) 0) k0 m0 m1 c0 c1 w
  go_enter Try.func6, Try.ntmps6
  go_wp2_with (first | (go_at_call 10; refine (sum_any _ _).mono ?_; rintro e w1 ⟨rfl, rfl⟩) | simp only [a1] | simp only [a2])
  exact bodyPost_ret (v := .agg #[.int .i64 (minusHi h l n), .int .u64 (minusLo l n)]) (by simp [results, Try.results6, go_sem, minusHi, minusLo]) rfl ⟨rfl, below4 _ _ _ _ _⟩
/-- a sum as a whole number -/
def sumZ (h l : Int) : Int := h * 18446744073709551616 + l
theorem compare_any (h l h' l' : Int) (w : World) :
    Calls Try.prog 7 #[.agg #[.int .i64 h, .int .u64 l], .agg #[.int .i64 h', .int .u64 l']] w fun e w' => e = .returned (.int .i64 (if h = h' ∧ l = l' then 0 else if h < h' ∨ h = h' ∧ l < l' then -1 else 1)) ∧ Below w.heap.size w w' := by
  go_enter Try.func7, Try.ntmps7
  go_wp2
  all_goals (go_ret; exact ⟨rfl, below2 _ _ _⟩)
end Go.Proofs.Ythlfbakndbjhoaa
