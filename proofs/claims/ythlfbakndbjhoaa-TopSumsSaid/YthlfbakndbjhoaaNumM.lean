/- Contracts of num.Small and num.Mul. -/
import Derived.Test.YthlfbakndbjhoaaNumR
set_option linter.unusedSimpArgs false
set_option linter.unusedVariables false
namespace Go.Proofs.Ythlfbakndbjhoaa
open Go.RowKit

theorem keep2 {w w' w2 : World} {a b : Addr} {x y : Value} (hn : Below w'.heap.size w' w2) (hs : w'.cell? a = some x ∧ w'.cell? b = some y ∧ Below w.heap.size w w') :
    w2.cell? a = some x ∧ w2.cell? b = some y ∧ Below w.heap.size w w2 :=
  ⟨by rw [hn.cell (cell_lt hs.1)]; exact hs.1, by rw [hn.cell (cell_lt hs.2.1)]; exact hs.2.1, hs.2.2.trans (hn.mono hs.2.2.size)⟩
def hiOf (n : Int) : Int := n / 9223372036854775808
def loOf (n : Int) : Int := IntKind.u64.wrap n
theorem sum_b (n : Int) (w : World) : Calls Try.prog 10 #[.int .i64 n] w fun e w' => e = .returned (.agg #[.int .i64 (hiOf n), .int .u64 (loOf n)]) ∧ Below w.heap.size w w' :=
  (sum_any n w).mono fun e w' ⟨he, hw⟩ => ⟨he, by rw [← hw]; exact below1 _ _⟩
theorem sum_c (n h l : Int) (h1 : h = hiOf n) (h2 : loOf n = l) (w : World) : Calls Try.prog 10 #[.int .i64 n] w fun e w' => e = .returned (.agg #[.int .i64 h, .int .u64 l]) ∧ Below w.heap.size w w' := by
  subst h1; subst h2
  exact sum_b n w
/-- does a sum fit into int64? -/
def SmallFits (h l : Int) : Prop := h = 0 ∧ l ≤ 9223372036854775807 ∨ h = -1 ∧ 9223372036854775808 ≤ l
theorem small_eq (h l : Int) (hl0 : 0 ≤ l) (hl1 : l ≤ 18446744073709551615) : SmallFits h l ↔ h = wrap64 l / 9223372036854775808 := by
  unfold SmallFits wrap64; omega
theorem small_u (l : Int) (hl0 : 0 ≤ l) (hl1 : l ≤ 18446744073709551615) : IntKind.u64.wrap (wrap64 l) = l := by rw [IntKind.wrap_u64]; unfold wrap64; omega
/-! the product -/
def m64h (x y : Int) : Int := x * y / 18446744073709551616
def m64l (x y : Int) : Int := x * y % 18446744073709551616
/-- the upper word of a product, mended for signs -/
def mulHi (a b : Int) : Int := a * b / 18446744073709551616
theorem mul_bound (a b : Int) (ha : I64 a) (hb : I64 b) : -85070591730234615865843651857942052864 ≤ a * b ∧ a * b ≤ 85070591730234615865843651857942052864 := by
  obtain ⟨a0, a1⟩ := ha
  obtain ⟨b0, b1⟩ := hb
  have h1 : (a * b).natAbs = a.natAbs * b.natAbs := Int.natAbs_mul a b
  have h2 : a.natAbs * b.natAbs ≤ 9223372036854775808 * 9223372036854775808 := Nat.mul_le_mul (by omega) (by omega)
  omega
theorem mul_words (a b : Int) (ha : I64 a) (hb : I64 b) :
    m64l (IntKind.u64.wrap a) (IntKind.u64.wrap b) = a * b % 18446744073709551616 ∧
    (m64h (IntKind.u64.wrap a) (IntKind.u64.wrap b) - (if a < 0 then IntKind.u64.wrap b else 0) - (if b < 0 then IntKind.u64.wrap a else 0) - mulHi a b) % 18446744073709551616 = 0 := by
  obtain ⟨a0, a1⟩ := ha
  obtain ⟨b0, b1⟩ := hb
  unfold m64l m64h mulHi
  simp only [IntKind.wrap_u64]
  have wa : a % 18446744073709551616 = if a < 0 then a + 18446744073709551616 else a := by split <;> omega
  have wb : b % 18446744073709551616 = if b < 0 then b + 18446744073709551616 else b := by split <;> omega
  rw [wa, wb]
  by_cases h1 : a < 0 <;> by_cases h2 : b < 0 <;> simp only [h1, h2, if_true, if_false]
  · have e : (a + 18446744073709551616) * (b + 18446744073709551616) = a * b + 18446744073709551616 * a + 18446744073709551616 * b + 18446744073709551616 * 18446744073709551616 := by
      rw [Int.add_mul, Int.mul_add, Int.mul_add]; omega
    rw [e]; omega
  · have e : (a + 18446744073709551616) * b = a * b + 18446744073709551616 * b := by rw [Int.add_mul]
    rw [e]; omega
  · have e : a * (b + 18446744073709551616) = a * b + 18446744073709551616 * a := by rw [Int.mul_add]; omega
    rw [e]; omega
  · exact ⟨trivial, by simp⟩

theorem mul_hi_of (a b x : Int) (ha : I64 a) (hb : I64 b) (h : (x - mulHi a b) % 18446744073709551616 = 0) : wrap64 x = mulHi a b := by
  obtain ⟨p0, p1⟩ := mul_bound a b ha hb
  unfold mulHi at *
  generalize a * b = p at *
  unfold wrap64
  omega
theorem mul_fits (a b : Int) : SmallFits (mulHi a b) (a * b % 18446744073709551616) ↔ -9223372036854775808 ≤ a * b ∧ a * b ≤ 9223372036854775807 := by
  unfold SmallFits mulHi
  generalize a * b = p
  omega
end Go.Proofs.Ythlfbakndbjhoaa
