/- bits.Div64 at every pair of words; num.size, num.Ratio. -/
import Derived.Test.YthlfbakndbjhoaaNumDv
set_option linter.unusedSimpArgs false
set_option linter.unusedVariables false
namespace Go.Proofs.Ythlfbakndbjhoaa
open Go.RowKit

theorem below_drewN (w : World) (n : Nat) : Below w.heap.size w (w.drewN n) := ⟨rfl, rfl, rfl, Nat.le_refl _, fun _ _ => rfl⟩
theorem div64_lo (lo y : Int) (w : World) (h1 : 0 < y) (l0 : 0 ≤ lo) (l1 : lo ≤ 18446744073709551615) (y1 : y ≤ 18446744073709551615) :
    Calls Try.prog 14 #[.int .u64 0, .int .u64 lo, .int .u64 y] w fun e w' => e = .returned (.tuple #[.int .u64 (lo / y), .int .u64 (lo % y)]) ∧ Below w.heap.size w w' := by
  have z1 : (y == 0) = false := by simp; omega
  have hz : ¬ y = 0 := by omega
  have e1 : lo.tdiv y = lo / y := Int.tdiv_eq_ediv_of_nonneg l0
  have e2 : lo.tmod y = lo % y := Int.tmod_eq_emod_of_nonneg l0
  have q1 : 0 ≤ lo / y ∧ lo / y ≤ lo := ⟨Int.ediv_nonneg l0 (by omega), Int.ediv_le_self _ l0⟩
  go_enter Try.func14, Try.ntmps14
  go_wp2
  go_quiet (fail)
  go_wp2
  go_ret2
  exact ⟨rfl, below_drewN _ _⟩
theorem div64_all (hi lo y : Int) (w : World) (h0 : 0 ≤ hi) (h1 : hi < y) (l0 : 0 ≤ lo) (l1 : lo ≤ 18446744073709551615) (y1 : y ≤ 18446744073709551615) :
    Calls Try.prog 14 #[.int .u64 hi, .int .u64 lo, .int .u64 y] w fun e w' => e = .returned (.tuple #[.int .u64 ((hi * 18446744073709551616 + lo) / y), .int .u64 ((hi * 18446744073709551616 + lo) % y)]) ∧ Below w.heap.size w w' := by
  by_cases hz : hi = 0
  · subst hz
    rw [show (0 : Int) * 18446744073709551616 + lo = lo by omega]
    exact div64_lo lo y w h1 l0 l1 y1
  · exact (div64_any hi lo y w h0 h1 l0 l1 y1 hz).mono fun e w' ⟨he, hw⟩ => ⟨he, by rw [← hw]; exact Below.refl _ _⟩

/-- the words of a sum's distance from 0 -/
def absHi (h l : Int) : Int := if 0 ≤ h then h else (-(h * 18446744073709551616 + l)) / 18446744073709551616
def absLo (h l : Int) : Int := if 0 ≤ h then l else (-(h * 18446744073709551616 + l)) % 18446744073709551616
theorem size_pos (h l : Int) (w : World) (hh : 0 ≤ h) (hh1 : h ≤ 9223372036854775807) :
    Calls Try.prog 13 #[.agg #[.int .i64 h, .int .u64 l]] w fun e w' => e = .returned (.tuple #[.int .u64 h, .int .u64 l, .bool false]) ∧ Below w.heap.size w w' := by
  have u : IntKind.u64.wrap h = h := by rw [IntKind.wrap_u64]; omega
  go_enter Try.func13, Try.ntmps13
  go_wp2
  go_quiet (fail)
  go_wp2
  go_ret3
  exact ⟨rfl, (below1 _ _).trans (below_drewN _ _ |>.mono (by simp))⟩
theorem u64_signed : IntKind.u64.signed = false := rfl
attribute [local go_sem] u64_signed
theorem not64 (n : Int) (h0 : 0 ≤ n) (h1 : n ≤ 18446744073709551615) : bits .xor .u64 IntKind.u64.max n = 18446744073709551615 - n := by
  obtain ⟨n, rfl⟩ := Int.eq_ofNat_of_zero_le h0
  have e : (BitVec.ofInt 64 IntKind.u64.max) = BitVec.allOnes 64 := by decide
  have e2 : (BitVec.ofInt 64 (n : Int)).toNat = n := by rw [BitVec.ofInt_natCast, BitVec.toNat_ofNat]; exact Nat.mod_eq_of_lt (by omega)
  show IntKind.u64.wrap (((BitVec.ofInt 64 IntKind.u64.max) ^^^ (BitVec.ofInt 64 (n : Int))).toNat : Int) = _
  rw [e, BitVec.allOnes_xor, BitVec.toNat_not, e2, IntKind.wrap_u64]
  omega
theorem abs_words (h l a b : Int) (hh0 : -9223372036854775808 ≤ h) (hh : h < 0) (l0 : 0 ≤ l) (l1 : l ≤ 18446744073709551615) (ha : a = 18446744073709551615 - l) (hb : b = 18446744073709551615 - IntKind.u64.wrap h) :
    a64l a 1 0 = absLo h l ∧ IntKind.u64.wrap (b + a64h a 1 0) = absHi h l := by
  subst ha; subst hb
  unfold a64l a64h absLo absHi
  rw [if_neg (by omega), if_neg (by omega)]
  simp only [IntKind.wrap_u64]
  omega
theorem size_neg (h l : Int) (w : World) (hh0 : -9223372036854775808 ≤ h) (hh : h < 0) (l0 : 0 ≤ l) (l1 : l ≤ 18446744073709551615) :
    Calls Try.prog 13 #[.agg #[.int .i64 h, .int .u64 l]] w fun e w' => e = .returned (.tuple #[.int .u64 (absHi h l), .int .u64 (absLo h l), .bool true]) ∧ Below w.heap.size w w' := by
  obtain ⟨a, ha⟩ : ∃ a, bits .xor .u64 IntKind.u64.max l = a := ⟨_, rfl⟩
  obtain ⟨b, hb⟩ : ∃ b, bits .xor .u64 IntKind.u64.max (IntKind.u64.wrap h) = b := ⟨_, rfl⟩
  obtain ⟨u0, u1⟩ := u64_range h
  have ea : a = 18446744073709551615 - l := by rw [← ha]; exact not64 l l0 l1
  have eb : b = 18446744073709551615 - IntKind.u64.wrap h := by rw [← hb]; exact not64 _ u0 u1
  obtain ⟨e1, e2⟩ := abs_words h l a b hh0 hh l0 l1 ea eb
  have a1 := fun w => add64 a 1 0 (by omega) (by omega) (Int.le_refl 0) (by decide) w
  clear ea eb hh0 l1 u0 u1
  go_enter Try.func13, Try.ntmps13
  go_wp2_with (simp only [a1])
  go_ret3
  exact ⟨rfl, below1 _ _⟩

/-- a sum as a whole number -/
def sZ (h l : Int) : Int := h * 18446744073709551616 + l
/-- is a sum below 0? -/
def isNeg (h : Int) : Bool := decide (h < 0)
structure SumW (h l : Int) : Prop where
  h0 : -9223372036854775808 ≤ h
  h1 : h ≤ 9223372036854775807
  l0 : 0 ≤ l
  l1 : l ≤ 18446744073709551615
theorem size_any (h l : Int) (w : World) (hs : SumW h l) :
    Calls Try.prog 13 #[.agg #[.int .i64 h, .int .u64 l]] w fun e w' => e = .returned (.tuple #[.int .u64 (absHi h l), .int .u64 (absLo h l), .bool (isNeg h)]) ∧ Below w.heap.size w w' := by
  by_cases hh : h < 0
  · rw [show isNeg h = true by unfold isNeg; simpa using hh]; exact size_neg h l w hs.h0 hh hs.l0 hs.l1
  · rw [show isNeg h = false by unfold isNeg; simpa using hh, show absHi h l = h by unfold absHi; rw [if_pos (by omega)], show absLo h l = l by unfold absLo; rw [if_pos (by omega)]]
    exact size_pos h l w (by omega) hs.h1
theorem abs_val (h l : Int) (hs : SumW h l) : 0 ≤ absHi h l ∧ absHi h l ≤ 9223372036854775808 ∧ 0 ≤ absLo h l ∧ absLo h l ≤ 18446744073709551615 ∧ absHi h l * 18446744073709551616 + absLo h l = (if h < 0 then -sZ h l else sZ h l) := by
  obtain ⟨h0, h1, l0, l1⟩ := hs
  unfold absHi absLo sZ
  by_cases hh : h < 0
  · rw [if_neg (by omega), if_neg (by omega), if_pos hh]; omega
  · rw [if_pos (by omega), if_pos (by omega), if_neg hh]; omega
/-- a number's distance from 0, as one word -/
def absN (n : Int) : Int := if n < 0 then -n else n
theorem sumW_num (n : Int) (hn : I64 n) : SumW (hiOf n) (loOf n) ∧ sZ (hiOf n) (loOf n) = n ∧ (hiOf n < 0 ↔ n < 0) := by
  obtain ⟨n0, n1⟩ := hn
  unfold hiOf loOf sZ
  rw [IntKind.wrap_u64]
  exact ⟨⟨by omega, by omega, by omega, by omega⟩, by omega, by omega⟩
theorem abs_num (n : Int) (hn : I64 n) : absHi (hiOf n) (loOf n) = 0 ∧ absLo (hiOf n) (loOf n) = absN n ∧ isNeg (hiOf n) = decide (n < 0) := by
  obtain ⟨hw, hz, hs⟩ := sumW_num n hn
  obtain ⟨a0, a1, b0, b1, e⟩ := abs_val _ _ hw
  rw [hz] at e
  obtain ⟨n0, n1⟩ := hn
  refine ⟨?_, ?_, by unfold isNeg; exact decide_eq_decide.2 hs⟩
  · by_cases h : n < 0
    · rw [if_pos (hs.2 h)] at e; omega
    · rw [if_neg (fun x => h (hs.1 x))] at e; omega
  · unfold absN
    by_cases h : n < 0
    · rw [if_pos (hs.2 h)] at e; rw [if_pos h]; omega
    · rw [if_neg (fun x => h (hs.1 x))] at e; rw [if_neg h]; omega
theorem size_num (n : Int) (w : World) (hn : I64 n) :
    Calls Try.prog 13 #[.agg #[.int .i64 (hiOf n), .int .u64 (loOf n)]] w fun e w' => e = .returned (.tuple #[.int .u64 0, .int .u64 (absN n), .bool (decide (n < 0))]) ∧ Below w.heap.size w w' := by
  obtain ⟨e1, e2, e3⟩ := abs_num n hn
  have h := size_any _ _ w (sumW_num n hn).1
  rw [e1, e2, e3] at h
  exact h
theorem div64_q (hi lo y q r : Int) (w : World) (h0 : 0 ≤ hi) (h1 : hi < y) (l0 : 0 ≤ lo) (l1 : lo ≤ 18446744073709551615) (y1 : y ≤ 18446744073709551615)
    (hq : q = (hi * 18446744073709551616 + lo) / y) (hr : r = (hi * 18446744073709551616 + lo) % y) :
    Calls Try.prog 14 #[.int .u64 hi, .int .u64 lo, .int .u64 y] w fun e w' => e = .returned (.tuple #[.int .u64 q, .int .u64 r]) ∧ Below w.heap.size w w' := by
  rw [hq, hr]; exact div64_all hi lo y w h0 h1 l0 l1 y1

/-- rounded down -/
def floorZ (x n : Int) : Int := Int.fdiv x n
theorem floor_same (x n M d q : Int) (hd : 0 < d) (hM : 0 ≤ M) (h : x = M ∧ n = d ∨ x = -M ∧ n = -d) (hq : q = M / d) : floorZ x n = q := by
  unfold floorZ
  rcases h with ⟨rfl, rfl⟩ | ⟨rfl, rfl⟩
  · rw [Int.fdiv_eq_ediv_of_nonneg _ (by omega), hq]
  · rw [Int.neg_fdiv_neg, Int.fdiv_eq_ediv_of_nonneg _ (by omega), hq]
theorem floor_diff (x n M d q r : Int) (hd : 0 < d) (hM : 0 ≤ M) (h : x = M ∧ n = -d ∨ x = -M ∧ n = d) (hq : q = M / d) (hr : r = M % d) : floorZ x n = if r = 0 then -q else -(q + 1) := by
  have e := Int.ediv_mul_add_emod M d
  have r0 := Int.emod_nonneg M (show d ≠ 0 by omega)
  have r1 := Int.emod_lt_of_pos M hd
  rw [← hq, ← hr] at e
  rw [← hr] at r0 r1
  have hx : floorZ x n = (-M) / d := by
    unfold floorZ
    rcases h with ⟨rfl, rfl⟩ | ⟨rfl, rfl⟩
    · rw [← Int.neg_fdiv_neg, Int.neg_neg, Int.fdiv_eq_ediv_of_nonneg _ (by omega)]
    · rw [Int.fdiv_eq_ediv_of_nonneg _ (by omega)]
  rw [hx]
  by_cases hz : r = 0
  · rw [if_pos hz, ← e, hz, show -(q * d + 0) = (-q) * d by rw [Int.neg_mul]; omega, Int.mul_ediv_cancel _ (by omega)]
  · rw [if_neg hz, ← e, show -(q * d + r) = (d - r) + (-(q + 1)) * d by rw [Int.neg_mul, Int.add_mul]; omega, Int.add_mul_ediv_right _ _ (by omega), Int.ediv_eq_zero_of_lt (by omega) (by omega)]; omega
end Go.Proofs.Ythlfbakndbjhoaa
