/- The reference's division of two words by one, bit for bit. -/
import Derived.Test.YthlfbakndbjhoaaNumDw
import Derived.Test.YthlfbakndbjhoaaNumReck
set_option linter.unusedSimpArgs false
set_option linter.unusedVariables false
namespace Go.Proofs.Ythlfbakndbjhoaa
open Go.RowKit
/-- the division when t bits are still to come -/
structure DV (hi lo n : Int) (t : Nat) (a b c : Int) : Prop where
  a0 : 0 ≤ a
  b0 : 0 ≤ b
  b1 : b ≤ 18446744073709551615
  c0 : 0 ≤ c
  c1 : c < n
  e : (hi * 18446744073709551616 + lo) / 2 ^ t = (a * 18446744073709551616 + b) * n + c
theorem bits_and_one (L : Int) (h0 : 0 ≤ L) (h1 : L ≤ 18446744073709551615) : bits .and .u64 L 1 = L % 2 := by
  obtain ⟨l, rfl⟩ : ∃ l : Nat, L = l := ⟨L.toNat, by omega⟩
  have h := u64_and_nat l 1 (by omega) (by omega)
  rw [show ((1 : Nat) : Int) = 1 from rfl] at h
  rw [h, Nat.and_one_is_mod]
  omega
theorem or_two (x y : Int) (h0 : 0 ≤ x) (h1 : x ≤ 9223372036854775807) (hy : y = 0 ∨ y = 1) : bits .or .u64 (IntKind.u64.wrap (x * 2)) y = 2 * x + y := by
  have e : IntKind.u64.wrap (x * 2) = 2 * x := by rw [IntKind.wrap_u64]; omega
  rw [e]
  obtain ⟨a, rfl⟩ : ∃ a : Nat, x = a := ⟨x.toNat, by omega⟩
  obtain ⟨c, rfl, hc⟩ : ∃ c : Nat, y = c ∧ c < 2 := by
    rcases hy with h | h
    · exact ⟨0, by omega, by omega⟩
    · exact ⟨1, by omega, by omega⟩
  have h := bits_or_add a c 1 (by omega) (by omega) (by omega)
  have e1 : ((2 ^ 1 * a : Nat) : Int) = 2 * (a : Int) := by omega
  have e2 : ((2 ^ 1 * a + c : Nat) : Int) = 2 * (a : Int) + c := by omega
  rw [e1, e2] at h
  exact h
theorem or_two_mod (x : Int) (h0 : 0 ≤ x) (h1 : x ≤ 18446744073709551615) : bits .or .u64 (IntKind.u64.wrap (x * 2)) 1 = (2 * x) % 18446744073709551616 + 1 := by
  have e : IntKind.u64.wrap (x * 2) = IntKind.u64.wrap ((x % 9223372036854775808) * 2) := by rw [IntKind.wrap_u64, IntKind.wrap_u64]; omega
  rw [e, or_two _ 1 (by omega) (by omega) (.inr rfl)]
  omega
/-- bit k of the number -/
theorem bit_hi (hi lo : Int) (k : Nat) (l0 : 0 ≤ lo) (l1 : lo ≤ 18446744073709551615) (hk : 64 ≤ k) : hi / 2 ^ (k - 64) = (hi * 18446744073709551616 + lo) / 2 ^ k := by
  obtain ⟨j, rfl⟩ : ∃ j, k = 64 + j := ⟨k - 64, by omega⟩
  have e64 : (2 : Int) ^ 64 = 18446744073709551616 := by decide
  have e : (2 : Int) ^ (64 + j) = 18446744073709551616 * 2 ^ j := by rw [Int.pow_add, e64]
  rw [e, ← Int.ediv_ediv_of_nonneg (by omega), show 64 + j - 64 = j by omega, show (hi * 18446744073709551616 + lo) / 18446744073709551616 = hi by omega]
theorem bit_lo (hi lo : Int) (k : Nat) (hk : k ≤ 63) : (lo / 2 ^ k) % 2 = ((hi * 18446744073709551616 + lo) / 2 ^ k) % 2 := by
  have e64 : (2 : Int) ^ 64 = 18446744073709551616 := by decide
  have e : (18446744073709551616 : Int) = 2 ^ k * (2 * 2 ^ (63 - k)) := by
    rw [← e64]
    have h1 : (2 : Int) ^ 64 = 2 ^ (k + (1 + (63 - k))) := congrArg _ (by omega)
    rw [h1, Int.pow_add, Int.pow_add]
    rfl
  clear e64
  have hp : (2 : Int) ^ k ≠ 0 := by
    have : (0 : Int) < 2 ^ k := Int.pow_pos (by omega)
    omega
  rw [e, show hi * (2 ^ k * (2 * 2 ^ (63 - k))) + lo = lo + 2 ^ k * (hi * (2 * 2 ^ (63 - k))) by rw [Int.mul_left_comm, Int.add_comm], Int.add_mul_ediv_left _ _ hp]
  rw [show hi * (2 * 2 ^ (63 - k)) = 2 * (hi * 2 ^ (63 - k)) by rw [Int.mul_left_comm]]
  omega
theorem half_step (N : Int) (k : Nat) : N / 2 ^ (k + 1) = N / 2 ^ k / 2 := by
  have hp : (0 : Int) ≤ 2 ^ k := Int.le_of_lt (Int.pow_pos (by omega))
  rw [Int.pow_succ, ← Int.ediv_ediv_of_nonneg hp]
theorem DV.top {hi lo n : Int} {k : Nat} {a b c : Int} (h : DV hi lo n (k + 1) a b c) (h0 : 0 ≤ hi) (h1 : hi ≤ 18446744073709551615) (l0 : 0 ≤ lo) (l1 : lo ≤ 18446744073709551615) (n0 : 1 ≤ n) : a ≤ 9223372036854775807 := by
  obtain ⟨a0, b0, b1, c0, c1, e⟩ := h
  rw [half_step] at e
  have hN : (hi * 18446744073709551616 + lo) / 2 ^ k ≤ hi * 18446744073709551616 + lo := Int.ediv_le_self _ (by omega)
  have hq : (a * 18446744073709551616 + b) * 1 ≤ (a * 18446744073709551616 + b) * n := Int.mul_le_mul_of_nonneg_left n0 (by omega)
  omega
theorem DV.yes {hi lo n : Int} {k : Nat} {a b c t : Int} (h : DV hi lo n (k + 1) a b c) (ht : t = ((hi * 18446744073709551616 + lo) / 2 ^ k) % 2) (hge : n ≤ 2 * c + t) :
    DV hi lo n k (2 * a + b / 9223372036854775808) ((2 * b) % 18446744073709551616 + 1) (2 * c + t - n) := by
  obtain ⟨a0, b0, b1, c0, c1, e⟩ := h
  rw [half_step] at e
  refine ⟨by omega, by omega, by omega, by omega, by omega, ?_⟩
  have e2 : (2 * a + b / 9223372036854775808) * 18446744073709551616 + ((2 * b) % 18446744073709551616 + 1) = 2 * (a * 18446744073709551616 + b) + 1 := by omega
  rw [e2, Int.add_mul, Int.mul_assoc, ← (show (hi * 18446744073709551616 + lo) / 2 ^ k / 2 - c = (a * 18446744073709551616 + b) * n by omega)]
  omega
theorem DV.no {hi lo n : Int} {k : Nat} {a b c t : Int} (h : DV hi lo n (k + 1) a b c) (ht : t = ((hi * 18446744073709551616 + lo) / 2 ^ k) % 2) (hlt : 2 * c + t < n) :
    DV hi lo n k (2 * a + b / 9223372036854775808) ((2 * b) % 18446744073709551616) (2 * c + t) := by
  obtain ⟨a0, b0, b1, c0, c1, e⟩ := h
  rw [half_step] at e
  refine ⟨by omega, by omega, by omega, by omega, by omega, ?_⟩
  have e2 : (2 * a + b / 9223372036854775808) * 18446744073709551616 + (2 * b) % 18446744073709551616 = 2 * (a * 18446744073709551616 + b) := by omega
  rw [e2, Int.mul_assoc, ← (show (hi * 18446744073709551616 + lo) / 2 ^ k / 2 - c = (a * 18446744073709551616 + b) * n by omega)]
  omega
end Go.Proofs.Ythlfbakndbjhoaa
