/- Decimal digits: the plain law. -/
import Derived.Test.YthlfbakndbjhoaaNumSu
set_option linter.unusedSimpArgs false
set_option linter.unusedVariables false
namespace Go.Proofs.Ythlfbakndbjhoaa
open Go.RowKit
/-- one digit -/
def dig (d : Nat) : UInt8 := UInt8.ofNat (48 + d)
/-- a number in decimal -/
def decN (m : Nat) : List UInt8 := if h : m < 10 then [dig m] else decN (m / 10) ++ [dig (m % 10)]
termination_by m
decreasing_by omega
theorem decN_small {m : Nat} (h : m < 10) : decN m = [dig m] := by rw [decN, dif_pos h]
theorem decN_big {m : Nat} (h : ¬ m < 10) : decN m = decN (m / 10) ++ [dig (m % 10)] := by rw [decN, dif_neg h]
theorem decN_ne (m : Nat) : decN m ≠ [] := by
  by_cases h : m < 10
  · rw [decN_small h]; simp
  · rw [decN_big h]; simp
theorem decN_len : ∀ (k m : Nat), m < 10 ^ (k + 1) → (decN m).length ≤ k + 1
  | 0, m, h => by rw [decN_small (by simpa using h)]; simp
  | k + 1, m, h => by
    by_cases hm : m < 10
    · rw [decN_small hm]; simp
    · rw [decN_big hm, List.length_append]
      have := decN_len k (m / 10) (by rw [Nat.pow_succ] at h; omega)
      simp only [List.length_singleton]; omega
/-- a sum in decimal -/
def printL (z : Int) : List UInt8 := if z < 0 then 45 :: decN z.natAbs else decN z.natAbs
theorem printL_len {z : Int} (h : InS z) : (printL z).length ≤ 40 := by
  obtain ⟨h0, h1⟩ := h
  have := decN_len 38 z.natAbs (by
    have : (10 : Nat) ^ (38 + 1) = 1000000000000000000000000000000000000000 := by decide
    omega)
  unfold printL
  split <;> simp <;> omega
/-- a text as a value -/
def strV (l : List UInt8) : Value := .string ⟨l.toArray⟩
end Go.Proofs.Ythlfbakndbjhoaa
