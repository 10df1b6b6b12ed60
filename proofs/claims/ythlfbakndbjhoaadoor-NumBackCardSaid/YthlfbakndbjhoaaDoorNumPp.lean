/- Reading digits: the plain law. -/
import Derived.Test.YthlfbakndbjhoaaDoorNumPl
set_option linter.unusedSimpArgs false
set_option linter.unusedVariables false
namespace Go.Proofs.YthlfbakndbjhoaaDoor
open Go.RowKit
/-- is a byte a digit? -/
def IsDig (b : UInt8) : Prop := 48 ≤ b.toNat ∧ b.toNat ≤ 57
/-- digits as a number -/
def hor (l : List UInt8) : Nat := l.foldl (fun a b => a * 10 + (b.toNat - 48)) 0
theorem hor_snoc (l : List UInt8) (b : UInt8) : hor (l ++ [b]) = hor l * 10 + (b.toNat - 48) := by simp [hor]
theorem hor_nil : hor [] = 0 := rfl
theorem dig_nat {d : Nat} (h : d < 10) : (dig d).toNat = 48 + d := by
  unfold dig; rw [UInt8.toNat_ofNat']; omega
theorem hor_append (l : List UInt8) : ∀ (r : List UInt8), hor l ≤ hor (l ++ r)
  | [] => by simp
  | b :: r => by
    rw [show l ++ b :: r = (l ++ [b]) ++ r by simp]
    refine Nat.le_trans ?_ (hor_append (l ++ [b]) r)
    rw [hor_snoc]; omega
termination_by r => r.length
theorem hor_take (l : List UInt8) (k : Nat) : hor (l.take k) ≤ hor l := by
  have := hor_append (l.take k) (l.drop k)
  rwa [List.take_append_drop] at this
theorem hor_decN (m : Nat) : hor (decN m) = m := by
  induction m using Nat.strongRecOn with
  | ind m ih =>
    by_cases h : m < 10
    · rw [decN_small h]; simp [hor, dig_nat h]
    · rw [decN_big h, hor_snoc, ih (m / 10) (by omega), dig_nat (Nat.mod_lt _ (by omega))]; omega
theorem decN_dig (m : Nat) : ∀ b ∈ decN m, IsDig b := by
  induction m using Nat.strongRecOn with
  | ind m ih =>
    have hd : ∀ d, d < 10 → IsDig (dig d) := fun d hd => by unfold IsDig; rw [dig_nat hd]; omega
    by_cases h : m < 10
    · rw [decN_small h]; intro b hb; simp only [List.mem_singleton] at hb; subst hb; exact hd m h
    · rw [decN_big h]; intro b hb
      rcases List.mem_append.1 hb with hb | hb
      · exact ih (m / 10) (by omega) b hb
      · simp only [List.mem_singleton] at hb; subst hb; exact hd _ (Nat.mod_lt _ (by omega))
/-- the number of 128 bits with a sign that x is, going round -/
def wrapS (x : Int) : Int := (x + 170141183460469231731687303715884105728) % 340282366920938463463374607431768211456 - 170141183460469231731687303715884105728
theorem wrapS_in (x : Int) : InS (wrapS x) := by unfold wrapS; constructor <;> omega
theorem wrapS_of {x : Int} (h : InS x) : wrapS x = x := by obtain ⟨a, b⟩ := h; unfold wrapS; omega
theorem printL_sign (z : Int) : (∃ t, printL z = 45 :: t) ↔ z < 0 := by
  unfold printL
  constructor
  · rintro ⟨t, ht⟩
    by_cases hz : z < 0
    · exact hz
    · rw [if_neg hz] at ht
      have := decN_dig z.natAbs 45 (by rw [ht]; simp)
      unfold IsDig at this
      exact absurd this.1 (by decide)
  · intro hz; rw [if_pos hz]; exact ⟨_, rfl⟩
end Go.Proofs.YthlfbakndbjhoaaDoor
