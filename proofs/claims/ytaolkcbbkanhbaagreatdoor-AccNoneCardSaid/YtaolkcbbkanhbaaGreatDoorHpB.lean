/- Build moves no more entries than there are. -/
import Derived.Test.YtaolkcbbkanhbaaGreatDoorHpA
set_option linter.unusedSimpArgs false
set_option linter.unusedVariables false
namespace Go.Proofs.YtaolkcbbkanhbaaGreatDoor
/-- for how many powers 2, 4, .. (K of them) the place i has entries that far below it -/
def cntH (n i : Nat) : Nat → Nat
  | 0 => 0
  | k + 1 => cntH n i k + (if 2 ^ (k + 1) * (i + 1) ≤ n then 1 else 0)
theorem cntH_ge (n i d : Nat) (h : 2 ^ d * (i + 1) ≤ n) : ∀ K, d ≤ cntH n i K ∨ K ≤ cntH n i K := by
  intro K
  induction K with
  | zero => exact Or.inr (Nat.zero_le _)
  | succ k ih =>
    simp only [cntH]
    rcases ih with ih | ih
    · left; omega
    · by_cases hk : k + 1 ≤ d
      · right
        have : 2 ^ (k + 1) * (i + 1) ≤ n := Nat.le_trans (Nat.mul_le_mul_right _ (Nat.pow_le_pow_right (by omega) hk)) h
        rw [if_pos this]; omega
      · left; omega
def sumH (n K : Nat) : Nat → Nat
  | 0 => 0
  | c + 1 => sumH n K c + cntH n c K
def rowH (n k : Nat) : Nat → Nat
  | 0 => 0
  | c + 1 => rowH n k c + (if 2 ^ (k + 1) * (c + 1) ≤ n then 1 else 0)
theorem sumH_succ (n K c : Nat) : sumH n (K + 1) c = sumH n K c + rowH n K c := by
  induction c with
  | zero => rfl
  | succ c ih => simp only [sumH, rowH, cntH, ih]; omega
theorem rowH_le (n k : Nat) : ∀ c, rowH n k c ≤ n / 2 ^ (k + 1) ∧ rowH n k c ≤ c := by
  intro c
  induction c with
  | zero => exact ⟨Nat.zero_le _, Nat.le_refl _⟩
  | succ c ih =>
    simp only [rowH]
    by_cases h : 2 ^ (k + 1) * (c + 1) ≤ n
    · rw [if_pos h]
      have : c + 1 ≤ n / 2 ^ (k + 1) := (Nat.le_div_iff_mul_le (Nat.pos_of_ne_zero (by simp))).2 (by rw [Nat.mul_comm]; exact h)
      omega
    · rw [if_neg h]; omega
theorem sumH_le (n c : Nat) : ∀ K, sumH n K c + n / 2 ^ K ≤ n := by
  intro K
  induction K with
  | zero =>
    have : sumH n 0 c = 0 := by
      induction c with
      | zero => rfl
      | succ c ih => simp only [sumH, cntH, ih]
    simp [this]
  | succ K ih =>
    rw [sumH_succ]
    have h1 := (rowH_le n K c).1
    have h2 : n / 2 ^ (K + 1) = n / 2 ^ K / 2 := by rw [Nat.pow_succ, Nat.div_div_eq_div_mul]
    omega
theorem down_cnt (mo : Bool) (L : List Ent) (i : Nat) (h : i < L.length) : (downH mo L i).2 ≤ cntH L.length i L.length := by
  have h1 := downF_moves mo L.length L i h
  have h2 : (downH mo L i).2 < L.length := by
    have : (downF mo L.length L i).2 < 2 ^ (downF mo L.length L i).2 := Nat.lt_two_pow_self
    have h3 : 2 ^ (downF mo L.length L i).2 * 1 ≤ 2 ^ (downF mo L.length L i).2 * (i + 1) := Nat.mul_le_mul_left _ (by omega)
    unfold downH; omega
  rcases cntH_ge L.length i (downH mo L i).2 h1 L.length with h | h <;> omega
theorem bldF_moves (mo : Bool) (n : Nat) : ∀ (c : Nat) (s : List Ent × Nat), s.1.length = n → c ≤ n → (bldF mo c s).2 ≤ s.2 + sumH n n c ∧ (bldF mo c s).1.length = n ∧ (bldF mo c s).1.Perm s.1 := by
  intro c
  induction c with
  | zero => intro s hs _; exact ⟨Nat.le_refl _, hs, List.Perm.refl _⟩
  | succ c ih =>
    intro s hs hc
    simp only [bldF, sumH]
    have h := ih ((downH mo s.1 c).1, s.2 + (downH mo s.1 c).2) (by simp [downH_len, hs]) (by omega)
    have h2 := down_cnt mo s.1 c (by omega)
    rw [hs] at h2
    exact ⟨by have := h.1; simp only at this; omega, h.2.1, h.2.2.trans (downH_perm _ _ _)⟩
theorem bldH_moves (mo : Bool) (L : List Ent) : (bldH mo L).2 ≤ L.length := by
  have h := (bldF_moves mo L.length (L.length / 2) (L, 0) rfl (by omega)).1
  have h2 := Nat.le_of_add_right_le (sumH_le L.length (L.length / 2) L.length)
  unfold bldH
  simp only at h
  omega
theorem bldH_len (mo : Bool) (L : List Ent) : (bldH mo L).1.length = L.length := (bldF_moves mo L.length (L.length / 2) (L, 0) rfl (by omega)).2.1
theorem bldH_perm (mo : Bool) (L : List Ent) : (bldH mo L).1.Perm L := (bldF_moves mo L.length (L.length / 2) (L, 0) rfl (by omega)).2.2
end Go.Proofs.YtaolkcbbkanhbaaGreatDoor
