/- Plain: a round of the tags, the end, as the reader goes. -/
import Derived.Test.YtbaopcpmmdmomaaGreatDoorKeyPb
set_option linter.unusedSimpArgs false
set_option linter.unusedVariables false
namespace Go.Proofs.YtbaopcpmmdmomaaGreatDoor
open Go.RowKit
theorem pcR_err {l : List UInt8} {k p : Nat} {e : Option Nat} (h : (pcR l k e).2.2 = some p) : (pcR l k e).1 = [] := by
  cases e with
  | some q => rfl
  | none =>
    unfold pcR at h ⊢
    generalize unL (l.drop k) = Z at *
    obtain ⟨ok, n, o⟩ := Z
    cases ok
    · rfl
    · cases h
/-- a round: what the reader tells -/
structure Round (l : List UInt8) (k : Nat) (a b : List UInt8) (k' : Nat) (e' : Option Nat) : Prop where
  tag : (tagF l k).2.2 = (a, b)
  err : (tagF l k).1 = e'
  at_ : e' = none → (tagF l k).2.1 = k'
theorem round_of (l : List UInt8) (k : Nat) (a c : List UInt8 × Nat × Option Nat) (b : Bool) (k1 : Nat) (e1 : Option Nat) (ha : pcR l (k + 1) none = a) (hb : isR l a.2.1 a.2.2 61 = b) (hk1 : k1 = isK l a.2.1 a.2.2 61)
    (he1 : e1 = muR k1 a.2.2 b) (hc : pcR l k1 e1 = c) : Round l k a.1 c.1 c.2.1 c.2.2 := by
  subst ha
  unfold isK at hk1
  rw [hb] at hk1
  cases he : (pcR l (k + 1) none).2.2 with
  | some p =>
    have hb' : b = false := by rw [← hb, he]; rfl
    subst hb'
    rw [he] at he1
    subst he1
    subst hc
    have ht := pcR_err he
    refine ⟨?_, ?_, fun h => (by cases h)⟩
    · unfold tagF; rw [he]; simp only; rw [ht]; rfl
    · unfold tagF; rw [he]; rfl
  | none =>
    rw [he] at hb he1
    cases b
    · simp only [Bool.false_eq_true, if_false] at hk1
      subst hk1
      subst he1
      subst hc
      refine ⟨?_, ?_, fun h => (by cases h)⟩
      · unfold tagF; rw [he]; simp only; rw [if_neg (by rw [hb]; simp)]; rfl
      · unfold tagF; rw [he]; simp only; rw [if_neg (by rw [hb]; simp)]; rfl
    · simp only [if_true] at hk1
      subst hk1
      have he1' : e1 = none := he1
      subst he1'
      subst hc
      cases hc2 : (pcR l ((pcR l (k + 1) none).2.1 + 1) none).2.2 with
      | some p =>
        have ht := pcR_err hc2
        refine ⟨?_, ?_, fun h => (by cases h)⟩
        · unfold tagF; rw [he]; simp only; rw [if_pos hb, hc2]; simp only; rw [ht]
        · unfold tagF; rw [he]; simp only; rw [if_pos hb, hc2]
      | none =>
        refine ⟨?_, ?_, fun h => ?_⟩
        · unfold tagF; rw [he]; simp only; rw [if_pos hb, hc2]
        · unfold tagF; rw [he]; simp only; rw [if_pos hb, hc2]
        · unfold tagF; rw [he]; simp only; rw [if_pos hb, hc2]
theorem end_of (l : List UInt8) (k : Nat) (e : Option Nat) (b : Bool) (k1 : Nat) (e1 : Option Nat) (c : List UInt8 × Nat × Option Nat) (ok : Bool) (e3 : Option Nat) (hk : k ≤ l.length) (hb : isR l k e 32 = b) (hk1 : k1 = isK l k e 32)
    (he1 : e1 = muR k1 e b) (hc : pcR l k1 e1 = c) (hok : ok = (c.2.2.isNone && c.2.1 == l.length)) (he3 : e3 = muR c.2.1 c.2.2 ok) : (endF l k e).1 = e3 ∧ (e3 = none → (endF l k e).2 = c.1) := by
  unfold isK at hk1
  rw [hb] at hk1
  cases e with
  | some p =>
    have hb' : b = false := by rw [← hb]; rfl
    subst hb'
    subst he1
    subst hc
    have : ok = false := by rw [hok]; rfl
    subst this
    subst he3
    exact ⟨rfl, fun h => (by cases h)⟩
  | none =>
    cases b
    · simp only [Bool.false_eq_true, if_false] at hk1
      subst hk1
      subst he1
      subst hc
      have : ok = false := by rw [hok]; rfl
      subst this
      subst he3
      refine ⟨?_, fun h => (by cases h)⟩
      unfold endF
      simp only
      rw [if_neg (by rw [hb]; simp)]
      rfl
    · simp only [if_true] at hk1
      subst hk1
      have he1' : e1 = none := he1
      subst he1'
      subst hc
      have hlt := (isR_lt hb).2.1
      obtain ⟨_, hle, _⟩ := pcR_le l (k + 1) none (by omega)
      unfold endF
      simp only
      rw [if_pos hb]
      cases hc2 : (pcR l (k + 1) none).2.2 with
      | some p =>
        rw [hc2] at hok he3
        have : ok = false := by rw [hok]; rfl
        subst this
        subst he3
        exact ⟨rfl, fun h => (by cases h)⟩
      | none =>
        rw [hc2] at hok he3
        simp only
        by_cases hl : (pcR l (k + 1) none).2.1 < l.length
        · have : ok = false := by rw [hok]; simp; omega
          subst this
          subst he3
          rw [if_pos hl]
          exact ⟨rfl, fun h => (by cases h)⟩
        · have : ok = true := by rw [hok]; simp; omega
          subst this
          have he4 : e3 = none := he3
          subst he4
          rw [if_neg hl]
          exact ⟨rfl, fun _ => rfl⟩
end Go.Proofs.YtbaopcpmmdmomaaGreatDoor
