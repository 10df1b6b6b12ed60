/- Plain law: a text that was escaped is read back, up to a sign that is not. -/
import Derived.Test.YtbaopcpmmdmomaaGreatDoorKeyW
set_option linter.unusedSimpArgs false
set_option linter.unusedVariables false
namespace Go.Proofs.YtbaopcpmmdmomaaGreatDoor
open Go.RowKit
/-- what Unescape reads from place i on, o being read: is it right; the place where it stops; what was read -/
def unR (l : List UInt8) : Nat → Nat → List UInt8 → Bool × Nat × List UInt8
  | 0, i, o => (true, i, o)
  | f + 1, i, o =>
    if i < l.length ∧ (l.getD i 0 = 92 ∨ specB (l.getD i 0) = false) then
      (if l.getD i 0 = 92 then (if i + 1 < l.length ∧ specB (l.getD (i + 1) 0) = true then unR l f (i + 2) (o ++ [l.getD (i + 1) 0]) else (false, i, o)) else unR l f (i + 1) (o ++ [l.getD i 0]))
    else (true, i, o)
theorem unR_stop {l : List UInt8} {f i : Nat} {o : List UInt8} (h : ¬ (i < l.length ∧ (l.getD i 0 = 92 ∨ specB (l.getD i 0) = false))) : unR l f i o = (true, i, o) := by
  cases f with
  | zero => rfl
  | succ f => unfold unR; rw [if_neg h]
theorem unR_step {l : List UInt8} {f i : Nat} {o : List UInt8} (hf : l.length ≤ i + f) (hi : i < l.length) (h : l.getD i 0 = 92 ∨ specB (l.getD i 0) = false) :
    ∃ f', f = f' + 1 ∧ l.length ≤ i + 1 + f' ∧ unR l f i o = if l.getD i 0 = 92 then (if i + 1 < l.length ∧ specB (l.getD (i + 1) 0) = true then unR l f' (i + 2) (o ++ [l.getD (i + 1) 0]) else (false, i, o)) else unR l f' (i + 1) (o ++ [l.getD i 0]) := by
  cases f with
  | zero => omega
  | succ f => refine ⟨f, rfl, by omega, ?_⟩; rw [unR, if_pos ⟨hi, h⟩]
def unL (l : List UInt8) : Bool × Nat × List UInt8 := unR l l.length 0 []
theorem getD_at (pre : List UInt8) (x : UInt8) (t : List UInt8) : (pre ++ x :: t).getD pre.length 0 = x := by
  rw [List.getD_eq_getElem?_getD, List.getElem?_append_right (Nat.le_refl _)]; simp
theorem getD_at1 (pre : List UInt8) (y x : UInt8) (t : List UInt8) : (pre ++ y :: x :: t).getD (pre.length + 1) 0 = x := by
  have := getD_at (pre ++ [y]) x t
  rwa [List.append_assoc, List.length_append] at this
theorem unR_esc (s : List UInt8) : ∀ (rest pre o : List UInt8) (f : Nat), (rest = [] ∨ ∃ c t, rest = c :: t ∧ specB c = true ∧ c ≠ 92) → (pre ++ (escL s ++ rest)).length ≤ pre.length + f →
    unR (pre ++ (escL s ++ rest)) f pre.length o = (true, pre.length + (escL s).length, o ++ s) := by
  induction s with
  | nil =>
    intro rest pre o f hr hf
    rw [show escL [] = [] from rfl, List.nil_append, unR_stop]
    · simp
    · rintro ⟨h1, h2⟩
      rcases hr with rfl | ⟨c, t, rfl, hc, hn⟩
      · simp at h1
      · rw [getD_at] at h2
        rcases h2 with h2 | h2
        · exact hn h2
        · rw [hc] at h2; cases h2
  | cons c s ih =>
    intro rest pre o f hr hf
    have he : escL (c :: s) = (if specB c then [92, c] else [c]) ++ escL s := by simp [escL]
    rw [he] at hf ⊢
    cases hc : specB c
    · simp only [hc, if_neg, Bool.false_eq_true, if_false] at hf ⊢
      rw [show pre ++ ([c] ++ escL s ++ rest) = (pre ++ [c]) ++ (escL s ++ rest) by simp] at hf ⊢
      have hg : ((pre ++ [c]) ++ (escL s ++ rest)).getD pre.length 0 = c := by rw [List.append_assoc]; exact getD_at pre c _
      have hne : c ≠ 92 := by rintro rfl; rw [show specB 92 = true from rfl] at hc; cases hc
      obtain ⟨f', rfl, hf', e⟩ := unR_step (o := o) hf (by simp) (Or.inr (by rw [hg]; exact hc))
      rw [e, if_neg (by rw [hg]; exact hne), hg]
      have := ih rest (pre ++ [c]) (o ++ [c]) f' hr (by simpa using hf')
      rw [show (pre ++ [c]).length = pre.length + 1 by simp] at this
      rw [this]
      simp; omega
    · simp only [hc, if_true] at hf ⊢
      rw [show pre ++ ([92, c] ++ escL s ++ rest) = (pre ++ [92, c]) ++ (escL s ++ rest) by simp] at hf ⊢
      have hg : ((pre ++ [92, c]) ++ (escL s ++ rest)).getD pre.length 0 = 92 := by rw [List.append_assoc]; exact getD_at pre 92 _
      have hg1 : ((pre ++ [92, c]) ++ (escL s ++ rest)).getD (pre.length + 1) 0 = c := by rw [List.append_assoc]; exact getD_at1 pre 92 c _
      obtain ⟨f', rfl, hf', e⟩ := unR_step (o := o) hf (by simp) (Or.inl hg)
      rw [e, if_pos hg, hg1, if_pos ⟨by simp, hc⟩]
      have := ih rest (pre ++ [92, c]) (o ++ [c]) f' hr (by simp at hf' ⊢; omega)
      rw [show (pre ++ [92, c]).length = pre.length + 2 by simp] at this
      rw [this]
      simp; omega
theorem unL_esc (s rest : List UInt8) (hr : rest = [] ∨ ∃ c t, rest = c :: t ∧ specB c = true ∧ c ≠ 92) : unL (escL s ++ rest) = (true, (escL s).length, s) := by
  have := unR_esc s rest [] [] (escL s ++ rest).length hr (by simp)
  simpa [unL] using this
end Go.Proofs.YtbaopcpmmdmomaaGreatDoor
