/- Plain: what the two Parse tell. -/
import Derived.Test.YtbaopcpmmdmomaaGreatDoorKeyPa
set_option linter.unusedSimpArgs false
set_option linter.unusedVariables false
namespace Go.Proofs.YtbaopcpmmdmomaaGreatDoor
open Go.RowKit
/-- a tag from the comma at k on: the error's place, the place behind, the tag -/
def tagF (l : List UInt8) (k : Nat) : Option Nat × Nat × (List UInt8 × List UInt8) :=
  match (pcR l (k + 1) none).2.2 with
  | some p => (some p, 0, ([], []))
  | none =>
    if isR l (pcR l (k + 1) none).2.1 none 61 = true then
      match (pcR l ((pcR l (k + 1) none).2.1 + 1) none).2.2 with
      | some p => (some p, 0, ((pcR l (k + 1) none).1, []))
      | none => (none, (pcR l ((pcR l (k + 1) none).2.1 + 1) none).2.1, ((pcR l (k + 1) none).1, (pcR l ((pcR l (k + 1) none).2.1 + 1) none).1))
    else (some (pcR l (k + 1) none).2.1, 0, ((pcR l (k + 1) none).1, []))
/-- the tags -/
def lpF (l : List UInt8) : Nat → Option Nat → Nat → List (List UInt8 × List UInt8) → Option Nat × Nat × List (List UInt8 × List UInt8)
  | 0, e, k, ts => (e, k, ts)
  | f + 1, e, k, ts => if isR l k e 44 = true then lpF l f (tagF l k).1 (tagF l k).2.1 (ts ++ [(tagF l k).2.2]) else (e, k, ts)
/-- the end: the error's place or the field -/
def endF (l : List UInt8) (k : Nat) : Option Nat → Option Nat × List UInt8
  | some p => (some p, [])
  | none =>
    if isR l k none 32 = true then
      match (pcR l (k + 1) none).2.2 with
      | some p => (some p, [])
      | none => if (pcR l (k + 1) none).2.1 < l.length then (some (pcR l (k + 1) none).2.1, []) else (none, (pcR l (k + 1) none).1)
    else (some k, [])
/-- what is told of a key: the error's place, the measure, the tags, the field -/
def parF (l : List UInt8) : Option Nat × List UInt8 × List (List UInt8 × List UInt8) × List UInt8 :=
  ((endF l (lpF l l.length (pcR l 0 none).2.2 (pcR l 0 none).2.1 []).2.1 (lpF l l.length (pcR l 0 none).2.2 (pcR l 0 none).2.1 []).1).1, (pcR l 0 none).1, (lpF l l.length (pcR l 0 none).2.2 (pcR l 0 none).2.1 []).2.2,
    (endF l (lpF l l.length (pcR l 0 none).2.2 (pcR l 0 none).2.1 []).2.1 (lpF l l.length (pcR l 0 none).2.2 (pcR l 0 none).2.1 []).1).2)
theorem pcR_le (l : List UInt8) (k : Nat) (e : Option Nat) (h : k ≤ l.length) : k ≤ (pcR l k e).2.1 ∧ (pcR l k e).2.1 ≤ l.length ∧ (pcR l k e).1.length ≤ l.length := by
  cases e with
  | some p => exact ⟨Nat.le_refl _, h, by simp [pcR]⟩
  | none =>
    have hu := unL_le (l.drop k)
    rw [List.length_drop] at hu
    unfold pcR
    generalize unL (l.drop k) = Z at *
    obtain ⟨ok, n, o⟩ := Z
    simp only at hu
    cases ok
    · exact ⟨Nat.le_refl _, h, by simp⟩
    · exact ⟨by simp, by simp; omega, by simp; omega⟩
theorem isR_lt {l : List UInt8} {k : Nat} {e : Option Nat} {c : UInt8} (h : isR l k e c = true) : e = none ∧ k < l.length ∧ l.getD k 0 = c := by
  unfold isR at h
  simp only [Bool.and_eq_true, Option.isNone_iff_eq_none, decide_eq_true_eq, beq_iff_eq] at h
  exact ⟨h.1.1, h.1.2, h.2⟩
/-- the texts of a list of tags -/
def TsLe (l : List UInt8) (ts : List (List UInt8 × List UInt8)) : Prop := ∀ p ∈ ts, p.1.length ≤ l.length ∧ p.2.length ≤ l.length
theorem tagF_le (l : List UInt8) (k : Nat) (h : k < l.length) : ((tagF l k).1 = none → k + 1 ≤ (tagF l k).2.1 ∧ (tagF l k).2.1 ≤ l.length) ∧ (tagF l k).2.2.1.length ≤ l.length ∧ (tagF l k).2.2.2.length ≤ l.length := by
  obtain ⟨a1, a2, a3⟩ := pcR_le l (k + 1) none (by omega)
  unfold tagF
  split
  · exact ⟨fun h => (by cases h), by simp, by simp⟩
  · split
    · rename_i hi
      obtain ⟨_, b2, _⟩ := isR_lt hi
      obtain ⟨c1, c2, c3⟩ := pcR_le l ((pcR l (k + 1) none).2.1 + 1) none (by omega)
      split
      · exact ⟨fun h => (by cases h), a3, by simp⟩
      · exact ⟨fun _ => ⟨by simp; omega, c2⟩, a3, c3⟩
    · exact ⟨fun h => (by cases h), a3, by simp⟩
theorem lpF_stop {l : List UInt8} {f : Nat} {e : Option Nat} {k : Nat} {ts : List (List UInt8 × List UInt8)} (h : isR l k e 44 = false) : lpF l f e k ts = (e, k, ts) := by
  cases f with
  | zero => rfl
  | succ f => unfold lpF; rw [if_neg (by rw [h]; simp)]
theorem lpF_step {l : List UInt8} {f k : Nat} {ts : List (List UInt8 × List UInt8)} (hf : l.length ≤ k + f) (h : isR l k none 44 = true) :
    ∃ f', l.length ≤ k + 1 + f' ∧ lpF l f none k ts = lpF l f' (tagF l k).1 (tagF l k).2.1 (ts ++ [(tagF l k).2.2]) := by
  have := (isR_lt h).2.1
  cases f with
  | zero => omega
  | succ f => exact ⟨f, by omega, by rw [lpF, if_pos h]⟩
/-- the cells of a list of tags -/
def tagC (ts : List (List UInt8 × List UInt8)) : List Value := ts.flatMap fun p => [strV p.1, strV p.2]
theorem tagC_snoc (ts : List (List UInt8 × List UInt8)) (p : List UInt8 × List UInt8) : tagC (ts ++ [p]) = tagC ts ++ [strV p.1, strV p.2] := by simp [tagC]
theorem tagC_len (ts : List (List UInt8 × List UInt8)) : (tagC ts).length = ts.length * 2 := by
  induction ts with
  | nil => rfl
  | cons p ts ih => simp [tagC] at ih ⊢; omega
theorem tagC_get (ts : List (List UInt8 × List UInt8)) (i : Nat) (h : i < ts.length) : (tagC ts)[i * 2]? = some (strV (ts.getD i ([], [])).1) ∧ (tagC ts)[i * 2 + 1]? = some (strV (ts.getD i ([], [])).2) := by
  induction ts generalizing i with
  | nil => simp at h
  | cons p ts ih =>
    have e : tagC (p :: ts) = strV p.1 :: strV p.2 :: tagC ts := by simp [tagC]
    rw [e]
    cases i with
    | zero => exact ⟨by simp, by simp⟩
    | succ i =>
      have := ih i (by simpa using h)
      rw [show (i + 1) * 2 = i * 2 + 1 + 1 by omega]
      simpa using this
theorem row_of_owns {w : World} {base : Nat} {v : Value} {ts : List (List UInt8 × List UInt8)} (ho : w.ownsRow base 70 2 v ts.length (tagC ts)) (hl : ∀ p ∈ ts, p.1.length ≤ 9223372036854775807 ∧ p.2.length ≤ 9223372036854775807) :
    ∃ A cap, v = .slice A ts.length cap ∧ TagRow w A ts.length (fun i => (ts.getD i ([], [])).1) (fun i => (ts.getD i ([], [])).2) := by
  have hlen : ∀ i, i < ts.length → ((ts.getD i ([], [])).1).length ≤ 9223372036854775807 ∧ ((ts.getD i ([], [])).2).length ≤ 9223372036854775807 := fun i hi => by
    rw [List.getD_eq_getElem?_getD, List.getElem?_eq_getElem hi]
    exact hl _ (List.getElem_mem hi)
  obtain ⟨_, ⟨rfl, h0⟩ | ⟨M, cap, cur, rfl, hbM, hg, hnc, hcm, hcs, htk⟩⟩ := id ho
  · exact ⟨none, 0, by rw [h0], ⟨fun h => by omega, hlen⟩⟩
  · refine ⟨_, cap, rfl, ⟨fun _ => ⟨M, 0, rfl, fun i hi => ?_⟩, hlen⟩⟩
    obtain ⟨g0, g1⟩ := tagC_get ts i hi
    rw [Nat.zero_add, ho.cellAt _ (by omega), ho.cellAt _ (by omega)]
    exact ⟨g0, g1⟩
theorem tagC_one (ts : List (List UInt8 × List UInt8)) : ∀ u ∈ tagC ts, u.oneCell' = true := by
  intro u hu
  simp only [tagC, List.mem_flatMap, List.mem_cons, List.not_mem_nil, or_false] at hu
  obtain ⟨p, _, rfl | rfl⟩ := hu <;> rfl
end Go.Proofs.YtbaopcpmmdmomaaGreatDoor
