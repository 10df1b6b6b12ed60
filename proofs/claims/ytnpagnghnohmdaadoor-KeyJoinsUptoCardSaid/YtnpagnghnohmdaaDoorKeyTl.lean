/- Plain: what was grouped is joined to tags that tell the same. -/
import Derived.Test.YtnpagnghnohmdaaDoorKeyTi
set_option linter.unusedSimpArgs false
set_option linter.unusedVariables false
namespace Go.Proofs.YtnpagnghnohmdaaDoor
open Go.RowKit
/-- the value of a key -/
def lookO (ps : List (List UInt8 × List UInt8)) (k : List UInt8) : Option (List UInt8) := (ps.find? fun p => p.1 == k).map Prod.snd
theorem lookO_app (a b : List (List UInt8 × List UInt8)) (k : List UInt8) : lookO (a ++ b) k = (lookO a k).or (lookO b k) := by
  unfold lookO
  rw [List.find?_append]
  cases List.find? (fun p => p.1 == k) a <;> rfl
theorem lookO_cons (p : List UInt8 × List UInt8) (b : List (List UInt8 × List UInt8)) (k : List UInt8) : lookO (p :: b) k = if p.1 == k then some p.2 else lookO b k := by
  unfold lookO
  rw [List.find?_cons]
  cases hp : (p.1 == k) <;> simp
theorem lookO_none {ps : List (List UInt8 × List UInt8)} {k : List UInt8} (h : ∀ p ∈ ps, p.1 ≠ k) : lookO ps k = none := by
  unfold lookO
  rw [List.find?_eq_none.2 (fun p hp => by simpa using h p hp)]
  rfl
theorem lookO_put (ps : List (List UInt8 × List UInt8)) (k v name : List UInt8) : lookO (putT ps k v) name = if k == name then some v else lookO ps name := by
  have hp := headT_tailT ps k
  have hh : lookO (headT ps k) k = none := lookO_none fun p hm e => by
    have h1 := headT_lo hm
    rw [e, cmpL_same] at h1
    omega
  by_cases hk : k = name
  · subst hk
    rw [if_pos (by simp)]
    unfold putT
    cases ht : tailT ps k with
    | nil => simp only; rw [lookO_app, hh, lookO_cons, if_pos (by simp)]; rfl
    | cons d r =>
      simp only
      split <;> (rw [lookO_app, hh, lookO_cons, if_pos (by simp)]; rfl)
  · rw [if_neg (by simpa using hk)]
    have hb : (k == name) = false := by simpa using hk
    conv => rhs; rw [← hp]
    unfold putT
    cases ht : tailT ps k with
    | nil => simp only; rw [lookO_app, lookO_app, lookO_cons, hb]; rfl
    | cons d r =>
      simp only
      split
      · rename_i hd
        rw [lookO_app, lookO_app, lookO_cons, lookO_cons, hd, hb]; rfl
      · rw [lookO_app, lookO_app, lookO_cons, hb]; rfl
theorem valFrom_look (ps : List (List UInt8 × List UInt8)) (name : List UInt8) : ∀ c i, i + c = ps.length → valFrom (fun i => (ps.getD i ([], [])).1) (fun i => (ps.getD i ([], [])).2) name c i = (lookO (ps.drop i) name).getD [] := by
  intro c
  induction c with
  | zero => intro i hi; rw [List.drop_eq_nil_of_le (by omega)]; rfl
  | succ c ih =>
    intro i hi
    have hl : i < ps.length := by omega
    have e : ps.getD i ([], []) = ps[i] := by rw [List.getD_eq_getElem?_getD, List.getElem?_eq_getElem hl]; rfl
    rw [List.drop_eq_getElem_cons hl, lookO_cons]
    unfold valFrom
    simp only [e]
    split
    · rfl
    · exact ih (i + 1) (by omega)
theorem valF_look (ps : List (List UInt8 × List UInt8)) (name : List UInt8) : valF (fun i => (ps.getD i ([], [])).1) (fun i => (ps.getD i ([], [])).2) ps.length name = (lookO ps name).getD [] := by
  unfold valF
  rw [valFrom_look ps name ps.length 0 (by omega), List.drop_zero]
/-- sorted, by the list -/
def srtL (ps : List (List UInt8 × List UInt8)) : List (List UInt8 × List UInt8) := ps.foldl (fun acc p => putT acc p.1 p.2) []
theorem srtL_snoc (ps : List (List UInt8 × List UInt8)) (p : List UInt8 × List UInt8) : srtL (ps ++ [p]) = putT (srtL ps) p.1 p.2 := by
  unfold srtL; rw [List.foldl_append]; rfl
theorem srtT_L (ps : List (List UInt8 × List UInt8)) : ∀ j, j ≤ ps.length → srtT (fun i => (ps.getD i ([], [])).1) (fun i => (ps.getD i ([], [])).2) j = srtL (ps.take j) := by
  intro j
  induction j with
  | zero => intro _; rw [List.take_zero]; rfl
  | succ j ih =>
    intro hj
    have hl : j < ps.length := by omega
    have e : ps.getD j ([], []) = ps[j] := by rw [List.getD_eq_getElem?_getD, List.getElem?_eq_getElem hl]; rfl
    rw [List.take_succ_eq_append_getElem hl, srtL_snoc]
    unfold srtT
    rw [ih (by omega)]
    simp only [e]
theorem joinS_L (nm vl : Nat → List UInt8) (m : Nat) : joinS nm vl m = srtL (joinL nm vl m) := by
  unfold joinS
  rw [srtT_L _ _ (Nat.le_refl _), List.take_length]
theorem joinS_none (nm vl : Nat → List UInt8) (name : List UInt8) (m : Nat) (h : ∀ i, i < m → nm i ≠ name) : lookO (joinS nm vl m) name = none := by
  rw [joinS_L]
  induction m with
  | zero => rfl
  | succ m ih =>
    unfold joinL
    split
    · exact ih (fun i hi => h i (by omega))
    · rw [srtL_snoc, lookO_put, if_neg (by simpa using h m (by omega))]
      exact ih (fun i hi => h i (by omega))
theorem joinS_look (nm vl : Nat → List UInt8) (m : Nat) (h : ∀ a b, b < a → a < m → nm a ≠ nm b) : ∀ i, i < m → (lookO (joinS nm vl m) (nm i)).getD [] = vl i := by
  induction m with
  | zero => intro i hi; omega
  | succ m ih =>
    intro i hi
    have h0 := ih (fun a b hb ha => h a b hb (by omega))
    have hst : joinS nm vl (m + 1) = if vl m == [] then joinS nm vl m else putT (joinS nm vl m) (nm m) (vl m) := by
      rw [joinS_L, joinS_L]
      conv => lhs; unfold joinL
      split
      · rfl
      · rw [srtL_snoc]
    rw [hst]
    by_cases him : i = m
    · subst him
      split
      · rename_i hv
        rw [joinS_none nm vl (nm i) i (fun j hj e => h i j hj hi e.symm)]
        exact (by simpa using hv : vl i = []).symm
      · rw [lookO_put, if_pos (by simp)]; rfl
    · split
      · exact h0 i (by omega)
      · rw [lookO_put, if_neg (by simpa using h m i (by omega) (by omega))]
        exact h0 i (by omega)
/-- grouped, joined, grouped: the same -/
theorem group_join (nm vl : Nat → List UInt8) (m : Nat) (h : ∀ a b, b < a → a < m → nm a ≠ nm b) : ∀ i, i < m → valF (fun i => ((joinS nm vl m).getD i ([], [])).1) (fun i => ((joinS nm vl m).getD i ([], [])).2) (joinS nm vl m).length (nm i) = vl i := fun i hi => by
  rw [valF_look]
  exact joinS_look nm vl m h i hi
theorem TxtRow.congr {w : World} {A : Option Addr} {n : Nat} {t t' : Nat → List UInt8} (h : TxtRow w A n t) (e : ∀ i, i < n → t i = t' i) : TxtRow w A n t' where
  row := fun hn => by
    obtain ⟨b, off, ea, hr⟩ := h.row hn
    exact ⟨b, off, ea, fun i hi => by rw [← e i hi]; exact hr i hi⟩
end Go.Proofs.YtnpagnghnohmdaaDoor
