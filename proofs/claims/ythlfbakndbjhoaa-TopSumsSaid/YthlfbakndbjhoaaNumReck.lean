/- The walk of the statement NumReckons: each function and the document's tell the same number and the same error. Condition: errors.errorType holds the handle of the type error. -/
import Derived.Test.YthlfbakndbjhoaaNumM
set_option linter.unusedSimpArgs false
set_option linter.unusedVariables false
namespace Go.Proofs.Ythlfbakndbjhoaa
open Go.RowKit

/-- no error, or one of a number -/
def eV (c : Int) : Value := if c = 0 then .nilIface else errV c
theorem eV_zero : eV 0 = .nilIface := rfl
theorem eV_pos {c : Int} (h : 1 ≤ c) : eV c = errV c := by unfold eV; rw [if_neg (by omega)]

def Fits (n : Int) : Prop := -9223372036854775808 ≤ n ∧ n ≤ 9223372036854775807
open Classical in
noncomputable def fitN (n : Int) : Int := if Fits n then n else 0
open Classical in
noncomputable def fitC (n : Int) : Int := if Fits n then 0 else 20
theorem fitC_nn (n : Int) : 0 ≤ fitC n := by unfold fitC; split <;> omega

section
variable (a b : Int) (w : World) (ha : I64 a) (hb : I64 b)
include ha hb
open Classical in
noncomputable def quoN (a b : Int) : Int := if b = 0 then 0 else if b = -1 then fitN (-a) else divN a b
open Classical in
noncomputable def quoC (a b : Int) : Int := if b = 0 then 21 else if b = -1 then fitC (-a) else 0
omit ha hb in
theorem quoC_nn : 0 ≤ quoC a b := by unfold quoC; split; omega; split; exact fitC_nn _; omega
open Classical in
noncomputable def restN (a b : Int) : Int := if b = 0 then 0 else if b = -1 then 0 else modN a b
open Classical in
noncomputable def restC (b : Int) : Int := if b = 0 then 21 else 0
omit ha hb in
theorem restC_nn : 0 ≤ restC b := by unfold restC; split <;> omega
omit ha in
omit ha in
end
theorem cell_set_ne {w : World} {B i j : Nat} {u v : Value} (h : w.cell? ⟨B, j, none⟩ = some v) (hij : i ≠ j) : (w.setCell ⟨B, i, none⟩ u).cell? ⟨B, j, none⟩ = some v := by
  rw [World.cell?_setCell_other]; exact h
  intro e; injection e; omega
theorem cell_set_eq {w : World} {B i : Nat} {u v : Value} (h : w.cell? ⟨B, i, none⟩ = some v) : (w.setCell ⟨B, i, none⟩ u).cell? ⟨B, i, none⟩ = some u :=
  World.cell?_setCell_same' _ _ _ (by rw [h]; rfl)
theorem frozen_set {w : World} (a b : Addr) (u : Value) : (w.setCell a u).frozen? b = w.frozen? b := by simp
theorem size_set {w : World} (a : Addr) (u : Value) : (w.setCell a u).heap.size = w.heap.size := by simp [World.setCell]
end Go.Proofs.Ythlfbakndbjhoaa
