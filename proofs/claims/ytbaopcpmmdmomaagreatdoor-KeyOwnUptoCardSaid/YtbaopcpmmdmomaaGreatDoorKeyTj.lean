/- The statement KeyTags. Rows of tags and of texts among a statement's arguments, by their bulk. -/
import Derived.Test.YtbaopcpmmdmomaaGreatDoorKeyTi
import Derived.Test.YtbaopcpmmdmomaaGreatDoorKeyO
import Derived.Test.YtbaopcpmmdmomaaGreatDoorLawK
set_option linter.unusedSimpArgs false
set_option linter.unusedVariables false
namespace Go.Proofs.YtbaopcpmmdmomaaGreatDoor
section
open Go.RowKit
theorem rows_len {ps : List (List UInt8 × List UInt8)} {m : Nat} {tk tv : Nat → List UInt8} (hl : ∀ i, i < m → (tk i).length ≤ 9223372036854775807 ∧ (tv i).length ≤ 9223372036854775807) (h : ps = srtT tk tv m) : ∀ p ∈ ps, p.1.length ≤ 9223372036854775807 ∧ p.2.length ≤ 9223372036854775807 := by
  subst h
  induction m with
  | zero => intro p hp; cases hp
  | succ m ih => exact putT_mem (ih (fun i hi => hl i (by omega))) (hl m (by omega))
theorem joinS_len {nm vl : Nat → List UInt8} {m : Nat} (hl : ∀ i, i < m → (nm i).length ≤ 9223372036854775807 ∧ (vl i).length ≤ 9223372036854775807) : ∀ p ∈ joinS nm vl m, p.1.length ≤ 9223372036854775807 ∧ p.2.length ≤ 9223372036854775807 := by
  refine rows_len ?_ rfl
  intro i hi
  rw [List.getD_eq_getElem?_getD, List.getElem?_eq_getElem hi]
  exact joinL_mem (P := fun p => p.1.length ≤ 9223372036854775807 ∧ p.2.length ≤ 9223372036854775807) hl _ (List.getElem_mem hi)
end
section
open Go.ChangeShapes Go.WideShapes Go.ChangeAt Go.RowKit Go.Deep
section
variable {H : Type} {enc : TypeId × Value → H}
theorem bulk_pos (d : DataW H) : 1 ≤ Rows.uptoBulk d := by
  cases d with
  | lit l => cases l <;> simp [Rows.uptoBulk]
  | _ => simp [Rows.uptoBulk]
theorem bulk_len (l : List (DataW H)) : l.length ≤ Rows.uptoBulkAll l := by
  induction l with
  | nil => exact Nat.zero_le _
  | cons d l ih => have := bulk_pos d; simp only [Rows.uptoBulkAll, List.length_cons]; omega
set_option maxRecDepth 100000 in
theorem tags_upto {W : World} {r : Reach} {b0 : Nat} {v : Value} {d : DataW H} {p : List MemPlace} (hv : Value.okWide Tryz.prog W r b0 22 v) (h : DataW.Trod enc Tryz.prog W 0 (fun _ => true) true 22 v d p) (hb : Rows.uptoBulk d ≤ 1048576) :
    ∃ A n cap tk tv, v = .slice A n cap ∧ TagRow W A n tk tv ∧ n ≤ 1048576 ∧ (A = none → n = 0 ∧ cap = 0) := by
  obtain ⟨A, n, c0, rfl⟩ := okWide_slice Tryz.underlying22 hv
  obtain ⟨fuel, hf⟩ := h
  rcases open_slice Tryz.underlying22 hf with ⟨hcs, hx⟩ | ⟨a, len, cap, m, k, D, Pl, hcs, _, hl, hm, hmm, hx, hi⟩
  · have hcs : [Value.slice A n c0] = _ := hcs
    simp only [List.cons.injEq, Value.slice.injEq, and_true] at hcs
    obtain ⟨rfl, rfl, rfl⟩ := hcs
    obtain ⟨tk, tv, ht, _⟩ := tags_opened hf
    exact ⟨none, 0, 0, tk, tv, rfl, ht, by omega, fun _ => ⟨rfl, rfl⟩⟩
  · have hcs : [Value.slice A n c0] = _ := hcs
    simp only [List.cons.injEq, Value.slice.injEq, and_true] at hcs
    obtain ⟨rfl, rfl, rfl⟩ := hcs
    obtain ⟨tk, tv, ht, _⟩ := tags_opened hf
    refine ⟨_, n, _, tk, tv, rfl, ht, ?_, fun e => by cases e⟩
    injection hx with hx _
    subst hx
    have := bulk_len ((List.range n).map D)
    simp only [List.length_map, List.length_range, Rows.uptoBulk] at this hb
    omega
set_option maxRecDepth 100000 in
theorem texts_upto {W : World} {r : Reach} {b0 : Nat} {v : Value} {d : DataW H} {p : List MemPlace} (hv : Value.okWide Tryz.prog W r b0 25 v) (h : DataW.Trod enc Tryz.prog W 0 (fun _ => true) true 25 v d p) (hb : Rows.uptoBulk d ≤ 1048576) :
    ∃ A n cap t, v = .slice A n cap ∧ TxtRow W A n t ∧ n ≤ 1048576 ∧ (A = none → n = 0 ∧ cap = 0) ∧ ∀ i, i < n → (t i).length ≤ 9223372036854775807 := by
  obtain ⟨A, n, c0, rfl⟩ := okWide_slice Tryz.underlying25 hv
  obtain ⟨fuel, hf⟩ := h
  rcases open_slice1 Tryz.underlying25 (by kernel_rfl) hf with ⟨hcs, hx⟩ | ⟨a, len, cap, m, k, V, D, Pl, hcs, _, hl, hm, hmm, hx, hi⟩
  · have hcs : [Value.slice A n c0] = _ := hcs
    simp only [List.cons.injEq, Value.slice.injEq, and_true] at hcs
    obtain ⟨rfl, rfl, rfl⟩ := hcs
    exact ⟨none, 0, 0, fun _ => [], rfl, ⟨fun h => absurd h (by omega)⟩, by omega, fun _ => ⟨rfl, rfl⟩, fun i hi => absurd hi (by omega)⟩
  · have hcs : [Value.slice A n c0] = _ := hcs
    simp only [List.cons.injEq, Value.slice.injEq, and_true] at hcs
    obtain ⟨rfl, rfl, rfl⟩ := hcs
    simp only [if_true] at hmm
    have hs : ∀ i, i < n → ∃ s : ByteArray, V i = .string s ∧ s.size ≤ 9223372036854775807 := fun i hin => by
      obtain ⟨_, t0⟩ := hi i (by omega)
      obtain ⟨s0, e0, _, z0⟩ := DataW.trod_string Tryz.underlying9 t0
      simp only [List.cons.injEq, and_true] at e0
      unfold maxLen at z0
      exact ⟨s0, e0, z0⟩
    let g : Value → List UInt8 := fun v => match v with | .string s => s.data.toList | _ => []
    refine ⟨_, n, _, fun i => g (V i), rfl, ⟨fun hn => ?_⟩, ?_, (fun e => by cases e), fun i hin => ?_⟩
    · obtain ⟨b, off, spot⟩ := a
      have hspot : spot = none := by simpa [Addr.add] using World.cell?_spot (hi 0 (by omega)).1
      subst hspot
      refine ⟨b, off, rfl, fun i hin => ?_⟩
      obtain ⟨c0, _⟩ := hi i (by omega)
      obtain ⟨s0, e0, _⟩ := hs i hin
      rw [Go.WideShapes.add_plain] at c0
      rw [c0, e0]
    · injection hx with hx _
      subst hx
      have := bulk_len ((List.range n).map D)
      simp only [List.length_map, List.length_range, Rows.uptoBulk] at this hb
      omega
    · obtain ⟨s0, e0, z0⟩ := hs i hin
      simp only [g, e0]
      rw [Lib.size_eq] at z0
      exact z0
end
end
end Go.Proofs.YtbaopcpmmdmomaaGreatDoor
