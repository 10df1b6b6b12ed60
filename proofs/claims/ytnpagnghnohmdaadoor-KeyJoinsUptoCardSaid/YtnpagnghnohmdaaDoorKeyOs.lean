/- A series among a statement's arguments: how many tags it has, by the reach; a row of tags, a row of texts among them. -/
import Derived.Test.YtnpagnghnohmdaaDoorKeyO
import Derived.SizedLaws
set_option linter.unusedVariables false
namespace Go.Proofs.YtnpagnghnohmdaaDoor
open Go.ChangeShapes Go.WideShapes Go.ChangeAt Go.RowKit Go.Deep
section
variable {H : Type} {enc : TypeId × Value → H}
theorem tags_sized {W : World} {fuel : Nat} {A : Option Addr} {n cap : Nat} {x : DataW H × List MemPlace}
    (h : DataW.trod enc Tryd.prog W 0 (fun _ => true) true fuel 22 [Value.slice A n cap] = some x) (hw : ∀ k ∈ DataW.weights Tryd.prog 22 x.1, k ≤ reachBytes) :
    n * 32 ≤ 140737488351232 ∧ (A = none → n = 0 ∧ cap = 0) := by
  rcases open_slice_pairs Tryd.underlying22 Tryd.underlying67 (by kernel_rfl) rfl rfl (by kernel_rfl) (by kernel_rfl) h with ⟨hcs, _⟩ | ⟨a, len, cp, m, k, V0, V1, D0, D1, P0, P1, hcs, _, hl, hm, hmm, rfl, hi⟩
  · simp only [List.cons.injEq, Value.slice.injEq, and_true] at hcs
    obtain ⟨rfl, rfl, rfl⟩ := hcs
    exact ⟨by omega, fun _ => ⟨rfl, rfl⟩⟩
  · simp only [List.cons.injEq, Value.slice.injEq, and_true] at hcs
    obtain ⟨rfl, rfl, rfl⟩ := hcs
    refine ⟨?_, fun e => by cases e⟩
    have h1 := hw ((((List.range n).map fun i => DataW.agg [D0 i, D1 i]).length + ((List.range (m - n)).map fun j => DataW.agg [D0 (n + j), D1 (n + j)]).length) * Tryd.prog.bytesOf 67) (by simp [DataW.weights, Tryd.underlying22])
    rw [show Tryd.prog.bytesOf 67 = 32 by kernel_rfl] at h1
    simp only [List.length_map, List.length_range] at h1
    unfold reachBytes at h1
    omega
set_option maxRecDepth 100000 in
theorem series_sized {W : World} {r : Reach} {b0 : Nat} {v : Value} {d : DataW H} {p : List MemPlace} (hv : Value.okWide Tryd.prog W r b0 24 v) (h : DataW.Trod enc Tryd.prog W 0 (fun _ => true) true 24 v d p)
    (hw : ∀ k ∈ DataW.weights Tryd.prog 24 d, k ≤ reachBytes) :
    ∃ (m f : List UInt8) (A : Option Addr) (n cap : Nat) (tk tv : Nat → List UInt8), v = .agg #[strV m, .slice A n cap, strV f] ∧ SerIn W m f A n tk tv ∧ n * 32 ≤ 140737488351232 ∧ (A = none → n = 0 ∧ cap = 0) := by
  obtain ⟨m, f, A, n, cap, tk, tv, rfl, hs⟩ := series_opened hv h
  have cz : Tryd.prog.cellsOf 24 = 3 := by kernel_rfl
  obtain ⟨v0, v1, v2, y0, y1, y2, k, he, rfl, rfl, h0, h1, h2⟩ := Go.Joins.open_agg3 Tryd.underlying24 (by kernel_rfl) cz hv h
  simp only [Value.agg.injEq, Array.mk.injEq, List.cons.injEq, and_true] at he
  obtain ⟨rfl, rfl, rfl⟩ := he
  obtain ⟨g1, g2⟩ := tags_sized h1 (fun x hx => hw x (by simp only [DataW.weights, Tryd.underlying24]; exact DataW.weights_mem_each (j := 1) rfl rfl x hx))
  exact ⟨m, f, A, n, cap, tk, tv, rfl, hs, g1, g2⟩
end
end Go.Proofs.YtnpagnghnohmdaaDoor
