/- A series among a statement's arguments: its texts and tags. A series among a statement's arguments: how many tags it has, by the reach; a row of tags, a row of texts among them. -/
import Derived.Test.YtbaopcpmmdmomaaGreatDoorKeyK
import Derived.Test.YtbaopcpmmdmomaaGreatDoorLawK
import Derived.Deep.SlicePairs
import Derived.Lib.SmallJoins
import Derived.ChangeMaps5
import Derived.SizedLaws
set_option linter.unusedVariables false
namespace Go.Proofs.YtbaopcpmmdmomaaGreatDoor
section
open Go.ChangeShapes Go.WideShapes Go.ChangeAt Go.RowKit Go.Deep
section
variable {H : Type} {enc : TypeId × Value → H}
theorem byte_eta (s : ByteArray) : Value.string s = strV s.data.toList := rfl
theorem tags_opened {W : World} {fuel : Nat} {A : Option Addr} {n cap : Nat} {x : DataW H × List MemPlace}
    (h : DataW.trod enc Tryz.prog W 0 (fun _ => true) true fuel 22 [Value.slice A n cap] = some x) :
    ∃ tk tv : Nat → List UInt8, TagRow W A n tk tv ∧ n ≤ 9223372036854775807 := by
  rcases open_slice_pairs Tryz.underlying22 Tryz.underlying70 (by kernel_rfl) rfl rfl (by kernel_rfl) (by kernel_rfl) h with ⟨hcs, _⟩ | ⟨a, len, cp, m, k, V0, V1, D0, D1, P0, P1, hcs, _, hl, hm, hmm, _, hi⟩
  · simp only [List.cons.injEq, Value.slice.injEq, and_true] at hcs
    obtain ⟨rfl, rfl, rfl⟩ := hcs
    exact ⟨fun _ => [], fun _ => [], ⟨fun h => absurd h (by omega), fun i hi => absurd hi (by omega)⟩, by omega⟩
  · simp only [List.cons.injEq, Value.slice.injEq, and_true] at hcs
    obtain ⟨rfl, rfl, rfl⟩ := hcs
    simp only [if_true] at hmm
    unfold maxLen at hm
    have hs : ∀ i, i < n → ∃ s0 s1 : ByteArray, V0 i = .string s0 ∧ V1 i = .string s1 ∧ s0.size ≤ 9223372036854775807 ∧ s1.size ≤ 9223372036854775807 := fun i hin => by
      obtain ⟨_, _, t0, t1⟩ := hi i (by omega)
      obtain ⟨s0, e0, _, z0⟩ := DataW.trod_string Tryz.underlying9 t0
      obtain ⟨s1, e1, _, z1⟩ := DataW.trod_string Tryz.underlying9 t1
      simp only [List.cons.injEq, and_true] at e0 e1
      unfold maxLen at z0 z1
      exact ⟨s0, s1, e0, e1, z0, z1⟩
    let g : Value → List UInt8 := fun v => match v with | .string s => s.data.toList | _ => []
    refine ⟨fun i => g (V0 i), fun i => g (V1 i), ⟨fun hn => ?_, fun i hin => ?_⟩, by omega⟩
    · obtain ⟨b, off, spot⟩ := a
      have hspot : spot = none := by simpa [Addr.add] using World.cell?_spot (hi 0 (by omega)).1
      subst hspot
      refine ⟨b, off, rfl, fun i hin => ?_⟩
      obtain ⟨c0, c1, _, _⟩ := hi i (by omega)
      obtain ⟨s0, s1, e0, e1, _, _⟩ := hs i hin
      rw [Go.WideShapes.add_plain] at c0 c1
      refine ⟨?_, ?_⟩
      · rw [c0, e0]
      · rw [← Nat.add_assoc] at c1
        rw [c1, e1]
    · obtain ⟨s0, s1, e0, e1, z0, z1⟩ := hs i hin
      simp only [g, e0, e1]
      rw [Lib.size_eq] at z0 z1
      exact ⟨z0, z1⟩
set_option maxRecDepth 100000 in
theorem series_opened {W : World} {r : Reach} {b0 : Nat} {v : Value} {d : DataW H} {p : List MemPlace} (hv : Value.okWide Tryz.prog W r b0 24 v) (h : DataW.Trod enc Tryz.prog W 0 (fun _ => true) true 24 v d p) :
    ∃ (m f : List UInt8) (A : Option Addr) (n cap : Nat) (tk tv : Nat → List UInt8), v = .agg #[strV m, .slice A n cap, strV f] ∧ SerIn W m f A n tk tv := by
  have cz : Tryz.prog.cellsOf 24 = 3 := by kernel_rfl
  obtain ⟨v0, v1, v2, y0, y1, y2, k, rfl, rfl, rfl, h0, h1, h2⟩ := Go.Joins.open_agg3 Tryz.underlying24 (by kernel_rfl) cz hv h
  obtain ⟨s0, e0, _, z0⟩ := DataW.trod_string Tryz.underlying9 h0
  obtain ⟨s2, e2, _, z2⟩ := DataW.trod_string Tryz.underlying9 h2
  simp only [List.cons.injEq, and_true] at e0 e2
  subst e0 e2
  have hsl : ∃ A n cap, v1 = .slice A n cap := by
    rcases open_slice Tryz.underlying22 h1 with ⟨hc, _⟩ | ⟨a, len, cp, _, _, _, _, hc, _⟩
    · simp only [List.cons.injEq, and_true] at hc; exact ⟨_, _, _, hc⟩
    · simp only [List.cons.injEq, and_true] at hc; exact ⟨_, _, _, hc⟩
  obtain ⟨A, n, cap, rfl⟩ := hsl
  obtain ⟨tk, tv, ht, hn⟩ := tags_opened h1
  unfold maxLen at z0 z2
  rw [Lib.size_eq] at z0 z2
  exact ⟨s0.data.toList, s2.data.toList, A, n, cap, tk, tv, rfl, ⟨ht, z0, z2, hn⟩⟩
end
end
section
open Go.ChangeShapes Go.WideShapes Go.ChangeAt Go.RowKit Go.Deep
section
variable {H : Type} {enc : TypeId × Value → H}
theorem tags_sized {W : World} {fuel : Nat} {A : Option Addr} {n cap : Nat} {x : DataW H × List MemPlace}
    (h : DataW.trod enc Tryz.prog W 0 (fun _ => true) true fuel 22 [Value.slice A n cap] = some x) (hw : ∀ k ∈ DataW.weights Tryz.prog 22 x.1, k ≤ reachBytes) :
    n * 32 ≤ 140737488351232 ∧ (A = none → n = 0 ∧ cap = 0) := by
  rcases open_slice_pairs Tryz.underlying22 Tryz.underlying70 (by kernel_rfl) rfl rfl (by kernel_rfl) (by kernel_rfl) h with ⟨hcs, _⟩ | ⟨a, len, cp, m, k, V0, V1, D0, D1, P0, P1, hcs, _, hl, hm, hmm, rfl, hi⟩
  · simp only [List.cons.injEq, Value.slice.injEq, and_true] at hcs
    obtain ⟨rfl, rfl, rfl⟩ := hcs
    exact ⟨by omega, fun _ => ⟨rfl, rfl⟩⟩
  · simp only [List.cons.injEq, Value.slice.injEq, and_true] at hcs
    obtain ⟨rfl, rfl, rfl⟩ := hcs
    refine ⟨?_, fun e => by cases e⟩
    have h1 := hw ((((List.range n).map fun i => DataW.agg [D0 i, D1 i]).length + ((List.range (m - n)).map fun j => DataW.agg [D0 (n + j), D1 (n + j)]).length) * Tryz.prog.bytesOf 70) (by simp [DataW.weights, Tryz.underlying22])
    rw [show Tryz.prog.bytesOf 70 = 32 by kernel_rfl] at h1
    simp only [List.length_map, List.length_range] at h1
    unfold reachBytes at h1
    omega
set_option maxRecDepth 100000 in
theorem series_sized {W : World} {r : Reach} {b0 : Nat} {v : Value} {d : DataW H} {p : List MemPlace} (hv : Value.okWide Tryz.prog W r b0 24 v) (h : DataW.Trod enc Tryz.prog W 0 (fun _ => true) true 24 v d p)
    (hw : ∀ k ∈ DataW.weights Tryz.prog 24 d, k ≤ reachBytes) :
    ∃ (m f : List UInt8) (A : Option Addr) (n cap : Nat) (tk tv : Nat → List UInt8), v = .agg #[strV m, .slice A n cap, strV f] ∧ SerIn W m f A n tk tv ∧ n * 32 ≤ 140737488351232 ∧ (A = none → n = 0 ∧ cap = 0) := by
  obtain ⟨m, f, A, n, cap, tk, tv, rfl, hs⟩ := series_opened hv h
  have cz : Tryz.prog.cellsOf 24 = 3 := by kernel_rfl
  obtain ⟨v0, v1, v2, y0, y1, y2, k, he, rfl, rfl, h0, h1, h2⟩ := Go.Joins.open_agg3 Tryz.underlying24 (by kernel_rfl) cz hv h
  simp only [Value.agg.injEq, Array.mk.injEq, List.cons.injEq, and_true] at he
  obtain ⟨rfl, rfl, rfl⟩ := he
  obtain ⟨g1, g2⟩ := tags_sized h1 (fun x hx => hw x (by simp only [DataW.weights, Tryz.underlying24]; exact DataW.weights_mem_each (j := 1) rfl rfl x hx))
  exact ⟨m, f, A, n, cap, tk, tv, rfl, hs, g1, g2⟩
end
end
end Go.Proofs.YtbaopcpmmdmomaaGreatDoor
