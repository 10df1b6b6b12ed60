/- How long a program's lists are, by the reach. -/
import Derived.Test.YtbcajmkmadgbhaaDoorVrY
import Derived.Test.YtbcajmkmadgbhaaDoorVrZ
import Derived.SizedLaws
set_option linter.unusedVariables false
namespace Go.Proofs.YtbcajmkmadgbhaaDoor
open Go.ChangeShapes Go.WideShapes Go.ChangeAt Go.RowKit Go.Deep
section
variable {H : Type} {enc : TypeId × Value → H} {W : World}
theorem slice_sized {P : Program} {t e : TypeId} {fuel k : Nat} {A : Option Addr} {n cap : Nat} {d : DataW H} {p : List MemPlace} (ht : P.underlying t = some (.slice e)) (hk : P.cellsOf e = k) (hk0 : 0 < k)
    (h : DataW.trod enc P W 0 (fun _ => true) true fuel t [Value.slice A n cap] = some (d, p)) (hw : ∀ q ∈ DataW.weights P t d, q ≤ reachBytes) : n * P.bytesOf e ≤ reachBytes := by
  rcases Nat.eq_zero_or_pos n with h0 | h0
  · rw [h0, Nat.zero_mul]; exact Nat.zero_le _
  · obtain ⟨el, sp, rfl, hle⟩ := (slice_each ht hk hk0 h).2.2.1 h0
    have := hw ((el.length + sp.length) * P.bytesOf e) (by simp [DataW.weights, ht])
    exact Nat.le_trans (Nat.mul_le_mul_right _ hle) this
set_option maxHeartbeats 4000000 in
set_option maxRecDepth 100000 in
theorem program_lens {D : PrgD} {L : PLoc} {d : DataW H} {p : List MemPlace} (h : DataW.Trod enc Tryd.prog W 0 (fun _ => true) true 28 (prgV D L) d p) (hw : ∀ q ∈ DataW.weights Tryd.prog 28 d, q ≤ reachBytes) : LenB D := by
  obtain ⟨fuel, hf⟩ := h
  obtain ⟨xs, m, _, hdp, _, hlen, hall⟩ := DataW.trod_struct Tryd.underlying28 hf
  obtain ⟨rfl, _⟩ := Prod.mk.inj hdp
  have g10 : D.times.length * 8 ≤ 140737488355328 := by
    have h4 := hall 10 _ rfl
    have hx : xs[10]? = some (xs[10]'(by rw [hlen]; decide)) := List.getElem?_eq_getElem _
    rw [hx] at h4
    generalize xs[10]'(by rw [hlen]; decide) = z at h4 hx
    obtain ⟨dz, pz⟩ := z
    have h4' : DataW.trod enc Tryd.prog W 0 (fun _ => true) true m 25 (((prgV D L).cells.toList.drop 10).take (Tryd.prog.cellsOf 25)) = some (dz, pz) := h4
    rw [show Tryd.prog.cellsOf 25 = 1 by kernel_rfl] at h4'
    have h5 : DataW.trod enc Tryd.prog W 0 (fun _ => true) true m 25 [Value.slice L.am D.times.length L.cm] = some (dz, pz) := h4'
    have h6 := slice_sized (k := 1) Tryd.underlying25 (by kernel_rfl) (by decide) h5 (fun q hq => hw q (by
      simp only [DataW.weights, Tryd.underlying28]
      exact DataW.weights_mem_each (j := 10) (t := 25) (d := dz) rfl (by rw [List.getElem?_map, hx]; rfl) q hq))
    rw [show Tryd.prog.bytesOf 2 = 8 by kernel_rfl] at h6
    unfold reachBytes at h6
    omega
  have g11 : D.ints.length * 8 ≤ 140737488355328 := by
    have h4 := hall 11 _ rfl
    have hx : xs[11]? = some (xs[11]'(by rw [hlen]; decide)) := List.getElem?_eq_getElem _
    rw [hx] at h4
    generalize xs[11]'(by rw [hlen]; decide) = z at h4 hx
    obtain ⟨dz, pz⟩ := z
    have h4' : DataW.trod enc Tryd.prog W 0 (fun _ => true) true m 25 (((prgV D L).cells.toList.drop 11).take (Tryd.prog.cellsOf 25)) = some (dz, pz) := h4
    rw [show Tryd.prog.cellsOf 25 = 1 by kernel_rfl] at h4'
    have h5 : DataW.trod enc Tryd.prog W 0 (fun _ => true) true m 25 [Value.slice L.az D.ints.length L.cz] = some (dz, pz) := h4'
    have h6 := slice_sized (k := 1) Tryd.underlying25 (by kernel_rfl) (by decide) h5 (fun q hq => hw q (by
      simp only [DataW.weights, Tryd.underlying28]
      exact DataW.weights_mem_each (j := 11) (t := 25) (d := dz) rfl (by rw [List.getElem?_map, hx]; rfl) q hq))
    rw [show Tryd.prog.bytesOf 2 = 8 by kernel_rfl] at h6
    unfold reachBytes at h6
    omega
  have g5 : D.accs.length * 24 ≤ 140737488355328 := by
    have h4 := hall 5 _ rfl
    have hx : xs[5]? = some (xs[5]'(by rw [hlen]; decide)) := List.getElem?_eq_getElem _
    rw [hx] at h4
    generalize xs[5]'(by rw [hlen]; decide) = z at h4 hx
    obtain ⟨dz, pz⟩ := z
    have h4' : DataW.trod enc Tryd.prog W 0 (fun _ => true) true m 23 (((prgV D L).cells.toList.drop 5).take (Tryd.prog.cellsOf 23)) = some (dz, pz) := h4
    rw [show Tryd.prog.cellsOf 23 = 1 by kernel_rfl] at h4'
    have h5 : DataW.trod enc Tryd.prog W 0 (fun _ => true) true m 23 [Value.slice L.ac D.accs.length L.cc] = some (dz, pz) := h4'
    have h6 := slice_sized (k := 2) Tryd.underlying23 (by kernel_rfl) (by decide) h5 (fun q hq => hw q (by
      simp only [DataW.weights, Tryd.underlying28]
      exact DataW.weights_mem_each (j := 5) (t := 23) (d := dz) rfl (by rw [List.getElem?_map, hx]; rfl) q hq))
    rw [show Tryd.prog.bytesOf 41 = 24 by kernel_rfl] at h6
    unfold reachBytes at h6
    omega
  have g8 : D.texts.length * 16 ≤ 140737488355328 := by
    have h4 := hall 8 _ rfl
    have hx : xs[8]? = some (xs[8]'(by rw [hlen]; decide)) := List.getElem?_eq_getElem _
    rw [hx] at h4
    generalize xs[8]'(by rw [hlen]; decide) = z at h4 hx
    obtain ⟨dz, pz⟩ := z
    have h4' : DataW.trod enc Tryd.prog W 0 (fun _ => true) true m 22 (((prgV D L).cells.toList.drop 8).take (Tryd.prog.cellsOf 22)) = some (dz, pz) := h4
    rw [show Tryd.prog.cellsOf 22 = 1 by kernel_rfl] at h4'
    have h5 : DataW.trod enc Tryd.prog W 0 (fun _ => true) true m 22 [Value.slice L.at_ D.texts.length L.ct] = some (dz, pz) := h4'
    have h6 := slice_sized (k := 1) Tryd.underlying22 (by kernel_rfl) (by decide) h5 (fun q hq => hw q (by
      simp only [DataW.weights, Tryd.underlying28]
      exact DataW.weights_mem_each (j := 8) (t := 22) (d := dz) rfl (by rw [List.getElem?_map, hx]; rfl) q hq))
    rw [show Tryd.prog.bytesOf 9 = 16 by kernel_rfl] at h6
    unfold reachBytes at h6
    omega
  have g7 : D.names.length * 16 ≤ 140737488355328 := by
    have h4 := hall 7 _ rfl
    have hx : xs[7]? = some (xs[7]'(by rw [hlen]; decide)) := List.getElem?_eq_getElem _
    rw [hx] at h4
    generalize xs[7]'(by rw [hlen]; decide) = z at h4 hx
    obtain ⟨dz, pz⟩ := z
    have h4' : DataW.trod enc Tryd.prog W 0 (fun _ => true) true m 22 (((prgV D L).cells.toList.drop 7).take (Tryd.prog.cellsOf 22)) = some (dz, pz) := h4
    rw [show Tryd.prog.cellsOf 22 = 1 by kernel_rfl] at h4'
    have h5 : DataW.trod enc Tryd.prog W 0 (fun _ => true) true m 22 [Value.slice L.an D.names.length L.cn] = some (dz, pz) := h4'
    have h6 := slice_sized (k := 1) Tryd.underlying22 (by kernel_rfl) (by decide) h5 (fun q hq => hw q (by
      simp only [DataW.weights, Tryd.underlying28]
      exact DataW.weights_mem_each (j := 7) (t := 22) (d := dz) rfl (by rw [List.getElem?_map, hx]; rfl) q hq))
    rw [show Tryd.prog.bytesOf 9 = 16 by kernel_rfl] at h6
    unfold reachBytes at h6
    omega
  exact ⟨g10, g11, g5, g8, g7⟩
end
end Go.Proofs.YtbcajmkmadgbhaaDoor
