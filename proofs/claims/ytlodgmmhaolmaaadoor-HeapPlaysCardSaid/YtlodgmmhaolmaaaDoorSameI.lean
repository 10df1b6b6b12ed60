/- weirboth.Same at an error of one of several things. Condition: errors.errorType holds the handle of the type error. -/
import Derived.Test.YtlodgmmhaolmaaaDoorAsI
import Derived.Deep.AppendLies
set_option linter.unusedSimpArgs false
set_option linter.unusedVariables false
namespace Go.Proofs.YtlodgmmhaolmaaaDoor
open Go.RowKit
/-- what the walk of Same keeps: the document's error's cells, the box of the number -/
def SIK (w1 : World) (B : Nat) (p : Int) (x : World) : Prop :=
  x.cell? ⟨B, 2, none⟩ = some (.int .i64 p) ∧ x.cell? ⟨B, 3, none⟩ = some (.bool false) ∧ x.cell? ⟨B, 4, none⟩ = some (.bool true) ∧ Glob x ∧ Below B w1 x ∧ B + 1 + 1 + 1 < x.heap.size ∧ (∃ o, x.cell? ⟨B + 1 + 1 + 1, 0, none⟩ = some o) ∧ (∃ o, x.cell? ⟨B + 1 + 1 + 1, 1, none⟩ = some o) ∧ (∀ i, x.frozen? ⟨B + 1 + 1 + 1, i, none⟩ = false)
theorem SIK.grown {w1 x y : World} {B : Nat} {p : Int} {c0 c1 : Value} (h : SIK w1 B p x) (hg : x.grownBy y (some (B + 1 + 1 + 1))) (hE : 0 < B) (h0 : y.cell? ⟨B + 1 + 1 + 1, 0, none⟩ = some c0) (h1 : y.cell? ⟨B + 1 + 1 + 1, 1, none⟩ = some c1) (hf : ∀ i, y.frozen? ⟨B + 1 + 1 + 1, i, none⟩ = false) : SIK w1 B p y := by
  obtain ⟨h2, h3, h4, hG, hb, hl, _⟩ := h
  refine ⟨hg.cell h2 (by simp; omega), hg.cell h3 (by simp; omega), hg.cell h4 (by simp; omega), ?_, hb.trans (below_of_grown hg (by omega) (by omega)), Nat.lt_of_lt_of_le hl hg.size, ⟨_, h0⟩, ⟨_, h1⟩, hf⟩
  exact hG.below (below_of_grown hg (by omega) (by omega) : Below B x y) hE
theorem SIK.step {w1 x y : World} {B : Nat} {p : Int} (h : SIK w1 B p x) (hb : Below x.heap.size x y) : SIK w1 B p y := by
  obtain ⟨h2, h3, h4, hG, hb0, hl, ⟨o, h5⟩, ⟨o', h6⟩, hf⟩ := h
  refine ⟨?_, ?_, ?_, hG.below hb hG.lt, hb0.trans (hb.mono (by omega)), Nat.lt_of_lt_of_le hl hb.size, ⟨o, ?_⟩, ⟨o', ?_⟩, fun i => ?_⟩
  · rw [hb.cell (by show B < _; omega)]; exact h2
  · rw [hb.cell (by show B < _; omega)]; exact h3
  · rw [hb.cell (by show B < _; omega)]; exact h4
  · rw [hb.cell (by show B + 1 + 1 + 1 < _; omega)]; exact h5
  · rw [hb.cell (by show B + 1 + 1 + 1 < _; omega)]; exact h6
  · rw [hb.frozen (by show B + 1 + 1 + 1 < _; omega)]; exact hf i
theorem SIK.hit {w1 x : World} {B : Nat} {p c : Int} (h : SIK w1 B p x) (hE : 0 < B) :
    Calls Tryd.prog 36 #[niV p c, .iface 93 (.pointer (some ⟨B + 1 + 1 + 1, 0, none⟩))] x fun ev w' => ev = .returned (.bool true) ∧ w'.cell? ⟨B + 1 + 1 + 1, 0, none⟩ = some (.int .i64 p) ∧ SIK w1 B p w' := by
  obtain ⟨h2, h3, h4, hG, hb0, hl, ⟨o, h5⟩, ⟨o', h6⟩, hf⟩ := h
  exact (as_II p c (B + 1 + 1 + 1) o o' x hG h5 h6 hf).mono fun e w' ⟨he, ha0, ha1, hg, hff⟩ => ⟨he, ha0, SIK.grown ⟨h2, h3, h4, hG, hb0, hl, ⟨o, h5⟩, ⟨o', h6⟩, hf⟩ hg hE ha0 ha1 hff⟩
set_option maxHeartbeats 4000000 in
set_option maxRecDepth 100000 in
/-- Same, of an error of one of several things and the one that is told. -/
theorem same_I (p c : Int) (w : World) (hG : Glob w) (hc : 1 ≤ c) :
    Calls Tryd.prog 22 #[niV p c, badNi p c] w fun e w' => e = .returned (.bool true) ∧ Below w.heap.size w w' := by
  have hc0 : (c == 0) = false := by simp; omega
  have hlt := hG.lt
  have hG' : ∀ o1 o2 o3 o4, Glob ((((w.alloc o1).alloc o2).alloc o3).alloc o4) := fun o1 o2 o3 o4 =>
    hG.below (((((Below.refl _ _).alloc (Nat.le_refl _) _).alloc (by simp) _).alloc (by simp; omega) _).alloc (by simp; omega) _) hlt
  go_enter Tryd.func22, Tryd.ntmps22
  go_wp2_with fail
  refine (as_IE p c ⟨w.heap.size + 1, 0, none⟩ (.int .i64 0) _ (hG' _ _ _ _) ?h1 ?h2).mono ?_
  case h1 => (repeat rw [World.cell?_alloc_lt _ _ _ (by simp only [heap_push, Array.size_push]; omega)]); rw [World.cell?_alloc_at _ _ _ _ (by simp only [heap_push, Array.size_push])]; rfl
  case h2 => (repeat rw [World.frozen?_alloc_old _ _ _ (by simp only [heap_push, Array.size_push]; omega)]); simp
  rintro e w1 ⟨rfl, hcell, hg⟩
  have hz := hg.size
  have b0 := hg.cell (a := ⟨w.heap.size, 0, none⟩) (v := .int .i64 c) (by (repeat rw [World.cell?_alloc_lt _ _ _ (by simp only [heap_push, Array.size_push]; omega)]); rw [World.cell?_alloc_at _ _ _ _ (by simp only [heap_push, Array.size_push])]; rfl) (by simp)
  have b2 := hg.cell (a := ⟨w.heap.size, 2, none⟩) (v := .int .i64 p) (by (repeat rw [World.cell?_alloc_lt _ _ _ (by simp only [heap_push, Array.size_push]; omega)]); rw [World.cell?_alloc_at _ _ _ _ (by simp only [heap_push, Array.size_push])]; rfl) (by simp)
  have b3 := hg.cell (a := ⟨w.heap.size, 3, none⟩) (v := .bool false) (by (repeat rw [World.cell?_alloc_lt _ _ _ (by simp only [heap_push, Array.size_push]; omega)]); rw [World.cell?_alloc_at _ _ _ _ (by simp only [heap_push, Array.size_push])]; rfl) (by simp)
  have b4 := hg.cell (a := ⟨w.heap.size, 4, none⟩) (v := .bool true) (by (repeat rw [World.cell?_alloc_lt _ _ _ (by simp only [heap_push, Array.size_push]; omega)]); rw [World.cell?_alloc_at _ _ _ _ (by simp only [heap_push, Array.size_push])]; rfl) (by simp)
  have d0 := hg.cell (a := ⟨w.heap.size + 1 + 1 + 1, 0, none⟩) (v := .int .i64 0) (by (repeat rw [World.cell?_alloc_lt _ _ _ (by simp only [heap_push, Array.size_push]; omega)]); rw [World.cell?_alloc_at _ _ _ _ (by simp only [heap_push, Array.size_push])]; rfl) (by simp <;> omega)
  have d1 := hg.cell (a := ⟨w.heap.size + 1 + 1 + 1, 1, none⟩) (v := .nilIface) (by (repeat rw [World.cell?_alloc_lt _ _ _ (by simp only [heap_push, Array.size_push]; omega)]); rw [World.cell?_alloc_at _ _ _ _ (by simp only [heap_push, Array.size_push])]; rfl) (by simp <;> omega)
  have df : ∀ i, w1.frozen? ⟨w.heap.size + 1 + 1 + 1, i, none⟩ = false := fun i => by
    rw [hg.frozen_far ⟨w.heap.size + 1 + 1 + 1, i, none⟩ (by simp only [heap_push, Array.size_push]; omega) (by simp <;> omega)]
    (repeat rw [World.frozen?_alloc_old _ _ _ (by simp only [heap_push, Array.size_push]; omega)]); exact World.frozen?_alloc_at _ _ _ _ (by simp only [heap_push, Array.size_push])
  have hb1 : Below w.heap.size w w1 := (((((Below.refl _ _).alloc (Nat.le_refl _) _).alloc (by simp) _).alloc (by simp; omega) _).alloc (by simp; omega) _).trans (below_of_grown hg (by simp) (by simp; omega))
  have hG1 : Glob w1 := hG.below hb1 hlt
  simp at hz
  clear hG' hg
  go_wp2_with fail
  have S1 : SIK w w.heap.size p w1 := ⟨b2, b3, b4, hG1, hb1, by omega, ⟨_, d0⟩, ⟨_, d1⟩, df⟩
  clear b2 b3 b4 hb1 d0 d1 df
  go_region_held3 (fun x => x.cell? ⟨w.heap.size, 2, none⟩ = some (.int .i64 p) ∧ x.cell? ⟨w.heap.size, 3, none⟩ = some (.bool false) ∧ x.cell? ⟨w.heap.size, 4, none⟩ = some (.bool true) ∧ Glob x ∧ Below w.heap.size w x ∧ w.heap.size + 1 + 1 + 1 < x.heap.size ∧ (∃ o, x.cell? ⟨w.heap.size + 1 + 1 + 1, 0, none⟩ = some o) ∧ (∃ o, x.cell? ⟨w.heap.size + 1 + 1 + 1, 1, none⟩ = some o) ∧ (∀ i, x.frozen? ⟨w.heap.size + 1 + 1 + 1, i, none⟩ = false)) (first | exact S1.step (Below.refl _ _).drew | assumption) (first | (go_at_call 36; (with_reducible refine (as_IA p c _ _ ?_).mono ?_); (exact (S1.step (Below.refl _ _).drew).2.2.2.1); rintro e w2 ⟨rfl, hn⟩; have S2 := (S1.step (Below.refl _ _).drew).step hn) | (go_at_call 36; (with_reducible refine (S2.hit hlt).mono ?_); rintro e w3 ⟨rfl, ha0, S3⟩))
  obtain ⟨c2, c3, c4, _, hb, hl, _⟩ := S3
  have HF : Below w.heap.size w w3 := hb
  clear hn S2 S1 hG1 hG b0 hcell
  go_wp2
  go_ret
  exact ⟨rfl, HF⟩
end Go.Proofs.YtlodgmmhaolmaaaDoor
