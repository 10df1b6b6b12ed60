/- weirboth.Same at an error with a place. Condition: errors.errorType holds the handle of the type error. -/
import Derived.Test.YtbcajmkmadgbhaaGreatDoorAsA
import Derived.Deep.AppendLies
set_option linter.unusedSimpArgs false
set_option linter.unusedVariables false
namespace Go.Proofs.YtbcajmkmadgbhaaGreatDoor
open Go.RowKit
/-- what the walk of Same keeps: the document's error's cells, the place's box -/
def SAK (w1 : World) (B : Nat) (p : Int) (x : World) : Prop :=
  x.cell? ⟨B, 1, none⟩ = some (.int .i64 p) ∧ x.cell? ⟨B, 3, none⟩ = some (.bool true) ∧ x.cell? ⟨B, 4, none⟩ = some (.bool false) ∧ Glob x ∧ Below B w1 x ∧ B + 1 + 1 < x.heap.size
theorem SAK.grown {w1 x y : World} {B : Nat} {p : Int} (h : SAK w1 B p x) (hg : x.grownBy y (some (B + 1 + 1))) (hE : 0 < B) : SAK w1 B p y := by
  obtain ⟨h1, h3, h4, hG, hb, hl⟩ := h
  refine ⟨hg.cell h1 (by simp; omega), hg.cell h3 (by simp; omega), hg.cell h4 (by simp; omega), ?_, hb.trans (below_of_grown hg (by omega) (by omega)), Nat.lt_of_lt_of_le hl hg.size⟩
  exact hG.below (below_of_grown hg (by omega) (by omega) : Below B x y) hE
theorem SAK.step {w1 x y : World} {B : Nat} {p : Int} (h : SAK w1 B p x) (hb : Below x.heap.size x y) : SAK w1 B p y := by
  obtain ⟨h1, h3, h4, hG, hb0, hl⟩ := h
  refine ⟨?_, ?_, ?_, hG.below hb hG.lt, hb0.trans (hb.mono (by omega)), Nat.lt_of_lt_of_le hl hb.size⟩
  · rw [hb.cell (by show B < _; omega)]; exact h1
  · rw [hb.cell (by show B < _; omega)]; exact h3
  · rw [hb.cell (by show B < _; omega)]; exact h4
set_option maxHeartbeats 4000000 in
set_option maxRecDepth 100000 in
/-- Same, of an error with a place and the one that is told. -/
theorem same_A (p c : Int) (w : World) (hG : Glob w) (hc : 1 ≤ c) :
    Calls Tryz.prog 14 #[atV p c, badAt p c] w fun e w' => e = .returned (.bool true) ∧ Below w.heap.size w w' := by
  have hc0 : (c == 0) = false := by simp; omega
  have hlt := hG.lt
  have hG' : ∀ o1 o2 o3 o4, Glob ((((w.alloc o1).alloc o2).alloc o3).alloc o4) := fun o1 o2 o3 o4 =>
    hG.below (((((Below.refl _ _).alloc (Nat.le_refl _) _).alloc (by simp) _).alloc (by simp; omega) _).alloc (by simp; omega) _) hlt
  go_enter Tryz.func14, Tryz.ntmps14
  go_wp2_with fail
  refine (as_AE p c ⟨w.heap.size + 1, 0, none⟩ (.int .i64 0) _ (hG' _ _ _ _) ?h1 ?h2).mono ?_
  case h1 => (repeat rw [World.cell?_alloc_lt _ _ _ (by simp only [heap_push, Array.size_push]; omega)]); rw [World.cell?_alloc_at _ _ _ _ (by simp only [heap_push, Array.size_push])]; rfl
  case h2 => (repeat rw [World.frozen?_alloc_old _ _ _ (by simp only [heap_push, Array.size_push]; omega)]); simp
  rintro e w1 ⟨rfl, hcell, hg⟩
  have hz := hg.size
  have b0 := hg.cell (a := ⟨w.heap.size, 0, none⟩) (v := .int .i64 c) (by (repeat rw [World.cell?_alloc_lt _ _ _ (by simp only [heap_push, Array.size_push]; omega)]); rw [World.cell?_alloc_at _ _ _ _ (by simp only [heap_push, Array.size_push])]; rfl) (by simp)
  have b1 := hg.cell (a := ⟨w.heap.size, 1, none⟩) (v := .int .i64 p) (by (repeat rw [World.cell?_alloc_lt _ _ _ (by simp only [heap_push, Array.size_push]; omega)]); rw [World.cell?_alloc_at _ _ _ _ (by simp only [heap_push, Array.size_push])]; rfl) (by simp)
  have b3 := hg.cell (a := ⟨w.heap.size, 3, none⟩) (v := .bool true) (by (repeat rw [World.cell?_alloc_lt _ _ _ (by simp only [heap_push, Array.size_push]; omega)]); rw [World.cell?_alloc_at _ _ _ _ (by simp only [heap_push, Array.size_push])]; rfl) (by simp)
  have b4 := hg.cell (a := ⟨w.heap.size, 4, none⟩) (v := .bool false) (by (repeat rw [World.cell?_alloc_lt _ _ _ (by simp only [heap_push, Array.size_push]; omega)]); rw [World.cell?_alloc_at _ _ _ _ (by simp only [heap_push, Array.size_push])]; rfl) (by simp)
  have d0 := hg.cell (a := ⟨w.heap.size + 1 + 1, 0, none⟩) (v := .int .i64 0) (by (repeat rw [World.cell?_alloc_lt _ _ _ (by simp only [heap_push, Array.size_push]; omega)]); rw [World.cell?_alloc_at _ _ _ _ (by simp only [heap_push, Array.size_push])]; rfl) (by simp)
  have d1 := hg.cell (a := ⟨w.heap.size + 1 + 1, 1, none⟩) (v := .nilIface) (by (repeat rw [World.cell?_alloc_lt _ _ _ (by simp only [heap_push, Array.size_push]; omega)]); rw [World.cell?_alloc_at _ _ _ _ (by simp only [heap_push, Array.size_push])]; rfl) (by simp)
  have df : ∀ i, w1.frozen? ⟨w.heap.size + 1 + 1, i, none⟩ = false := fun i => by
    rw [hg.frozen_far ⟨w.heap.size + 1 + 1, i, none⟩ (by simp only [heap_push, Array.size_push]; omega) (by simp)]
    (repeat rw [World.frozen?_alloc_old _ _ _ (by simp only [heap_push, Array.size_push]; omega)]); exact World.frozen?_alloc_at _ _ _ _ (by simp only [heap_push, Array.size_push])
  have hb1 : Below w.heap.size w w1 := (((((Below.refl _ _).alloc (Nat.le_refl _) _).alloc (by simp) _).alloc (by simp; omega) _).alloc (by simp; omega) _).trans (below_of_grown hg (by simp) (by simp; omega))
  have hG1 : Glob w1 := hG.below hb1 hlt
  simp at hz
  clear hG' hg
  go_wp2_with fail
  have S1 : SAK w w.heap.size p w1 := ⟨b1, b3, b4, hG1, hb1, by omega⟩
  clear b1 b3 b4 hb1
  have kA := as_AA p c (w.heap.size + 1 + 1) (.int .i64 0) .nilIface w1.drew (hG1.below (Below.refl _ _).drew hG1.lt) d0 d1 df
  go_region_held3 (fun x => x.cell? ⟨w.heap.size, 1, none⟩ = some (.int .i64 p) ∧ x.cell? ⟨w.heap.size, 3, none⟩ = some (.bool true) ∧ x.cell? ⟨w.heap.size, 4, none⟩ = some (.bool false) ∧ Glob x ∧ Below w.heap.size w x ∧ w.heap.size + 1 + 1 < x.heap.size) (first | exact S1.step (Below.refl _ _).drew | assumption) (first | (go_at_call 62; (with_reducible refine kA.mono ?_); rintro e w2 ⟨rfl, ha0, ha1, hgA⟩; have S2 := SAK.grown (S1.step (Below.refl _ _).drew) hgA hlt) | (go_at_call 62; (with_reducible refine (as_AI p c _ _ ?_).mono ?_); (exact (‹_ ∧ _ ∧ _ ∧ Glob _ ∧ Below _ _ _ ∧ _›).2.2.2.1); rintro e w3 ⟨rfl, hn⟩; have S3 := SAK.step (by assumption) hn))
  obtain ⟨c1, c3, c4, _, hb, hl⟩ := S3
  have a0 : w3.cell? ⟨w.heap.size + 1 + 1, 0, none⟩ = some (.int .i64 p) := by rw [hn.cell (p := ⟨w.heap.size + 1 + 1, 0, none⟩) S2.2.2.2.2.2]; exact ha0
  have HF : Below w.heap.size w w3 := hb
  clear hn S2 S1 kA hgA ha0 ha1 d0 d1 df hG1 hG b0 hcell
  go_wp2
  go_ret
  exact ⟨rfl, HF⟩
end Go.Proofs.YtbcajmkmadgbhaaGreatDoor
