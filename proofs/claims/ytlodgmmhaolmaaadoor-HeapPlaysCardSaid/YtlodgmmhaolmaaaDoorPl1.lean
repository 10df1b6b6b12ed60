/- HeapPlays: a new pair, on its way into the rows. -/
import Derived.Test.YtlodgmmhaolmaaaDoorPl0
set_option linter.unusedSimpArgs false
set_option linter.unusedVariables false
namespace Go.Proofs.YtlodgmmhaolmaaaDoor
open Go.RowKit
theorem cellS {x x' : World} {a : Addr} {v : Value} (h : x.cell? a = some v) (hb : Below x.heap.size x x') : x'.cell? a = some v := by rw [hb.cell (cell_lt h)]; exact h
/-- the program's new heap; g, r: the rows' blocks -/
structure CanH (wr : World) (g r S0 hb mb : Nat) (v : Value) (L : List Ent) (mo : Bool) (mv : Nat) : Prop where
  h : HeapAt wr hb mb v L mo mv
  lo : ∀ x ∈ foot hb mb v, S0 ≤ x
  ng : g ∉ foot hb mb v
  nr : r ∉ foot hb mb v
theorem CanH.mk0 {wr : World} {g r S0 hb mb : Nat} {v : Value} {L : List Ent} {mo : Bool} {mv : Nat} (h : HeapAt wr hb mb v L mo mv) (lo : ∀ x ∈ foot hb mb v, S0 ≤ x) (hg : g < S0) (hr : r < S0) : CanH wr g r S0 hb mb v L mo mv :=
  ⟨h, lo, fun hm => by have := lo _ hm; omega, fun hm => by have := lo _ hm; omega⟩
theorem CanH.step {wr w' : World} {g r S0 hb mb : Nat} {v : Value} {L : List Ent} {mo : Bool} {mv : Nat} (h : CanH wr g r S0 hb mb v L mo mv) (hb' : Below wr.heap.size wr w') : CanH w' g r S0 hb mb v L mo mv := ⟨h.h.below hb', h.lo, h.ng, h.nr⟩
theorem CanH.growG {wr w' : World} {g g' r S0 hb mb : Nat} {v : Value} {L : List Ent} {mo : Bool} {mv : Nat} (h : CanH wr g r S0 hb mb v L mo mv) (ht : Turned [g] wr w') (hd : g' = g ∨ wr.heap.size ≤ g') : CanH w' g' r S0 hb mb v L mo mv :=
  ⟨h.h.kept ht (fun x hx => by rw [List.mem_singleton] at hx; rw [hx]; exact h.ng), h.lo, by
    rcases hd with rfl | hd
    · exact h.ng
    · intro hm; have := h.h.footLt _ hm; omega, h.nr⟩
theorem CanH.growR {wr w' : World} {g r r' S0 hb mb : Nat} {v : Value} {L : List Ent} {mo : Bool} {mv : Nat} (h : CanH wr g r S0 hb mb v L mo mv) (ht : Turned [r] wr w') (hd : r' = r ∨ wr.heap.size ≤ r') : CanH w' g r' S0 hb mb v L mo mv :=
  ⟨h.h.kept ht (fun x hx => by rw [List.mem_singleton] at hx; rw [hx]; exact h.nr), h.lo, h.ng, by
    rcases hd with rfl | hd
    · exact h.nr
    · intro hm; have := h.h.footLt _ hm; omega⟩
/-- the document's new heap -/
structure CanR (wr : World) (g r S1 rb : Nat) (v : Value) (L : List Ent) (mo : Bool) (mv : Nat) : Prop where
  m : RefAt wr rb v L mo mv
  lo : ∀ x ∈ rfoot rb v, S1 ≤ x
  ng : g ∉ rfoot rb v
  nr : r ∉ rfoot rb v
theorem CanR.mk0 {wr : World} {g r S1 rb : Nat} {v : Value} {L : List Ent} {mo : Bool} {mv : Nat} (h : RefAt wr rb v L mo mv) (lo : ∀ x ∈ rfoot rb v, S1 ≤ x) (hg : g < S1) (hr : r < S1) : CanR wr g r S1 rb v L mo mv :=
  ⟨h, lo, fun hm => by have := lo _ hm; omega, fun hm => by have := lo _ hm; omega⟩
theorem CanR.step {wr w' : World} {g r S1 rb : Nat} {v : Value} {L : List Ent} {mo : Bool} {mv : Nat} (h : CanR wr g r S1 rb v L mo mv) (hb' : Below wr.heap.size wr w') : CanR w' g r S1 rb v L mo mv := ⟨h.m.below hb', h.lo, h.ng, h.nr⟩
theorem CanR.growG {wr w' : World} {g g' r S1 rb : Nat} {v : Value} {L : List Ent} {mo : Bool} {mv : Nat} (h : CanR wr g r S1 rb v L mo mv) (ht : Turned [g] wr w') (hd : g' = g ∨ wr.heap.size ≤ g') : CanR w' g' r S1 rb v L mo mv :=
  ⟨h.m.kept ht (fun x hx => by rw [List.mem_singleton] at hx; rw [hx]; exact h.ng), h.lo, by
    rcases hd with rfl | hd
    · exact h.ng
    · intro hm; have := h.m.footLt _ hm; omega, h.nr⟩
theorem CanR.growR {wr w' : World} {g r r' S1 rb : Nat} {v : Value} {L : List Ent} {mo : Bool} {mv : Nat} (h : CanR wr g r S1 rb v L mo mv) (ht : Turned [r] wr w') (hd : r' = r ∨ wr.heap.size ≤ r') : CanR w' g r' S1 rb v L mo mv :=
  ⟨h.m.kept ht (fun x hx => by rw [List.mem_singleton] at hx; rw [hx]; exact h.nr), h.lo, h.ng, by
    rcases hd with rfl | hd
    · exact h.nr
    · intro hm; have := h.m.footLt _ hm; omega⟩
/-- the pair is in -/
theorem PlIn.fin {w wr : World} {hg hc rg rc S0 S1 X hb mb rb mv : Nat} {hps mps : List Value} {ps : List (Option PrD)} {v rv : Value} {L : List Ent} {mo : Bool} (h : PlIn w wr hg hc hps rg rc mps ps X) (hH : CanH wr hg rg S0 hb mb v L mo mv) (hM : CanR wr hg rg S1 rb rv L mo mv)
    (hold : ∀ j, j < ps.length → ∀ x ∈ footO (pAt ps j), x < S0) (h0 : w.heap.size ≤ S0) (h1 : S0 ≤ S1) (hf : ∀ x ∈ foot hb mb v, x < S1) (hL : L.length ≤ X) :
    PlIn w wr hg hc hps rg rc mps (ps ++ [some ⟨hb, mb, v, rb, rv, L, mo, mv⟩]) X := by
  refine h.add (some ⟨hb, mb, v, rb, rv, L, mo, mv⟩) ⟨⟨hH.h, hM.m, fun x hx hm => by have h2 := hf x hx; have h3 := hM.lo x hm; omega⟩, hL⟩ (fun x hx => ?_)
  rcases List.mem_append.1 hx with hx | hx
  · exact ⟨Nat.le_trans h0 (hH.lo x hx), fun e => hH.ng (by rw [← e]; exact hx), fun e => hH.nr (by rw [← e]; exact hx), fun j hj hm => by have h2 := hold j hj x hm; have h3 := hH.lo x hx; omega⟩
  · exact ⟨Nat.le_trans h0 (Nat.le_trans h1 (hM.lo x hx)), fun e => hM.ng (by rw [← e]; exact hx), fun e => hM.nr (by rw [← e]; exact hx), fun j hj hm => by have h2 := hold j hj x hm; have h3 := hM.lo x hx; omega⟩
end Go.Proofs.YtlodgmmhaolmaaaDoor
