/- Accumulators of the least and of the greatest: New, Add, Slot. Condition: the table of powers of ten is laid. -/
import Derived.Test.YtaolkcbbkanhbaaGreatDoorAcB
import Derived.Test.YtaolkcbbkanhbaaGreatDoorHpI
import Derived.Test.YtaolkcbbkanhbaaGreatDoorHpQ
set_option linter.unusedSimpArgs false
set_option linter.unusedVariables false
namespace Go.Proofs.YtaolkcbbkanhbaaGreatDoor
open Go.RowKit
open Go.Maps (Keyed)
/-- what a heap of numbers holds of one -/
def entW (o : NumI) : Ent := (o.2.2, nameL o.1 o.2.1)
structure EdgeAt (w : World) (kb hb pm : Nat) (v : Value) (mo : Bool) (L : List NumI) (H : List Ent) (mv : Nat) : Prop where
  knd : w.heap[kb]? = some (.cells #[.pointer (some ⟨hb, 0, none⟩)] 82 (0, 0))
  heap : HeapAt w hb pm v H mo mv
  ok : HeapOk mo H
  inh : InH entW H L
theorem EdgeAt.kept {w w' : World} {kb hb pm : Nat} {v : Value} {mo : Bool} {L : List NumI} {H : List Ent} {mv : Nat} {S : List Nat} (h : EdgeAt w kb hb pm v mo L H mv) (ht : Turned S w w') (hk : kb ∉ S) (hS : ∀ x ∈ S, x ∉ foot hb pm v) : EdgeAt w' kb hb pm v mo L H mv where
  knd := by rw [ht.block kb (block_lt h.knd) hk]; exact h.knd
  heap := h.heap.kept ht hS
  ok := h.ok
  inh := h.inh
theorem EdgeAt.below {w w' : World} {kb hp pm : Nat} {v : Value} {mo : Bool} {L : List NumI} {H : List Ent} {mv : Nat} (h : EdgeAt w kb hp pm v mo L H mv) (hb : Below w.heap.size w w') : EdgeAt w' kb hp pm v mo L H mv := h.kept (S := []) (Turned.ofBelow hb) (by simp) (by simp)
abbrev edgeK (kb : Nat) : Value := .iface 78 (.pointer (some ⟨kb, 0, none⟩))
/-- the function's number -/
abbrev edgeF (mo : Bool) : Nat := if mo then 5 else 4
theorem acc_made (w w2 : World) (f : Nat) (K : Value) (C : Obj) (h2 : Below (w.heap.size + 2) ((w.alloc (.map #[] 0)).alloc (.cells #[.int .u8 f, .map (some w.heap.size), .nilIface] 71)) w2) :
    AccC ((w2.alloc C).setCell ⟨w.heap.size + 1, 2, none⟩ K) (w.heap.size + 1) w.heap.size f K [] ∧ Below w.heap.size w ((w2.alloc C).setCell ⟨w.heap.size + 1, 2, none⟩ K) ∧ Turned [w.heap.size + 1] (w2.alloc C) ((w2.alloc C).setCell ⟨w.heap.size + 1, 2, none⟩ K) ∧
    ((w2.alloc C).setCell ⟨w.heap.size + 1, 2, none⟩ K).heap[w2.heap.size]? = some C ∧ (w2.alloc C).cell? ⟨w.heap.size + 1, 2, none⟩ = some .nilIface ∧ (w2.alloc C).frozen? ⟨w.heap.size + 1, 2, none⟩ = false := by
  have hz : ((w.alloc (.map #[] 0)).alloc (.cells #[.int .u8 f, .map (some w.heap.size), .nilIface] 71)).heap.size = w.heap.size + 2 := by simp
  have hs := h2.size
  rw [hz] at hs
  have ht : Turned [w.heap.size + 1] (w2.alloc C) ((w2.alloc C).setCell ⟨w.heap.size + 1, 2, none⟩ K) := Turned.set _ _ _
  have hb3 : Below (w.heap.size + 2) ((w.alloc (.map #[] 0)).alloc (.cells #[.int .u8 f, .map (some w.heap.size), .nilIface] 71)) (w2.alloc C) := h2.trans ((below1 w2 C).mono hs)
  have e0 : ((w.alloc (.map #[] 0)).alloc (.cells #[.int .u8 f, .map (some w.heap.size), .nilIface] 71)).heap[w.heap.size + 1]? = some (.cells #[.int .u8 f, .map (some w.heap.size), .nilIface] 71 (0, 0)) := by
    have := heap_alloc_new (w.alloc (.map #[] 0)) (.cells #[.int .u8 f, .map (some w.heap.size), .nilIface] 71)
    rwa [show (w.alloc (.map #[] 0)).heap.size = w.heap.size + 1 by simp] at this
  have e1 : (w2.alloc C).heap[w.heap.size + 1]? = some (.cells #[.int .u8 f, .map (some w.heap.size), .nilIface] 71 (0, 0)) := by rw [hb3.block _ (by omega)]; exact e0
  have m0 : MapAt Tryz.prog ((w.alloc (.map #[] 0)).alloc (.cells #[.int .u8 f, .map (some w.heap.size), .nilIface] 71)) 9 w.heap.size 0 (inF []) := ((MapAt.made Tryz.prog w 9).alloc _).same (fun l => by cases l <;> rfl)
  refine ⟨⟨?_, ?_, List.Pairwise.nil, fun o ho => by cases ho⟩, ?_, ht, ?_, cells_at e1 2 _ rfl, cells_free e1 2⟩
  · have := cells_set e1 2 K
    simpa using this
  · exact m0.block ((ht.block w.heap.size (by simp; omega) (by simp)).trans (hb3.block _ (by omega)))
  · have hbw : Below w.heap.size w (w2.alloc C) := (below2 w _ _).trans (hb3.mono (by omega))
    exact hbw.setCell (Nat.le_succ _) _
  · rw [ht.block w2.heap.size (by simp) (by simp; omega)]
    exact heap_alloc_new w2 C
set_option maxHeartbeats 4000000 in
set_option maxRecDepth 100000 in
theorem anew_edge (mo : Bool) (w : World) : Calls Tryz.prog 11 #[.int .u8 (edgeF mo)] w fun e w' => ∃ ab mb kb hb pm, e = .returned (.tuple #[.pointer (some ⟨ab, 0, none⟩), .nilIface]) ∧ AccC w' ab mb (edgeF mo) (edgeK kb) [] ∧
    EdgeAt w' kb hb pm (.slice none 0 0) mo [] [] 0 ∧ Below w.heap.size w w' ∧ w.heap.size ≤ ab ∧ w.heap.size ≤ mb ∧ w.heap.size ≤ kb ∧ w.heap.size ≤ hb ∧ w.heap.size ≤ pm ∧ mb ≠ pm := by
  have hmm := @run_makeMap Tryz.prog
  have fin : ∀ (w2 : World) (hb pm : Nat), HeapAt w2 hb pm (.slice none 0 0) [] mo 0 → Below (w.heap.size + 2) ((w.alloc (.map #[] 0)).alloc (.cells #[.int .u8 (edgeF mo), .map (some w.heap.size), .nilIface] 71)) w2 → w.heap.size + 2 ≤ hb → w.heap.size + 2 ≤ pm →
      AccC ((w2.alloc (.cells #[.pointer (some ⟨hb, 0, none⟩)] 82)).setCell ⟨w.heap.size + 1, 2, none⟩ (edgeK w2.heap.size)) (w.heap.size + 1) w.heap.size (edgeF mo) (edgeK w2.heap.size) [] ∧
      EdgeAt ((w2.alloc (.cells #[.pointer (some ⟨hb, 0, none⟩)] 82)).setCell ⟨w.heap.size + 1, 2, none⟩ (edgeK w2.heap.size)) w2.heap.size hb pm (.slice none 0 0) mo [] [] 0 ∧
      Below w.heap.size w ((w2.alloc (.cells #[.pointer (some ⟨hb, 0, none⟩)] 82)).setCell ⟨w.heap.size + 1, 2, none⟩ (edgeK w2.heap.size)) ∧ w.heap.size ≤ w2.heap.size ∧ (w2.alloc (.cells #[.pointer (some ⟨hb, 0, none⟩)] 82)).cell? ⟨w.heap.size + 1, 2, none⟩ = some .nilIface ∧ (w2.alloc (.cells #[.pointer (some ⟨hb, 0, none⟩)] 82)).frozen? ⟨w.heap.size + 1, 2, none⟩ = false := by
    intro w2 hb pm hH hB hb1 hb2
    obtain ⟨a1, a2, a3, a4, a5, a6⟩ := acc_made w w2 (edgeF mo) (edgeK w2.heap.size) (.cells #[.pointer (some ⟨hb, 0, none⟩)] 82) hB
    refine ⟨a1, ⟨a4, ?_, nil_ok mo, fun e => by simp⟩, a2, ?_, a5, a6⟩
    · refine (hH.below (below1 w2 _)).kept a3 (fun x hx => ?_)
      simp only [List.mem_singleton] at hx
      subst hx
      simp only [foot, rowB, List.mem_cons, Option.toList, List.not_mem_nil, or_false]
      omega
    · have := hB.size; simp at this; omega
  cases mo
  · go_enter Tryz.func11, Tryz.ntmps11
    simp only [edgeF, if_false, if_true, Bool.false_eq_true] at fin ⊢
    go_wp2_with fail
    refine (new_heap false _).mono ?_
    rintro e w2 ⟨hb, pm, rfl, hH, hB, h1, h2⟩
    have hz : ((w.alloc (.map #[] 0)).alloc (.cells #[.int .u8 4, .map (some w.heap.size), .nilIface] 71)).heap.size = w.heap.size + 2 := by simp
    rw [hz] at hB h1 h2
    obtain ⟨f1, f2, f3, f4, c2, z2⟩ := fin w2 hb pm hH hB h1 h2
    have HF : Bx _ := ⟨And.intro f1 (And.intro f2 (And.intro f3 (And.intro f4 (And.intro h1 h2))))⟩
    clear f1 f2 f3 f4 fin hH hB
    go_wp2
    go_ret2
    exact ⟨_, _, _, _, _, rfl, HF.out.1, HF.out.2.1, HF.out.2.2.1, Nat.le_succ _, Nat.le_refl _, HF.out.2.2.2.1, Nat.le_trans (Nat.le_add_right _ 2) HF.out.2.2.2.2.1, Nat.le_trans (Nat.le_add_right _ 2) HF.out.2.2.2.2.2, by have := HF.out.2.2.2.2.2; omega⟩
  · go_enter Tryz.func11, Tryz.ntmps11
    simp only [edgeF, if_false, if_true, Bool.false_eq_true] at fin ⊢
    go_wp2_with fail
    refine (new_heap true _).mono ?_
    rintro e w2 ⟨hb, pm, rfl, hH, hB, h1, h2⟩
    have hz : ((w.alloc (.map #[] 0)).alloc (.cells #[.int .u8 5, .map (some w.heap.size), .nilIface] 71)).heap.size = w.heap.size + 2 := by simp
    rw [hz] at hB h1 h2
    obtain ⟨f1, f2, f3, f4, c2, z2⟩ := fin w2 hb pm hH hB h1 h2
    have HF : Bx _ := ⟨And.intro f1 (And.intro f2 (And.intro f3 (And.intro f4 (And.intro h1 h2))))⟩
    clear f1 f2 f3 f4 fin hH hB
    go_wp2
    go_ret2
    exact ⟨_, _, _, _, _, rfl, HF.out.1, HF.out.2.1, HF.out.2.2.1, Nat.le_succ _, Nat.le_refl _, HF.out.2.2.2.1, Nat.le_trans (Nat.le_add_right _ 2) HF.out.2.2.2.2.1, Nat.le_trans (Nat.le_add_right _ 2) HF.out.2.2.2.2.2, by have := HF.out.2.2.2.2.2; omega⟩
end Go.Proofs.YtaolkcbbkanhbaaGreatDoor
