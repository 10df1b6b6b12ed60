/- The heap: plain law of Take's map; Turn, Len, Moves, Top, Get. -/
import Derived.Test.YtaolkcbbkanhbaaGreatDoorHpG
set_option linter.unusedSimpArgs false
set_option linter.unusedVariables false
namespace Go.Proofs.YtaolkcbbkanhbaaGreatDoor
open Go.RowKit
theorem atE_drop {L : List Ent} {i : Nat} (h : i < L.length - 1) : atE L.dropLast i = atE L i := by
  unfold atE
  rw [List.getD_eq_getElem?_getD, List.getD_eq_getElem?_getD, List.getElem?_dropLast, if_pos h]
theorem noTwice_drop {L : List Ent} (h : NoTwice L) : NoTwice L.dropLast := h.sublist (List.dropLast_sublist L)
theorem ent_ext {L M : List Ent} (h : L.length = M.length) (hi : ∀ i, i < L.length → atE L i = atE M i) : L = M := by
  apply List.ext_getElem h
  intro i h1 h2
  have := hi i h1
  unfold atE at this
  rwa [List.getD_eq_getElem?_getD, List.getD_eq_getElem?_getD, List.getElem?_eq_getElem h1, List.getElem?_eq_getElem h2] at this
theorem sw_drop {L : List Ent} {i n : Nat} (hn : L.length = n + 1) (hi : i < n) : (swE L i n).dropLast = L.dropLast.set i (atE L n) := by
  have hl : (swE L i n).length = n + 1 := by rw [swE_len, hn]
  apply ent_ext
  · simp [hl, hn]
  · intro j hj
    have hj' : j < n := by simpa [hl] using hj
    rw [atE_drop (by omega), atE_sw (by omega) (by omega), atE_set, if_neg (by omega)]
    by_cases h : j = i
    · subst h
      rw [if_pos rfl, if_pos ⟨rfl, by simp [hn]; omega⟩]
    · rw [if_neg h, if_neg (by omega), atE_drop (by omega)]
theorem places_drop {L : List Ent} {n : Nat} (hN : NoTwice L) (hn : L.length = n + 1) (l : Lit) : upd (placesF L) (.string (atE L n).2) none l = placesF L.dropLast l := by
  by_cases h : l = .string (atE L n).2
  · subst h
    rw [upd_same]
    show _ = Option.map _ _
    cases hf : findE L.dropLast (atE L n).2 with
    | none => rfl
    | some j =>
      obtain ⟨h1, h2⟩ := findE_some hf
      simp [hn] at h1
      rw [atE_drop (by omega)] at h2
      have := noTwice_at hN (by omega) (by omega) h2
      omega
  · rw [upd_other _ _ h]
    cases l with
    | string s =>
      show Option.map _ _ = Option.map _ _
      congr 1
      have hs : s ≠ (atE L n).2 := fun e => h (by rw [e])
      apply Option.ext
      intro j
      rw [findE_iff hN, findE_iff (noTwice_drop hN)]
      simp only [List.length_dropLast, hn, Nat.add_sub_cancel]
      constructor
      · rintro ⟨h1, h2⟩
        have : j ≠ n := by rintro rfl; exact hs h2.symm
        exact ⟨by omega, by rw [atE_drop (by omega)]; exact h2⟩
      · rintro ⟨h1, h2⟩
        rw [atE_drop (by omega)] at h2
        exact ⟨by omega, h2⟩
    | _ => rfl
theorem noTwice_take {L : List Ent} {i n : Nat} (hN : NoTwice L) (hn : L.length = n + 1) (hi : i < n) : NoTwice (L.dropLast.set i (atE L n)) := by
  rw [← sw_drop hn hi]; exact noTwice_drop (hN.perm (swE_perm (by omega) (by omega)))
theorem places_take {L : List Ent} {i n : Nat} (hN : NoTwice L) (hn : L.length = n + 1) (hi : i < n) (l : Lit) :
    upd (upd (placesF L) (.string (atE L i).2) none) (.string (atE L n).2) (some (.int .i64 i)) l = placesF (L.dropLast.set i (atE L n)) l := by
  have hN' : NoTwice (swE L i n) := hN.perm (swE_perm (by omega) (by omega))
  have a1 : atE (swE L i n) n = atE L i := by rw [atE_sw (by omega) (by omega), if_pos rfl]
  have a2 : atE (swE L i n) i = atE L n := by rw [atE_sw (by omega) (by omega), if_neg (by omega), if_pos rfl]
  rw [← sw_drop hn hi, ← places_drop hN' (by rw [swE_len, hn]), a1]
  have hsw := places_sw hN (show i < L.length by omega) (show n < L.length by omega)
  have hne : (Lit.string (atE L n).2) ≠ .string (atE L i).2 := by
    intro e
    injection e with e
    have := noTwice_at hN (by omega) (by omega) e
    omega
  by_cases h1 : l = .string (atE L n).2
  · subst h1
    rw [upd_same, upd_other _ _ hne, ← hsw, upd_other _ _ (by rw [a1]; exact hne), a2, upd_same]
  · rw [upd_other _ _ h1]
    by_cases h2 : l = .string (atE L i).2
    · subst h2; rw [upd_same, upd_same]
    · rw [upd_other _ _ h2, upd_other _ _ h2, ← hsw, upd_other _ _ (by rw [a1]; exact h2), upd_other _ _ (by rw [a2]; exact h1)]
/-- results: an entry out of its cell, and a slot -/
theorem results_ent {fn : Func} {u p : Tmp} (h : fn.results = #[.cell p 117, .tmp u]) (tmps : Array Value) (w : World) (R : Nat) (r : Int) (s : List UInt8) (x : Value) (hu : tmps[u]?.getD undef = x) (hp : tmps[p]?.getD undef = .pointer (some ⟨R, 0, none⟩)) (h0 : w.cell? ⟨R, 0, none⟩ = some (.int .i64 r)) (h1 : w.cell? ⟨R, 1, none⟩ = some (strV s)) :
    (results fn tmps).run Tryz.prog w = .ok (.tuple #[.agg #[.int .i64 r, strV s], x]) w := by
  simp [results, h, go_sem, hp, hu, h0, h1]
theorem set2_cells {w : World} {R : Nat} {T : TypeId} {a b : Value} (h : w.heap[R]? = some (.cells #[a, b] T (0, 0))) (x y : Value) :
    ((w.setCell ⟨R, 0, none⟩ x).setCell ⟨R, 1, none⟩ y).cell? ⟨R, 0, none⟩ = some x ∧ ((w.setCell ⟨R, 0, none⟩ x).setCell ⟨R, 1, none⟩ y).cell? ⟨R, 1, none⟩ = some y := by
  have h1 := cells_set (cells_set h 0 x) 1 y
  exact ⟨cells_at h1 0 _ rfl, cells_at h1 1 _ rfl⟩
theorem set2_below (w : World) (R : Nat) (x y : Value) {B : Nat} {w0 : World} (hb : Below B w0 w) (h : B ≤ R) : Below B w0 ((w.setCell ⟨R, 0, none⟩ x).setCell ⟨R, 1, none⟩ y) := (hb.setCell h _).setCell h _
set_option maxHeartbeats 2000000 in
set_option maxRecDepth 100000 in
theorem top_none (hb mb : Nat) (v : Value) (mo : Bool) (mv : Nat) (w : World) (hH : HeapAt w hb mb v [] mo mv) :
    Calls Tryz.prog 123 #[.pointer (some ⟨hb, 0, none⟩)] w fun e w' => e = .returned (.tuple #[.agg #[.int .i64 0, strV []], .bool false]) ∧ Below w.heap.size w w' := by
  obtain ⟨A, cap, rfl, _⟩ := hH.row.form
  have c0 := (hH.below (below1 w (.cells #[.int .i64 0, .string ⟨#[]⟩] 117))).cell0
  simp only [List.length_nil] at c0
  clear hH
  go_enter Tryz.func123, Tryz.ntmps123
  go_wp2
  exact bodyPost_ret (results_ent rfl _ _ w.heap.size 0 [] (.bool false) rfl rfl (box_cells w _ _ _).1 (box_cells w _ _ _).2) rfl ⟨rfl, below1 _ _⟩
set_option maxHeartbeats 2000000 in
set_option maxRecDepth 100000 in
theorem top_some (hb mb : Nat) (v : Value) (L : List Ent) (mo : Bool) (mv : Nat) (w : World) (hH : HeapAt w hb mb v L mo mv) (hL : 0 < L.length) :
    Calls Tryz.prog 123 #[.pointer (some ⟨hb, 0, none⟩)] w fun e w' => e = .returned (.tuple #[(.agg #[.int .i64 (atE L 0).1, strV (atE L 0).2]), .bool true]) ∧ Below w.heap.size w w' := by
  have h1 := hH.below (below1 w (.cells #[.int .i64 0, .string ⟨#[]⟩] 117))
  obtain ⟨g, cap, rfl, ho⟩ := h1.row.some hL
  have c0 := h1.cell0
  obtain ⟨e0, e1⟩ := ent_cells ho rfl hL
  obtain ⟨n, hn⟩ : ∃ n, L.length = n + 1 := ⟨L.length - 1, by omega⟩
  rw [hn] at c0
  have z1 : ((n : Int) + 1 == 0) = false := by simp; omega
  have z0 : (0 : Int) < (n : Int) + 1 := by omega
  rw [Nat.zero_mul] at e0 e1
  generalize (atE L 0).1 = r at *
  generalize (atE L 0).2 = s at *
  clear hH h1 ho hL hn
  go_enter Tryz.func123, Tryz.ntmps123
  go_wp2
  exact bodyPost_ret (results_ent rfl _ _ w.heap.size r s (.bool true) rfl rfl (box_cells w _ _ _).1 (box_cells w _ _ _).2) rfl ⟨rfl, below1 _ _⟩
end Go.Proofs.YtaolkcbbkanhbaaGreatDoor
