/- The document's Sorted: by insertion. -/
import Derived.Test.YtlodgmmhaolmaaaDoorAhd
import Derived.Test.YtlodgmmhaolmaaaDoorHpT
import Derived.Test.YtlodgmmhaolmaaaDoorHpU
set_option linter.unusedSimpArgs false
set_option linter.unusedVariables false
namespace Go.Proofs.YtlodgmmhaolmaaaDoor
open Go.RowKit
/-- e put in at place p -/
def insE (O : List Ent) (p : Nat) (e : Ent) : List Ent := O.take p ++ e :: O.drop p
theorem atE_ins {O : List Ent} {p j : Nat} {e : Ent} (hp : p ≤ O.length) : atE (insE O p e) j = if j < p then atE O j else if j = p then e else atE O (j - 1) := by
  unfold insE atE
  simp only [List.getD_eq_getElem?_getD]
  have hl : (O.take p).length = p := by rw [List.length_take]; omega
  split
  · rename_i h
    rw [List.getElem?_append_left (by omega), List.getElem?_take, if_pos h]
  · rename_i h
    rw [List.getElem?_append_right (by omega), hl]
    split
    · rename_i h2; subst h2; simp
    · rename_i h2
      obtain ⟨m, rfl⟩ : ∃ m, j = p + (m + 1) := ⟨j - p - 1, by omega⟩
      rw [show p + (m + 1) - p = m + 1 by omega, List.getElem?_cons_succ, List.getElem?_drop]
      rfl
theorem ins_len {O : List Ent} {p : Nat} {e : Ent} (hp : p ≤ O.length) : (insE O p e).length = O.length + 1 := by unfold insE; simp; omega
theorem ins_perm (O : List Ent) (p : Nat) (e : Ent) : (insE O p e).Perm (e :: O) := by
  unfold insE
  refine List.perm_middle.trans (List.Perm.cons _ ?_)
  rw [List.take_append_drop]
/-- moved up by one, from behind down to i -/
structure Shift (O : List Ent) (i : Nat) (M : List Ent) : Prop where
  len : M.length = O.length + 1
  at' : ∀ j, j ≤ O.length → atE M j = atE (O ++ [(0, [])]) (if j ≤ i then j else j - 1)
theorem Shift.start (O : List Ent) : Shift O O.length (O ++ [(0, [])]) := ⟨by simp, fun j hj => by rw [if_pos hj]⟩
theorem Shift.step {O M : List Ent} {m : Nat} (h : Shift O (m + 1) M) (hm : m + 1 ≤ O.length) : Shift O m (M.set (m + 1) (atE M m)) := ⟨by rw [List.length_set]; exact h.len, fun j hj => by
  have h1 := h.at' m (by omega)
  have h2 := h.at' j hj
  have hl := h.len
  rw [atE_set]
  by_cases hjm : j = m + 1
  · subst hjm
    rw [if_pos ⟨rfl, by omega⟩, h1, if_pos (by omega), if_neg (by omega)]
    rfl
  · rw [if_neg (by omega), h2]
    by_cases h3 : j ≤ m
    · rw [if_pos (by omega), if_pos h3]
    · rw [if_neg (by omega), if_neg h3]⟩
theorem atE_app_left {O P : List Ent} {j : Nat} (h : j < O.length) : atE (O ++ P) j = atE O j := by
  unfold atE; rw [List.getD_eq_getElem?_getD, List.getD_eq_getElem?_getD, List.getElem?_append_left h]
theorem Shift.ins {O M : List Ent} {p : Nat} (h : Shift O p M) (hp : p ≤ O.length) (e : Ent) : M.set p e = insE O p e := by
  have hl := h.len
  refine ent_ext (by rw [List.length_set, ins_len hp, hl]) (fun j hj => ?_)
  rw [List.length_set, hl] at hj
  rw [atE_set, atE_ins hp]
  by_cases h1 : p = j
  · subst h1
    rw [if_pos ⟨rfl, by omega⟩, if_neg (by omega), if_pos rfl]
  · rw [if_neg (fun e => h1 e.1), h.at' j (by omega)]
    by_cases h2 : j < p
    · rw [if_pos (by omega), if_pos h2, atE_app_left (by omega)]
    · rw [if_neg (by omega), if_neg h2, if_neg (by omega), atE_app_left (by omega)]
theorem srt_ins {mo : Bool} {O : List Ent} {p : Nat} {e : Ent} (hO : SrtE mo O) (hp : p ≤ O.length) (hb : ∀ j, j < p → ahE mo (atE O j) e = true) (hn : p < O.length → ahE mo (atE O p) e = false) (he : e ∉ O) : SrtE mo (insE O p e) := by
  have hafter : ∀ y ∈ O.drop p, ahE mo e y = true := by
    intro y hy
    have hlt : p < O.length := by
      rcases Nat.lt_or_ge p O.length with h | h
      · exact h
      · rw [List.drop_eq_nil_of_le h] at hy; cases hy
    have h0 : ahE mo e (atE O p) = true := by
      cases hc : ahE mo e (atE O p) with
      | true => rfl
      | false => exact absurd (by rw [ahE_total hc (hn hlt)]; exact atE_mem hlt) he
    have hd : O.drop p = atE O p :: O.drop (p + 1) := by
      rw [List.drop_eq_getElem_cons hlt]
      congr 1
      unfold atE; rw [List.getD_eq_getElem?_getD, List.getElem?_eq_getElem hlt]; rfl
    have hs : SrtE mo (O.drop p) := hO.sublist (List.drop_sublist p O)
    rw [hd] at hs hy
    rcases List.mem_cons.1 hy with rfl | hy
    · exact h0
    · exact ahE_trans h0 ((List.pairwise_cons.1 hs).1 y hy)
  have hbefore : ∀ x ∈ O.take p, ahE mo x e = true := by
    intro x hx
    obtain ⟨j, hj, rfl⟩ := List.getElem_of_mem hx
    have hj' : j < p ∧ j < O.length := by rw [List.length_take] at hj; omega
    have := hb j hj'.1
    unfold atE at this
    rw [List.getD_eq_getElem?_getD, List.getElem?_eq_getElem hj'.2] at this
    simpa using this
  unfold SrtE insE
  refine List.pairwise_append.2 ⟨hO.sublist (List.take_sublist p O), List.pairwise_cons.2 ⟨hafter, hO.sublist (List.drop_sublist p O)⟩, fun x hx y hy => ?_⟩
  rcases List.mem_cons.1 hy with rfl | hy
  · exact hbefore x hx
  · exact ahE_trans (hbefore x hx) (hafter y hy)
/-- rows of one's own, laid since w -/
theorem row_of {w : World} {S n : Nat} {v : Value} {L : List Ent} (h : w.ownsRow S 27 2 v n (entC L)) (hn : L.length = n) : ∃ A cap, v = .slice A n cap ∧ EntRow w A n L ∧ (0 < n → ∃ g, A = some ⟨g, 0, none⟩ ∧ S ≤ g) := by
  rcases Nat.eq_zero_or_pos n with h0 | h0
  · subst h0
    obtain ⟨_, ⟨rfl, _⟩ | ⟨g, cap, cur, rfl, hb, _⟩⟩ := h
    · exact ⟨none, 0, rfl, ⟨hn, fun h => absurd h (by omega)⟩, fun h => absurd h (by omega)⟩
    · exact ⟨_, cap, rfl, ⟨hn, fun h => absurd h (by omega)⟩, fun h => absurd h (by omega)⟩
  · obtain ⟨g, cap, rfl, hge⟩ := own_ge h h0
    refine ⟨_, cap, rfl, ⟨hn, fun _ => ⟨g, 0, rfl, fun i hi => ?_⟩⟩, fun _ => ⟨g, rfl, hge⟩⟩
    have := ent_cells (own_base h) hn.symm (by omega : i < L.length)
    rw [Nat.zero_add]; exact this
structure RIn (w wr : World) (mo : Bool) (L : List Ent) (o : Value) (O : List Ent) (k : Nat) : Prop where
  b : Below w.heap.size w wr
  own : wr.ownsRow w.heap.size 27 2 o k (entC O)
  len : O.length = k
  srt : SrtE mo O
  p : O.Perm (L.take k)
theorem RIn.step {w wr w' : World} {mo : Bool} {L O : List Ent} {o : Value} {k : Nat} (h : RIn w wr mo L o O k) (hb : Below wr.heap.size wr w') : RIn w w' mo L o O k := ⟨h.b.trans (hb.mono h.b.size), own_below h.own hb, h.len, h.srt, h.p⟩
theorem RIn.fresh {w wr : World} {mo : Bool} {L O : List Ent} {o : Value} {k : Nat} (h : RIn w wr mo L o O k) (hN : NoTwice L) (hk : k < L.length) : atE L k ∉ O := fun hm => by
  have h1 := h.p.mem_iff.1 hm
  obtain ⟨j, hj, e⟩ := List.getElem_of_mem h1
  have hj' : j < k ∧ j < L.length := by rw [List.length_take] at hj; omega
  have e2 : atE L j = atE L k := by
    rw [← e]; unfold atE; rw [List.getD_eq_getElem?_getD, List.getElem?_eq_getElem hj'.2]; simp
  have := noTwice_at hN hj'.2 hk (by rw [e2])
  omega
end Go.Proofs.YtlodgmmhaolmaaaDoor
