/- Rows appended to a row of one's own, whatever they are; rows by lists out of one's own rows. -/
import Derived.Test.YtbcajmkmadgbhaaGreatDoorVrB
import Derived.Deep.DeepAppendWide
import Derived.Deep.AppendSrc
import Derived.Deep.Upon
set_option linter.unusedVariables false
namespace Go.Proofs.YtbcajmkmadgbhaaGreatDoor
open Go.RowKit
section
variable {α : Type} {enc : α → List Value}
theorem flat_len {size : Nat} (henc : ∀ x, (enc x).length = size) : ∀ l : List α, (l.flatMap enc).length = l.length * size
  | [] => by simp
  | x :: r => by rw [List.flatMap_cons, List.length_append, henc, flat_len henc r, List.length_cons, Nat.add_mul, Nat.one_mul, Nat.add_comm]
theorem flat_at {size : Nat} (henc : ∀ x, (enc x).length = size) : ∀ (l : List α) (i j : Nat) (x : α) (v : Value), l[i]? = some x → (enc x)[j]? = some v → (l.flatMap enc)[i * size + j]? = some v
  | [], i, j, x, v, hx, _ => by simp at hx
  | y :: r, 0, j, x, v, hx, hv => by
    simp at hx
    subst hx
    have hj := (List.getElem?_eq_some_iff.1 hv).1
    rw [List.flatMap_cons, Nat.zero_mul, Nat.zero_add, List.getElem?_append_left hj]
    exact hv
  | y :: r, i + 1, j, x, v, hx, hv => by
    have h := flat_at henc r i j x v (by simpa using hx) hv
    rw [List.flatMap_cons, List.getElem?_append_right (by rw [henc, Nat.add_mul]; omega), henc]
    rw [show (i + 1) * size + j - size = i * size + j by rw [Nat.add_mul]; omega]
    exact h
theorem flat_inv {size : Nat} (hs : 0 < size) (henc : ∀ x, (enc x).length = size) : ∀ (l : List α) (q : Nat) (v : Value), (l.flatMap enc)[q]? = some v → ∃ (i j : Nat) (x : α), q = i * size + j ∧ l[i]? = some x ∧ (enc x)[j]? = some v
  | [], q, v, h => by simp at h
  | y :: r, q, v, h => by
    rw [List.flatMap_cons] at h
    rcases Nat.lt_or_ge q size with h1 | h1
    · rw [List.getElem?_append_left (by rw [henc]; exact h1)] at h
      exact ⟨0, q, y, by omega, rfl, h⟩
    · rw [List.getElem?_append_right (by rw [henc]; exact h1), henc] at h
      obtain ⟨i, j, x, e, hx, hv⟩ := flat_inv hs henc r (q - size) v h
      exact ⟨i + 1, j, x, by rw [Nat.add_mul]; omega, by simpa using hx, hv⟩
/-- a row's cells, one behind the other -/
theorem RowL.news {size : Nat} {w : World} {b off : Nat} {l : List α} (hs : 0 < size) (henc : ∀ x, (enc x).length = size) (h : RowL size enc w (some ⟨b, off, none⟩) l) (j : Nat) (u : Value) (hj : (l.flatMap enc)[j]? = some u) : w.cell? ((⟨b, off, none⟩ : Addr).add j) = some u := by
  obtain ⟨i, k, x, rfl, hx, hv⟩ := flat_inv hs henc l j u hj
  obtain ⟨b', off', e, hr⟩ := h.row (by have := (List.getElem?_eq_some_iff.1 hx).1; omega)
  injection e with e
  injection e with e1 e2
  subst e1
  subst e2
  rw [Go.WideShapes.add_plain, ← Nat.add_assoc]
  exact hr i x hx k u hv
/-- a row of one's own, by its list -/
theorem RowL.ofOwn {size : Nat} {w : World} {base : Nat} {e : TypeId} {v : Value} {l : List α} (hs : 0 < size) (henc : ∀ x, (enc x).length = size) (h : w.ownsRow base e size v l.length (l.flatMap enc)) : ∃ A c, v = .slice A l.length c ∧ RowL size enc w A l ∧ ∀ b off, A = some ⟨b, off, none⟩ → base ≤ b := by
  obtain ⟨_, ⟨rfl, hn⟩ | ⟨M, cap, cur, rfl, hbM, hg, hnc, hcm, hcs, htk⟩⟩ := id h
  · exact ⟨none, 0, by rw [hn], ⟨fun h => absurd h (by omega), by omega⟩, fun b off e => by cases e⟩
  · refine ⟨_, cap, rfl, ⟨fun _ => ⟨M, 0, rfl, fun i x hx j u hj => ?_⟩, by unfold maxLen at hcm; omega⟩, fun b off e => by cases e; exact hbM⟩
    have hi := (List.getElem?_eq_some_iff.1 hx).1
    have hq := flat_at henc l i j x u hx hj
    have hlt : i * size + j < l.length * size := by rw [← flat_len henc l]; exact (List.getElem?_eq_some_iff.1 hq).1
    rw [Nat.zero_add, h.cellAt _ hlt]
    exact hq
/-- 'append(own, row...)' -/
theorem wpList_app_row {P : Program} (w : World) {ops : Array Oper} {rest : List Oper} {o : Oper} {a : Act} {Q : Exit → Act → World → Prop} (hgd : o.guard = none) (s x : Operand) (t : TypeId)
    (ho : o.op = .call { callee := .builtin .append, args := #[s, x], argTypes := #[t, t] })
    (base : Nat) (e : TypeId) (i : TypeInfo) (z : Value) (size bytes : Nat) (ht : P.underlying t = some (.slice e)) (hi : P.info? e = some i) (hz : i.zero = some z)
    (hsize : i.size = size) (hby : i.bytes = bytes) (hzs : z.cells.size = size) (hsz : 0 < size)
    (v : Value) (n : Nat) (xs : List Value) (hs : a.eval s = v) (hown : w.ownsRow base e size v n xs)
    (A : Option Addr) (l : List α) (c : Nat) (hx : a.eval x = .slice A l.length c) (henc : ∀ x, (enc x).length = size) (hrow : RowL size enc w A l) (h1 : ∀ x, ∀ u ∈ enc x, u.oneCell' = true)
    (h63 : n + l.length ≤ maxLen) (hbytes : ((n + l.length) + (n + l.length) / 4 + 192) * bytes ≤ 281474976710656) (hbase : base ≤ w.heap.size)
    (h : ∀ v' w', w'.ownsRow base e size v' (n + l.length) (xs ++ l.flatMap enc) → w.grownBy w' v.ownBlock → wpList P ops Q rest (a.put o.dst v') w') : wpList P ops Q (o :: rest) a w := by
  rcases Nat.eq_zero_or_pos l.length with h0 | h0
  · have hl : l = [] := List.length_eq_zero_iff.1 h0
    subst hl
    have h' := h v w (by simpa using hown) ⟨rfl, rfl, rfl, Nat.le_refl _, fun _ _ _ => rfl⟩
    obtain ⟨ao, sl, sc, hv, hle⟩ : ∃ ao sl sc, v = .slice ao sl sc ∧ sl ≤ sc := by
      obtain ⟨_, ⟨rfl, _⟩ | ⟨M, cap, cur, rfl, _, _, hnc, _⟩⟩ := hown
      · exact ⟨none, 0, 0, rfl, Nat.le_refl _⟩
      · exact ⟨_, _, _, rfl, hnc⟩
    refine wpList_plain hgd fun K hK => ?_
    have hsrc : Src P i.size t (.slice A 0 c) 0 [] w := by
      cases A with
      | none => exact Src.ofNil w ht c
      | some ad => exact Src.ofSlice w ht ad 0 c [] (by simp) (fun j u hj => by simp at hj) (fun u hu => by cases hu)
    have hrun := run_append_nothing (P := P) w t t o.type e i ht hi ao sl sc hle (.slice A 0 c) hsrc
    unfold Oper.wp execOp
    rw [← hv] at hrun
    simp only [List.length_nil] at hx
    simp only [ho, resolve, invoke, builtin, Sem.run_bind, Sem.run_pure, Result.andThen_ok, List.map_toArray, List.map_cons, List.map_nil, hs, hx, hrun]
    exact hK _ _ h'
  · obtain ⟨b, off, rfl, hr⟩ := hrow.row h0
    refine wpList_append_own_wide w hgd s x t ho base e i z size bytes ht hi hz hsize hby hzs hsz v n xs hs hown ⟨b, off, none⟩ l.length c (l.flatMap enc) hx (flat_len henc l) (fun j u hj => RowL.news hsz henc hrow j u hj) (fun u hu => ?_) h63 hbytes hbase (fun v' w' h2 h3 _ => h v' w' h2 h3)
    obtain ⟨y, _, hy⟩ := List.mem_flatMap.1 hu
    exact h1 y u hy
end
end Go.Proofs.YtbcajmkmadgbhaaGreatDoor
