/- A row that is its holder's own, of any kind of element; appended to, written into. weirmem.Book, of any kind: rows apart from each other; marked; grown. weirmem.Book, of any kind: what stays while the book is filled. -/
import Derived.Test.YtbaopcpmmdmomaaGreatDoorBas
import Derived.Deep.AppendSrc
import Derived.Laws.CopyOwn
import Derived.Laws.OwnMore
set_option linter.unusedVariables false
set_option linter.unusedSimpArgs false
namespace Go.Proofs.YtbaopcpmmdmomaaGreatDoor
section
open Go.RowKit
/-- the block of a slice with room -/
def gB : Value → Option Nat
  | .slice (some a) _ (_ + 1) => some a.block
  | _ => none
theorem gB_pos {g n cap : Nat} (h : 0 < cap) : gB (.slice (some ⟨g, 0, none⟩) n cap) = some g := by cases cap with | zero => omega | succ c => rfl
/-- cells written one behind the other -/
def setAll (w : World) (g o : Nat) : List Value → World
  | [] => w
  | u :: r => setAll (w.setCell ⟨g, o, none⟩ u) g (o + 1) r
theorem setAll_turned (g : Nat) : ∀ (us : List Value) (w : World) (o : Nat), Turned [g] w (setAll w g o us)
  | [], w, o => Turned.refl _ _
  | u :: r, w, o => (Turned.set g o u).trans (setAll_turned g r _ _)
theorem setAll_block {g : Nat} {T : TypeId} : ∀ (us : List Value) (w : World) (o : Nat) (cs : Array Value), w.heap[g]? = some (.cells cs T (0, 0)) → o + us.length ≤ cs.size →
    ∃ cs', (setAll w g o us).heap[g]? = some (.cells cs' T (0, 0)) ∧ cs'.size = cs.size ∧ ∀ i, cs'[i]? = if o ≤ i ∧ i < o + us.length then us[i - o]? else cs[i]?
  | [], w, o, cs, h, _ => ⟨cs, h, rfl, fun i => by rw [if_neg (by simp only [List.length_nil]; omega)]⟩
  | u :: r, w, o, cs, h, hl => by
    have h1 := cells_set h o u
    simp only [List.length_cons] at hl
    obtain ⟨cs', h2, h3, h4⟩ := setAll_block r _ (o + 1) _ h1 (by rw [Array.size_setIfInBounds]; omega)
    refine ⟨cs', h2, by rw [h3, Array.size_setIfInBounds], fun i => ?_⟩
    rw [h4 i]
    simp only [List.length_cons]
    by_cases hi : i = o
    · subst hi
      rw [if_neg (by omega), if_pos (by omega), Nat.sub_self, Array.getElem?_setIfInBounds_self_of_lt (by omega)]
      rfl
    · by_cases h5 : o + 1 ≤ i ∧ i < o + 1 + r.length
      · rw [if_pos h5, if_pos (by omega)]
        obtain ⟨d, hd⟩ : ∃ d, i - o = d + 1 := ⟨i - o - 1, by omega⟩
        rw [hd, show i - (o + 1) = d by omega]
        rfl
      · rw [if_neg h5, if_neg (by omega), Array.getElem?_setIfInBounds_ne (by omega)]
section
variable {α : Type} {enc : α → List Value} {k : Nat} {e : TypeId}
theorem fl_len (henc : ∀ x, (enc x).length = k) : ∀ l : List α, (l.flatMap enc).length = l.length * k
  | [] => by simp
  | x :: r => by rw [List.flatMap_cons, List.length_append, henc, fl_len henc r, List.length_cons, Nat.add_mul, Nat.one_mul, Nat.add_comm]
theorem fl_at (henc : ∀ x, (enc x).length = k) : ∀ (l : List α) (i j : Nat) (x : α) (u : Value), l[i]? = some x → (enc x)[j]? = some u → (l.flatMap enc)[i * k + j]? = some u
  | [], i, j, x, u, hx, _ => by simp at hx
  | y :: r, 0, j, x, u, hx, hu => by
    simp at hx
    subst hx
    rw [List.flatMap_cons, Nat.zero_mul, Nat.zero_add, List.getElem?_append_left (List.getElem?_eq_some_iff.1 hu).1]
    exact hu
  | y :: r, i + 1, j, x, u, hx, hu => by
    have h := fl_at henc r i j x u (by simpa using hx) hu
    rw [List.flatMap_cons, List.getElem?_append_right (by rw [henc, Nat.add_mul]; omega), henc, show (i + 1) * k + j - k = i * k + j by rw [Nat.add_mul]; omega]
    exact h
def RowG (enc : α → List Value) (k : Nat) (e : TypeId) (w : World) (v : Value) (L : List α) : Prop :=
  (∃ g cap cur, 0 < cap ∧ v = .slice (some ⟨g, 0, none⟩) L.length cap ∧ w.heap[g]? = some (.cells cur e (0, 0)) ∧ L.length ≤ cap ∧ cap ≤ maxLen ∧ cap * k ≤ cur.size ∧ cur.toList.take (L.length * k) = L.flatMap enc) ∨ (L = [] ∧ ∃ A, v = .slice A 0 0)
theorem RowG.kept {w w' : World} {v : Value} {L : List α} {S : List Nat} (h : RowG enc k e w v L) (ht : Turned S w w') (hS : ∀ x ∈ S, gB v ≠ some x) : RowG enc k e w' v L := by
  rcases h with ⟨g, cap, cur, h0, rfl, hg, r⟩ | h
  · exact Or.inl ⟨g, cap, cur, h0, rfl, by rw [ht.block g (block_lt hg) (fun e => hS g e (gB_pos h0))]; exact hg, r⟩
  · exact Or.inr h
theorem RowG.lt {w : World} {v : Value} {L : List α} (h : RowG enc k e w v L) {g : Nat} (hg : gB v = some g) : g < w.heap.size := by
  rcases h with ⟨g', cap, cur, h0, rfl, hh, _⟩ | ⟨_, A, rfl⟩
  · rw [gB_pos h0] at hg
    injection hg with hg
    rw [← hg]; exact block_lt hh
  · cases A <;> cases hg
theorem RowG.form {w : World} {v : Value} {L : List α} (h : RowG enc k e w v L) : ∃ A cap, v = .slice A L.length cap ∧ L.length ≤ cap := by
  rcases h with ⟨g, cap, cur, _, hv, _, hc, _⟩ | ⟨h, A, e⟩
  · exact ⟨_, cap, hv, hc⟩
  · exact ⟨A, 0, by rw [h]; exact e, by rw [h]; exact Nat.le_refl _⟩
theorem RowG.some {w : World} {v : Value} {L : List α} (h : RowG enc k e w v L) (henc : ∀ x, (enc x).length = k) (hL : 0 < L.length) : ∃ g cap, 0 < cap ∧ v = .slice (Option.some ⟨g, 0, none⟩) L.length cap ∧ L.length ≤ cap ∧ cap ≤ maxLen ∧
    (∀ (i j : Nat) (x : α) (u : Value), L[i]? = Option.some x → (enc x)[j]? = Option.some u → w.cell? ⟨g, i * k + j, none⟩ = Option.some u) ∧ ∀ o, w.frozen? ⟨g, o, none⟩ = false := by
  rcases h with ⟨g, cap, cur, h0, hv, hg, hc, hm, hs, ht⟩ | ⟨h, _⟩
  · refine ⟨g, cap, h0, hv, hc, hm, fun i j x u hx hu => ?_, fun o => cells_free hg o⟩
    have h1 := fl_at henc L i j x u hx hu
    have h2 : i * k + j < L.length * k := by rw [← fl_len henc L]; exact (List.getElem?_eq_some_iff.1 h1).1
    rw [cell_of_row w g _ cur e (0, 0) hg]
    rw [← ht, List.getElem?_take, if_pos h2] at h1
    simpa using h1
  · rw [h] at hL; simp at hL
theorem fl_set (henc : ∀ x, (enc x).length = k) (hk : 0 < k) (l : List α) (i : Nat) (y : α) (hi : i < l.length) (q : Nat) : ((l.set i y).flatMap enc)[q]? = if i * k ≤ q ∧ q < i * k + k then (enc y)[q - i * k]? else (l.flatMap enc)[q]? := by
  have hlen : ((l.set i y).flatMap enc).length = (l.flatMap enc).length := by rw [fl_len henc, fl_len henc, List.length_set]
  rcases Nat.lt_or_ge q (l.length * k) with hq | hq
  · have hdiv : q / k < l.length := (Nat.div_lt_iff_lt_mul hk).2 hq
    have hmod := Nat.mod_lt q hk
    have hqe : q = (q / k) * k + q % k := by have := Nat.div_add_mod q k; rw [Nat.mul_comm] at this; omega
    obtain ⟨a, ha⟩ : ∃ a, q / k = a := ⟨_, rfl⟩
    obtain ⟨b, hb⟩ : ∃ b, q % k = b := ⟨_, rfl⟩
    rw [ha] at hdiv hqe
    rw [hb] at hmod hqe
    by_cases hai : a = i
    · subst hai
      have hx : (l.set a y)[a]? = Option.some y := List.getElem?_set_self hi
      obtain ⟨u, hu⟩ : ∃ u, (enc y)[b]? = Option.some u := ⟨_, List.getElem?_eq_getElem (by rw [henc]; exact hmod)⟩
      have h1 := fl_at henc (l.set a y) a b y u hx hu
      rw [hqe, h1, if_pos (by omega), show a * k + b - a * k = b by omega, hu]
    · obtain ⟨x0, hx⟩ : ∃ x0, l[a]? = Option.some x0 := ⟨_, List.getElem?_eq_getElem hdiv⟩
      have hx2 : (l.set i y)[a]? = Option.some x0 := by rw [List.getElem?_set_ne (fun e => hai e.symm)]; exact hx
      obtain ⟨u, hu⟩ : ∃ u, (enc x0)[b]? = Option.some u := ⟨_, List.getElem?_eq_getElem (by rw [henc]; exact hmod)⟩
      have h1 := fl_at henc _ a b _ u hx2 hu
      have h2 := fl_at henc _ a b _ u hx hu
      rw [hqe, h1, h2, if_neg]
      rcases Nat.lt_or_gt_of_ne hai with h | h
      · have : (a + 1) * k ≤ i * k := Nat.mul_le_mul_right k h
        rw [Nat.add_mul] at this; omega
      · have : (i + 1) * k ≤ a * k := Nat.mul_le_mul_right k h
        rw [Nat.add_mul] at this; omega
  · have : (i + 1) * k ≤ l.length * k := Nat.mul_le_mul_right k hi
    rw [Nat.add_mul] at this
    rw [List.getElem?_eq_none (by rw [hlen, fl_len henc]; exact hq), if_neg (by omega), List.getElem?_eq_none (by rw [fl_len henc]; exact hq)]
/-- an element written over -/
theorem RowG.set {w : World} {g n cap : Nat} {L : List α} (h : RowG enc k e w (.slice (Option.some ⟨g, 0, none⟩) n cap) L) (henc : ∀ x, (enc x).length = k) (hk : 0 < k) (i : Nat) (hi : i < L.length) (y : α) : RowG enc k e (setAll w g (i * k) (enc y)) (.slice (Option.some ⟨g, 0, none⟩) n cap) (L.set i y) := by
  rcases h with ⟨g', cap', cur, h0, hv, hg, hc, hm, hs, ht⟩ | ⟨h, _⟩
  · injection hv with e1 e2 e3
    injection e1 with e1
    injection e1 with e1
    subst e1 e2 e3
    have hb : (i + 1) * k ≤ L.length * k := Nat.mul_le_mul_right k hi
    have hb2 : L.length * k ≤ cap * k := Nat.mul_le_mul_right k hc
    rw [Nat.add_mul] at hb
    obtain ⟨cs', h1, h2, h3⟩ := setAll_block (enc y) w (i * k) cur hg (by rw [henc]; omega)
    refine Or.inl ⟨g, cap, cs', h0, by rw [List.length_set], h1, by rw [List.length_set]; exact hc, hm, by rw [h2]; exact hs, ?_⟩
    apply List.ext_getElem?
    intro q
    rw [fl_set henc hk L i y hi q, List.getElem?_take, List.length_set]
    by_cases hq : q < L.length * k
    · rw [if_pos hq]
      have hcs := h3 q
      rw [Array.getElem?_toList, hcs, henc]
      split
      · rfl
      · have h4 : (cur.toList.take (L.length * k))[q]? = (L.flatMap enc)[q]? := by rw [ht]
        rw [List.getElem?_take, if_pos hq] at h4
        rw [← h4]; simp
    · rw [if_neg hq, if_neg (by omega), List.getElem?_eq_none (by rw [fl_len henc]; omega)]
  · rw [h] at hi; simp at hi
/-- one element more -/
theorem RowG.push {P : Program} {w : World} {bytes : Nat} {v z : Value} {L : List α} {i : TypeInfo} (t ty : TypeId) (ht : P.underlying t = Option.some (.slice e)) (hi : P.info? e = Option.some i) (hz : i.zero = Option.some z) (hsize : i.size = k) (hby : i.bytes = bytes) (hzs : z.cells.size = k) (henc : ∀ x, (enc x).length = k)
    (h : RowG enc k e w v L) (ad : Addr) (c : Nat) (x : α) (hnews : ∀ j u, (enc x)[j]? = Option.some u → w.cell? (ad.add j) = Option.some u) (hone : ∀ u ∈ enc x, u.oneCell' = true) (h63 : L.length + 1 ≤ maxLen) (hbytes : (L.length + 1) * bytes ≤ 140737488355328) :
    ∃ g cap w', (Builtin.append_ #[t, t] ty #[v, .slice (Option.some ad) 1 c]).run P w = .ok (.slice (Option.some ⟨g, 0, none⟩) (L.length + 1) cap) w' ∧ 0 < cap ∧ RowG enc k e w' (.slice (Option.some ⟨g, 0, none⟩) (L.length + 1) cap) (L ++ [x]) ∧ ((gB v = Option.some g ∧ w.grownBy w' (Option.some g)) ∨ (w.heap.size ≤ g ∧ w.grownBy w' none)) := by
  subst hby
  have hs : Src P i.size t (.slice (Option.some ad) 1 c) 1 (enc x) w := Src.ofSlice w ht ad 1 c (enc x) (by rw [hsize, henc, Nat.one_mul]) hnews hone
  have hfl : (L ++ [x]).flatMap enc = L.flatMap enc ++ enc x := by simp
  have hll : (L.flatMap enc ++ enc x).length = (L.length + 1) * k := by rw [← hfl, fl_len henc]; simp
  have grown : ∀ (old : Nat), RowG enc k e (w.drew.alloc (.cells ((L.flatMap enc ++ enc x).toArray ++ Builtin.zeroCells z.cells (grownCap w (L.length + 1) old e - (L.length + 1))) e))
        (.slice (Option.some ⟨w.heap.size, 0, none⟩) (L.length + 1) (grownCap w (L.length + 1) old e)) (L ++ [x]) ∧ 0 < grownCap w (L.length + 1) old e := by
    intro old
    have hge := grownCap_ge w (L.length + 1) old e
    have hcm : grownCap w (L.length + 1) old e ≤ maxLen := grownCap_le_maxLen w (L.length + 1) old e h63
    refine ⟨Or.inl ⟨w.heap.size, _, _, by omega, by rw [List.length_append]; rfl, heap_alloc_new w.drew _, by rw [List.length_append]; exact hge, hcm, ?_, ?_⟩, by omega⟩
    · simp only [Array.size_append, List.size_toArray, size_zeroCells, hzs]
      rw [hll, ← Nat.add_mul]
      exact Nat.mul_le_mul_right k (by omega)
    · simp only [Array.toList_append]
      rw [hfl, List.length_append, show (L.length + [x].length) * k = (L.flatMap enc ++ enc x).length by rw [hll]; rfl, List.take_left]
  have hgb : ∀ (o : Obj), w.grownBy (w.drew.alloc o) none := fun o => ⟨rfl, rfl, rfl, by simp, fun k hk _ => Below.heap_alloc w.drew o k hk⟩
  rcases h with ⟨g, cap, cur, h0, rfl, h3, h4, h5, h6, h7⟩ | ⟨rfl, A, rfl⟩
  · by_cases hroom : L.length + 1 ≤ cap
    · have hcap : (L.length + 1) * k ≤ cap * k := Nat.mul_le_mul_right k hroom
      have hmm : (L.length + 1) * k = L.length * k + k := by rw [Nat.add_mul, Nat.one_mul]
      have hr := run_append_room (P := P) w t ty e i ht hi g L.length cap cur h3 ad 1 c (enc x) (by rw [hsize, henc, Nat.one_mul]) hnews hone hroom (by rw [hsize, henc]; omega)
      rw [hsize] at hr
      refine ⟨g, cap, _, hr, h0, Or.inl ⟨g, cap, _, h0, by rw [List.length_append]; rfl, setRow_heap w g cur _ e _ h3, by rw [List.length_append]; exact hroom, h5, ?_, ?_⟩, Or.inl ⟨gB_pos h0, ⟨rfl, rfl, rfl, by simp, fun j _ hj => setRow_other w g j _ (fun e => hj (by rw [e]))⟩⟩⟩
      · simp only [List.size_toArray, List.length_append, List.length_take, List.length_drop, Array.length_toList, henc]
        omega
      · show ((cur.toList.take (L.length * k) ++ enc x ++ cur.toList.drop (L.length * k + (enc x).length))).take ((L ++ [x]).length * k) = _
        rw [h7, hfl, List.length_append, show (L.length + [x].length) * k = (L.flatMap enc ++ enc x).length by rw [hll]; rfl, List.take_left]
    · have hold : (Builtin.firstCells i.size L.length (.slice (Option.some ⟨g, 0, none⟩) L.length cap)).run P w.drew = .ok (L.flatMap enc).toArray w.drew := by
        refine run_firstCells_some (P := P) w.drew i.size L.length ⟨g, 0, none⟩ L.length cap (L.flatMap enc) (by rw [hsize, fl_len henc]) (fun j u hj => ?_)
        have hj' := (List.getElem?_eq_some_iff.1 hj).1
        have hadd : (⟨g, 0, none⟩ : Addr).add j = ⟨g, j, none⟩ := by unfold Addr.add; split <;> simp_all
        rw [hadd]
        show w.cell? ⟨g, j, none⟩ = _
        rw [cell_of_row w g j cur e (0, 0) h3]
        rw [fl_len henc] at hj'
        rw [← h7, List.getElem?_take, if_pos hj'] at hj
        simpa using hj
      have hr := run_append_grow_src (P := P) (w := w) t t ty e i z ht hi hz (Option.some ⟨g, 0, none⟩) L.length cap (L.flatMap enc) hold (.slice (Option.some ad) 1 c) 1 (enc x) hs (by omega) (by simp only [maxLen] at h63; omega) (growslice_fits (by omega) hbytes)
      exact ⟨_, _, _, hr, (grown cap).2, (grown cap).1, Or.inr ⟨Nat.le_refl _, hgb _⟩⟩
  · have hold : (Builtin.firstCells i.size 0 (.slice A 0 0)).run P w.drew = .ok (([] : List α).flatMap enc).toArray w.drew := by
      cases A with
      | none => simp [Builtin.firstCells, loadCells, loadCellsFrom]
      | some a => exact run_firstCells_some (P := P) w.drew i.size 0 a 0 0 [] (by simp) (fun j u hj => by simp at hj)
    have hr := run_append_grow_src (P := P) (w := w) t t ty e i z ht hi hz A 0 0 (([] : List α).flatMap enc) hold (.slice (Option.some ad) 1 c) 1 (enc x) hs (by omega) (by omega) (growslice_fits (by omega) (by simpa using hbytes))
    exact ⟨_, _, _, hr, (grown 0).2, (grown 0).1, Or.inr ⟨Nat.le_refl _, hgb _⟩⟩
theorem wpList_row_push {P : Program} {ops : Array Oper} {rest : List Oper} {o : Oper} {a : Act} {Q : Exit → Act → World → Prop} {w : World} {bytes : Nat} {v z : Value} {L : List α} {i : TypeInfo} (hgd : o.guard = none) (s y : Operand) (t : TypeId)
    (ho : o.op = .call { callee := .builtin .append, args := #[s, y], argTypes := #[t, t] }) (ht : P.underlying t = Option.some (.slice e)) (hi : P.info? e = Option.some i) (hz : i.zero = Option.some z) (hsize : i.size = k) (hby : i.bytes = bytes) (hzs : z.cells.size = k) (henc : ∀ x, (enc x).length = k)
    (hs : a.eval s = v) (h : RowG enc k e w v L) (n : Nat) (hn : L.length = n) (ad : Addr) (c : Nat) (x : α) (hy : a.eval y = .slice (Option.some ad) 1 c) (hnews : ∀ j u, (enc x)[j]? = Option.some u → w.cell? (ad.add j) = Option.some u) (hone : ∀ u ∈ enc x, u.oneCell' = true) (h63 : n + 1 ≤ maxLen) (hbytes : (n + 1) * bytes ≤ 140737488355328)
    (hK : ∀ g cap w', 0 < cap → RowG enc k e w' (.slice (Option.some ⟨g, 0, none⟩) (n + 1) cap) (L ++ [x]) → ((gB v = Option.some g ∧ w.grownBy w' (Option.some g)) ∨ (w.heap.size ≤ g ∧ w.grownBy w' none)) → wpList P ops Q rest (a.put o.dst (.slice (Option.some ⟨g, 0, none⟩) (n + 1) cap)) w') : wpList P ops Q (o :: rest) a w := by
  subst hn
  refine wpList_plain hgd fun K hK' => ?_
  obtain ⟨g, cap, w', hrun, h1, h2, h3⟩ := h.push (P := P) t o.type ht hi hz hsize hby hzs henc ad c x hnews hone h63 hbytes
  unfold Oper.wp execOp
  simp only [ho, resolve, invoke, builtin, Sem.run_bind, Sem.run_pure, Result.andThen_ok, List.map_toArray, List.map_cons, List.map_nil, hs, hy, hrun]
  exact hK' _ _ (hK g cap w' h1 h2 h3)
/-- out of a row of one's own -/
theorem RowG.ofOwn {w : World} {base n : Nat} {v : Value} {L : List α} (h : w.ownsRow base e k v n (L.flatMap enc)) (hn : L.length = n) : RowG enc k e w v L ∧ ∀ g, gB v = Option.some g → base ≤ g := by
  subst hn
  obtain ⟨h1, ⟨rfl, h0⟩ | ⟨g, cap, cur, rfl, hb, hg, hc, hm, hs, ht⟩⟩ := h
  · exact ⟨Or.inr ⟨List.length_eq_zero_iff.1 h0, none, rfl⟩, fun g e => by cases e⟩
  · rcases Nat.eq_zero_or_pos cap with h0 | h0
    · subst h0
      have hl : L = [] := List.length_eq_zero_iff.1 (by omega)
      subst hl
      exact ⟨Or.inr ⟨rfl, _, rfl⟩, fun g e => by cases e⟩
    · exact ⟨Or.inl ⟨g, cap, cur, h0, rfl, hg, hc, hm, by omega, ht⟩, fun g' e => by rw [gB_pos h0] at e; injection e with e; omega⟩
end
end
section
namespace Bk
open Go.RowKit
/-- a row of slices, as cells -/
abbrev SlE := Option Addr × Nat × Nat
def slV (x : SlE) : Value := .slice x.1 x.2.1 x.2.2
def slC (xs : List SlE) : List Value := xs.map slV
def xAt (xs : List SlE) (i : Nat) : SlE := xs.getD i (none, 0, 0)
abbrev xB (xs : List SlE) (i : Nat) : Option Nat := gB (slV (xAt xs i))
theorem xAt_snoc (xs : List SlE) (x : SlE) (i : Nat) : xAt (xs ++ [x]) i = if i < xs.length then xAt xs i else if i = xs.length then x else (none, 0, 0) := by
  unfold xAt
  rw [List.getD_eq_getElem?_getD, List.getD_eq_getElem?_getD]
  split
  · rw [List.getElem?_append_left (by assumption)]
  · rw [List.getElem?_append_right (by omega)]
    split
    · rename_i h; subst h; simp
    · have : i - xs.length ≠ 0 := by omega
      cases h : i - xs.length with
      | zero => omega
      | succ n => simp
theorem slC_at (xs : List SlE) (i : Nat) (h : i < xs.length) : (slC xs)[i]? = some (slV (xAt xs i)) := by
  unfold slC xAt
  rw [List.getElem?_map, List.getD_eq_getElem?_getD, List.getElem?_eq_getElem h]
  rfl
theorem slV_one (w : World) (x : SlE) (T : TypeId) : ∀ (j : Nat) (u : Value), [slV x][j]? = some u → (w.alloc (.cells #[slV x] T)).cell? ((⟨w.heap.size, 0, none⟩ : Addr).add j) = some u := fun j u hj => by
  have h0 : j = 0 := by
    have := (List.getElem?_eq_some_iff.1 hj).1
    simpa using this
  subst h0
  have e : (⟨w.heap.size, 0, none⟩ : Addr).add 0 = ⟨w.heap.size, 0, none⟩ := by simp [Addr.add]
  rw [e, World.cell?_alloc_at _ _ _ _ rfl]
  simpa using hj
theorem slV_one1 (x : SlE) : ∀ u ∈ [slV x], u.oneCell' = true := fun u hu => by
  simp only [List.mem_cons, List.not_mem_nil, or_false] at hu
  subst hu
  rfl
/-- a book: its cells, and one kind's row of rows -/
structure BookG (fi : Nat) (e1 : TypeId) (w : World) (b : Nat) (bs : Array Value) (v : Value) (xs : List SlE) : Prop where
  blk : ∃ T, w.heap[b]? = some (.cells bs T (0, 0))
  fld : bs[fi]? = some v
  row : w.ownsRow 0 e1 1 v xs.length (slC xs)
  ne : v.ownBlock ≠ some b
/-- rows apart from each other, from the book and its row of rows; all of them below S -/
structure Apart (S b : Nat) (v : Value) (xs : List SlE) : Prop where
  lb : b < S
  lv : ∀ g, v.ownBlock = some g → g < S
  lx : ∀ i, i < xs.length → ∀ g, xB xs i = some g → g < S
  b : ∀ i, i < xs.length → xB xs i ≠ some b
  v : ∀ i, i < xs.length → ∀ g, xB xs i = some g → v.ownBlock ≠ some g
  two : ∀ i k, i < xs.length → k < xs.length → i ≠ k → ∀ g, xB xs i = some g → xB xs k ≠ some g
def blocksOf (xs : List SlE) : List Nat := xs.filterMap fun x => gB (slV x)
theorem blocksOf_at {xs : List SlE} {i g : Nat} (hi : i < xs.length) (h : xB xs i = some g) : g ∈ blocksOf xs := by
  refine List.mem_filterMap.2 ⟨xAt xs i, ?_, h⟩
  unfold xAt
  rw [List.getD_eq_getElem?_getD, List.getElem?_eq_getElem hi]
  exact List.getElem_mem hi
theorem blocksOf_mem {xs : List SlE} {g : Nat} (h : g ∈ blocksOf xs) : ∃ i, i < xs.length ∧ xB xs i = some g := by
  obtain ⟨x, hx, hb⟩ := List.mem_filterMap.1 h
  obtain ⟨i, hi, rfl⟩ := List.mem_iff_getElem.1 hx
  refine ⟨i, hi, ?_⟩
  unfold xB xAt
  rw [List.getD_eq_getElem?_getD, List.getElem?_eq_getElem hi]
  exact hb
theorem row_kept {w w' : World} {base : Nat} {e : TypeId} {size : Nat} {v : Value} {n : Nat} {xs : List Value} {S : List Nat} (h : w.ownsRow base e size v n xs) (ht : Turned S w w') (hS : ∀ x ∈ S, v.ownBlock ≠ some x) : w'.ownsRow base e size v n xs := by
  obtain ⟨h1, h2 | ⟨g, cap, cur, rfl, hb, hg, r⟩⟩ := h
  · exact ⟨h1, Or.inl h2⟩
  · exact ⟨h1, Or.inr ⟨g, cap, cur, rfl, hb, by rw [ht.block g (block_lt hg) (fun e => hS g e rfl)]; exact hg, r⟩⟩
theorem own_lt {w : World} {base : Nat} {e : TypeId} {size : Nat} {v : Value} {n : Nat} {xs : List Value} (h : w.ownsRow base e size v n xs) {g : Nat} (hg : v.ownBlock = some g) : base ≤ g ∧ g < w.heap.size := h.lt g hg
section
variable {fi : Nat} {e1 : TypeId} {w w' wr : World} {b : Nat} {bs : Array Value} {v : Value} {xs : List SlE}
theorem BookG.cell (h : BookG fi e1 w b bs v xs) : w.cell? ⟨b, fi, none⟩ = some v := by obtain ⟨T, h0⟩ := h.blk; exact cells_at h0 fi _ h.fld
theorem BookG.kept {S : List Nat} (h : BookG fi e1 w b bs v xs) (ht : Turned S w w') (hb : b ∉ S) (hS : ∀ x ∈ S, v.ownBlock ≠ some x) : BookG fi e1 w' b bs v xs :=
  ⟨by obtain ⟨T, h0⟩ := h.blk; exact ⟨T, by rw [ht.block b (block_lt h0) hb]; exact h0⟩, h.fld, row_kept h.row ht hS, h.ne⟩
theorem BookG.below (h : BookG fi e1 w b bs v xs) (hb : Below w.heap.size w w') : BookG fi e1 w' b bs v xs := h.kept (S := []) (Turned.ofBelow hb) (by simp) (by simp)
/-- where the row of rows lies -/
theorem BookG.at (h : BookG fi e1 w b bs v xs) : ∃ A cap, v = .slice A xs.length cap ∧ (0 < xs.length → ∃ g, A = some ⟨g, 0, none⟩ ∧ ∀ i, i < xs.length → w.cell? ⟨g, i, none⟩ = some (slV (xAt xs i))) := by
  rcases h.row with ⟨h1, ⟨hv, hn⟩ | ⟨g, cap, cur, hv, hb, hg, r⟩⟩
  · exact ⟨none, 0, by rw [hv, hn], fun h0 => by omega⟩
  · refine ⟨_, cap, hv, fun h0 => ⟨g, rfl, fun i hi => ?_⟩⟩
    have hr := h.row
    rw [hv] at hr
    rw [hr.cellAt i (by omega)]
    exact slC_at xs i hi
end
theorem own_at {w : World} {base m : Nat} {e1 : TypeId} {u : Value} {zs : List SlE} (h : w.ownsRow base e1 1 u zs.length (slC zs)) (hm : zs.length = m) : ∃ A cap, u = .slice A m cap ∧ (0 < m → ∃ g, A = some ⟨g, 0, none⟩ ∧ ∀ i, i < m → w.cell? ⟨g, i, none⟩ = some (slV (xAt zs i))) := by
  subst hm
  rcases h with ⟨h1, ⟨hv, hn⟩ | ⟨g, cap, cur, hv, hb, hg, r⟩⟩
  · exact ⟨none, 0, by rw [hv, hn], fun h0 => by omega⟩
  · refine ⟨_, cap, hv, fun h0 => ⟨g, rfl, fun i hi => ?_⟩⟩
    have hr : w.ownsRow base e1 1 (.slice (some ⟨g, 0, none⟩) zs.length cap) zs.length (slC zs) := ⟨h1, Or.inr ⟨g, cap, cur, rfl, hb, hg, r⟩⟩
    rw [hr.cellAt i (by omega)]
    exact slC_at zs i hi
section
variable {α : Type} {enc : α → List Value} {k : Nat} {e e1 : TypeId} {mk : Nat → α} {fi : Nat} {bs : Array Value}
/-- how far the marks are written -/
structure Mk (enc : α → List Value) (k : Nat) (e e1 : TypeId) (mk : Nat → α) (fi : Nat) (bs : Array Value) (w wr : World) (b : Nat) (v : Value) (xs : List SlE) (i c : Nat) : Prop where
  ap : Apart w.heap.size b v xs
  book : BookG fi e1 wr b bs v xs
  rows : ∀ j, j < xs.length → ∃ L, RowG enc k e wr (slV (xAt xs j)) L ∧ ∀ q x, L[q]? = some x → (j < i ∨ (j = i ∧ q < c)) → x = mk j
  t : Turned (blocksOf xs) w wr
theorem Mk.step {w wr w' : World} {b : Nat} {v : Value} {xs : List SlE} {i c : Nat} (h : Mk enc k e e1 mk fi bs w wr b v xs i c) (hb : Below wr.heap.size wr w') : Mk enc k e e1 mk fi bs w w' b v xs i c :=
  ⟨h.ap, h.book.below hb, fun j hj => by
    obtain ⟨L, hL, h1⟩ := h.rows j hj
    exact ⟨L, hL.kept (S := []) (Turned.ofBelow hb) (by simp), h1⟩, h.t.trans (Turned.ofBelow hb)⟩
theorem row_n {w : World} {x : SlE} {L : List α} (h : RowG enc k e w (slV x) L) : x.2.1 = L.length := by
  obtain ⟨A, cap, e, _⟩ := h.form
  unfold slV at e
  injection e
theorem Mk.next {w wr : World} {b : Nat} {v : Value} {xs : List SlE} {i : Nat} (h : Mk enc k e e1 mk fi bs w wr b v xs i (xAt xs i).2.1) : Mk enc k e e1 mk fi bs w wr b v xs (i + 1) 0 :=
  ⟨h.ap, h.book, fun j hj => by
    obtain ⟨L, hL, h1⟩ := h.rows j hj
    refine ⟨L, hL, fun q x hq hc => h1 q x hq ?_⟩
    rcases Nat.lt_or_ge j i with h2 | h2
    · exact Or.inl h2
    · obtain rfl : j = i := by omega
      have := row_n hL
      have := (List.getElem?_eq_some_iff.1 hq).1
      exact Or.inr ⟨rfl, by omega⟩, h.t⟩
/-- the row that is being marked -/
theorem Mk.row {w wr : World} {b : Nat} {v : Value} {xs : List SlE} {i c : Nat} (henc : ∀ x, (enc x).length = k) (hk0 : 0 < k) (h : Mk enc k e e1 mk fi bs w wr b v xs i c) (hi : i < xs.length) (hk : c < (xAt xs i).2.1) :
    ∃ g cap, xAt xs i = (some ⟨g, 0, none⟩, (xAt xs i).2.1, cap) ∧ (xAt xs i).2.1 ≤ maxLen ∧ (∀ p, p < k → ∃ u, wr.cell? ⟨g, c * k + p, none⟩ = some u) ∧ (∀ o, wr.frozen? ⟨g, o, none⟩ = false) ∧
      Mk enc k e e1 mk fi bs w (setAll wr g (c * k) (enc (mk i))) b v xs i (c + 1) := by
  obtain ⟨L, hL, h1⟩ := h.rows i hi
  have hxn := row_n hL
  obtain ⟨g, cap, hc0, e0, hcl, hcm, hcell, hfz⟩ := hL.some henc (by omega)
  have he : xAt xs i = (some ⟨g, 0, none⟩, (xAt xs i).2.1, cap) := by
    rw [hxn]
    unfold slV at e0
    injection e0 with e1 e2 e3
    rw [← e1, ← e2, ← e3]
  have hB : xB xs i = some g := by
    unfold xB; rw [e0]; exact gB_pos hc0
  have hset : RowG enc k e (setAll wr g (c * k) (enc (mk i))) (slV (xAt xs i)) (L.set c (mk i)) := by
    have h2 := hL
    rw [e0] at h2 ⊢
    exact h2.set henc hk0 c (by omega) (mk i)
  have ht : Turned [g] wr (setAll wr g (c * k) (enc (mk i))) := setAll_turned g _ _ _
  refine ⟨g, cap, he, by rw [hxn]; omega, fun p hp => ?_, hfz, h.ap, h.book.kept ht ?_ ?_, ?_, h.t.trans (ht.more fun x hx => ?_)⟩
  · obtain ⟨x, hx⟩ : ∃ x, L[c]? = some x := ⟨_, List.getElem?_eq_getElem (by omega)⟩
    obtain ⟨u, hu⟩ : ∃ u, (enc x)[p]? = some u := ⟨_, List.getElem?_eq_getElem (by rw [henc]; exact hp)⟩
    exact ⟨u, hcell c p x u hx hu⟩
  · intro hm
    rw [List.mem_singleton] at hm
    exact h.ap.b i hi (by rw [hB, hm])
  · intro x hx
    rw [List.mem_singleton] at hx
    subst hx
    exact h.ap.v i hi _ hB
  · intro j hj
    by_cases hji : j = i
    · subst hji
      refine ⟨L.set c (mk j), hset, ?_⟩
      intro q x hq hc
      by_cases hqk : q = c
      · subst hqk
        rw [List.getElem?_set_self (by omega)] at hq
        injection hq with hq
        exact hq.symm
      · rw [List.getElem?_set_ne (fun e => hqk e.symm)] at hq
        exact h1 q x hq (by omega)
    · obtain ⟨L', hL', h1'⟩ := h.rows j hj
      refine ⟨L', hL'.kept ht (fun x hx => ?_), fun q x hq hc => h1' q x hq (by omega)⟩
      rw [List.mem_singleton] at hx
      subst hx
      exact h.ap.two i j hi hj (fun e => hji e.symm) _ hB
  · rw [List.mem_singleton] at hx
    subst hx
    exact blocksOf_at hi hB
theorem Mk.put {w wr : World} {b : Nat} {v : Value} {xs : List SlE} {i c g n cap : Nat} (henc : ∀ x, (enc x).length = k) (hk0 : 0 < k) (h : Mk enc k e e1 mk fi bs w wr b v xs i c) (hi : i < xs.length) (hx : xAt xs i = (some ⟨g, 0, none⟩, n, cap)) (hk : c < n) :
    Mk enc k e e1 mk fi bs w (setAll wr g (c * k) (enc (mk i))) b v xs i (c + 1) := by
  obtain ⟨g', cap', e, _, _, _, h1⟩ := h.row henc hk0 hi (by rw [hx]; exact hk)
  rw [hx] at e
  simp only [Prod.mk.injEq, Option.some.injEq, Addr.mk.injEq, and_true, true_and] at e
  obtain ⟨rfl, rfl⟩ := e
  exact h1
/-- a row of marks, to be read -/
def Rd (enc : α → List Value) (k : Nat) (mk : Nat → α) (w : World) (x : SlE) (n j : Nat) : Prop := 0 < n → ∃ g, gB (slV x) = some g ∧ x.1 = some ⟨g, 0, none⟩ ∧ ∀ q p u, q < n → (enc (mk j))[p]? = some u → w.cell? ⟨g, q * k + p, none⟩ = some u
theorem Rd.kept {w w' : World} {x : SlE} {n j : Nat} {S : List Nat} (h : Rd enc k mk w x n j) (ht : Turned S w w') (hS : ∀ g ∈ S, gB (slV x) ≠ some g) : Rd enc k mk w' x n j := fun hn => by
  obtain ⟨g, h1, h2, h3⟩ := h hn
  exact ⟨g, h1, h2, fun q p u hq hu => ht.cell (h3 q p u hq hu) (fun e => hS g e h1)⟩
theorem Rd.less {w : World} {x : SlE} {n m j : Nat} (h : Rd enc k mk w x n j) (hm : m ≤ n) : Rd enc k mk w x m j := fun h0 => by
  obtain ⟨g, h1, h2, h3⟩ := h (by omega)
  exact ⟨g, h1, h2, fun q p u hq hu => h3 q p u (by omega) hu⟩
theorem Rd.lt {w : World} {x : SlE} {n j g : Nat} (henc : ∀ x, (enc x).length = k) (hk0 : 0 < k) (h : Rd enc k mk w x n j) (hn : 0 < n) (hg : gB (slV x) = some g) : g < w.heap.size := by
  obtain ⟨g', h1, h2, h3⟩ := h hn
  rw [h1] at hg
  injection hg with hg
  subst hg
  obtain ⟨u, hu⟩ : ∃ u, (enc (mk j))[0]? = some u := ⟨_, List.getElem?_eq_getElem (by rw [henc]; exact hk0)⟩
  exact cell_lt (h3 0 0 u hn hu)
theorem Rd.ofRow {w : World} {x : SlE} {n j : Nat} (henc : ∀ x, (enc x).length = k) (h : RowG enc k e w (slV x) (List.replicate n (mk j))) : Rd enc k mk w x n j := fun hn => by
  obtain ⟨g, cap, hc0, e, hcl, hcm, hcell, _⟩ := h.some henc (by simpa using hn)
  refine ⟨g, ?_, ?_, fun q p u hq hu => ?_⟩
  · rw [e]; exact gB_pos hc0
  · unfold slV at e
    injection e with e1
  · exact hcell q p (mk j) u (by rw [List.getElem?_replicate, if_pos hq]) hu
theorem rep_of {L : List α} {x : α} (h : ∀ (q : Nat) (y : α), L[q]? = some y → y = x) : L = List.replicate L.length x := by
  apply List.ext_getElem?
  intro q
  rw [List.getElem?_replicate]
  split
  · rename_i hq
    rw [List.getElem?_eq_getElem hq]
    exact congrArg some (h q _ (List.getElem?_eq_getElem hq))
  · exact List.getElem?_eq_none (by omega)
/-- rows that are grown: lo and above are still to do -/
structure Gr (enc : α → List Value) (k : Nat) (e e1 : TypeId) (mk : Nat → α) (fi : Nat) (bs : Array Value) (w wr : World) (b : Nat) (v : Value) (xs : List SlE) (lo : Nat) (u : Value) (zs : List SlE) : Prop where
  ap : Apart w.heap.size b v xs
  book : BookG fi e1 wr b bs v xs
  rows : ∀ j, lo ≤ j → j < xs.length → RowG enc k e wr (slV (xAt xs j)) (List.replicate (xAt xs j).2.1 (mk j))
  rd : ∀ j, j < xs.length → Rd enc k mk wr (xAt xs j) (xAt xs j).2.1 j
  zrd : ∀ j, j < zs.length → (xAt zs j).2.1 = (xAt xs j).2.1 + 20 ∧ Rd enc k mk wr (xAt zs j) ((xAt xs j).2.1 + 20) j
  zf : ∀ j, j < zs.length → ∀ g, xB zs j = some g → (xB xs j = some g ∨ w.heap.size ≤ g) ∧ u.ownBlock ≠ some g
  zl : zs.length ≤ xs.length
  own : wr.ownsRow w.heap.size e1 1 u zs.length (slC zs)
  t : Turned (blocksOf xs) w wr
theorem Gr.kept {w wr w' : World} {b : Nat} {v : Value} {xs : List SlE} {lo : Nat} {u : Value} {zs : List SlE} {S : List Nat} (h : Gr enc k e e1 mk fi bs w wr b v xs lo u zs) (ht : Turned S wr w')
    (h1 : ∀ g ∈ S, g ≠ b ∧ v.ownBlock ≠ some g) (h2 : ∀ g ∈ S, ∀ j, lo ≤ j → j < xs.length → xB xs j ≠ some g) (h3 : ∀ g ∈ S, ∀ j, j < zs.length → xB zs j ≠ some g) (h4 : ∀ g ∈ S, u.ownBlock ≠ some g) (h5 : ∀ g ∈ S, g ∈ blocksOf xs ∨ w.heap.size ≤ g)
    (hr : ∀ j, j < xs.length → (∀ g ∈ S, xB xs j ≠ some g) ∨ Rd enc k mk w' (xAt xs j) (xAt xs j).2.1 j) : Gr enc k e e1 mk fi bs w w' b v xs lo u zs where
  ap := h.ap
  book := h.book.kept ht (fun e => (h1 b e).1 rfl) (fun g hg => (h1 g hg).2)
  rows := fun j hj hm => (h.rows j hj hm).kept ht (fun g hg => h2 g hg j hj hm)
  rd := fun j hj => by
    rcases hr j hj with h' | h'
    · exact (h.rd j hj).kept ht h'
    · exact h'
  zrd := fun j hj => ⟨(h.zrd j hj).1, (h.zrd j hj).2.kept ht (fun g hg => h3 g hg j hj)⟩
  zf := h.zf
  zl := h.zl
  own := row_kept h.own ht h4
  t := h.t.step ht (fun x hx => by
    rcases h5 x hx with h' | h'
    · exact Or.inl h'
    · exact Or.inr h')
theorem Gr.step {w wr w' : World} {b : Nat} {v : Value} {xs : List SlE} {lo : Nat} {u : Value} {zs : List SlE} (h : Gr enc k e e1 mk fi bs w wr b v xs lo u zs) (hb : Below wr.heap.size wr w') : Gr enc k e e1 mk fi bs w w' b v xs lo u zs :=
  h.kept (S := []) (Turned.ofBelow hb) (by simp) (by simp) (by simp) (by simp) (by simp) (fun j _ => Or.inl (by simp))
theorem Gr.start {w wr : World} {b : Nat} {v : Value} {xs : List SlE} (henc : ∀ x, (enc x).length = k) (h : Mk enc k e e1 mk fi bs w wr b v xs xs.length 0) : Gr enc k e e1 mk fi bs w wr b v xs 0 (.slice none 0 0) [] := by
  have hrow : ∀ j, j < xs.length → RowG enc k e wr (slV (xAt xs j)) (List.replicate (xAt xs j).2.1 (mk j)) := fun j hj => by
    obtain ⟨L, hL, h1⟩ := h.rows j hj
    have e := rep_of (x := mk j) (fun q y hq => h1 q y hq (Or.inl hj))
    rw [row_n hL, ← e]
    exact hL
  exact ⟨h.ap, h.book, fun j _ hj => hrow j hj, fun j hj => Rd.ofRow henc (hrow j hj), fun j hj => absurd hj (by simp), fun j hj => absurd hj (by simp), by simp, World.ownsRow_nil _ _ _ _, h.t⟩
/-- the row that is being grown -/
structure Gi (enc : α → List Value) (k : Nat) (e e1 : TypeId) (mk : Nat → α) (fi : Nat) (bs : Array Value) (w wr : World) (b : Nat) (v : Value) (xs : List SlE) (i c : Nat) (u : Value) (zs : List SlE) (y : SlE) : Prop where
  g : Gr enc k e e1 mk fi bs w wr b v xs (i + 1) u zs
  zl : zs.length = i
  lt : i < xs.length
  len : y.2.1 = (xAt xs i).2.1 + c
  cur : RowG enc k e wr (slV y) (List.replicate ((xAt xs i).2.1 + c) (mk i))
  curB : ∀ g, gB (slV y) = some g → (xB xs i = some g ∨ w.heap.size ≤ g) ∧ u.ownBlock ≠ some g ∧ ∀ j, j < i → xB zs j ≠ some g
theorem Gi.step {w wr w' : World} {b : Nat} {v : Value} {xs : List SlE} {i c : Nat} {u : Value} {zs : List SlE} {y : SlE} (h : Gi enc k e e1 mk fi bs w wr b v xs i c u zs y) (hb : Below wr.heap.size wr w') : Gi enc k e e1 mk fi bs w w' b v xs i c u zs y :=
  ⟨h.g.step hb, h.zl, h.lt, h.len, h.cur.kept (S := []) (Turned.ofBelow hb) (by simp), h.curB⟩
theorem Gi.start {w wr : World} {b : Nat} {v : Value} {xs : List SlE} {i : Nat} {u : Value} {zs : List SlE} (h : Gr enc k e e1 mk fi bs w wr b v xs i u zs) (hz : zs.length = i) (hi : i < xs.length) : Gi enc k e e1 mk fi bs w wr b v xs i 0 u zs (xAt xs i) where
  g := ⟨h.ap, h.book, fun j hj hm => h.rows j (by omega) hm, h.rd, h.zrd, h.zf, h.zl, h.own, h.t⟩
  zl := hz
  lt := hi
  len := rfl
  cur := h.rows i (Nat.le_refl _) hi
  curB := fun g hg => by
    have hgl := h.ap.lx i hi g hg
    refine ⟨Or.inl hg, fun e => ?_, fun j hj e => ?_⟩
    · have := (own_lt h.own e).1
      omega
    · rcases (h.zf j (by omega) g e).1 with h' | h'
      · exact h.ap.two j i (by omega) hi (by omega) g h' hg
      · omega
theorem Gi.app {w w1 w2 : World} {b : Nat} {v : Value} {xs : List SlE} {i c : Nat} {u : Value} {zs : List SlE} {y : SlE} (henc : ∀ x, (enc x).length = k) (hk0 : 0 < k) (h : Gi enc k e e1 mk fi bs w w1 b v xs i c u zs y) {g cap n : Nat} (hn : (xAt xs i).2.1 + c = n) (hc0 : 0 < cap)
    (ho : RowG enc k e w2 (.slice (some ⟨g, 0, none⟩) (n + 1) cap) (List.replicate n (mk i) ++ [mk i]))
    (hd : (gB (slV y) = some g ∧ w1.grownBy w2 (some g)) ∨ (w1.heap.size ≤ g ∧ w1.grownBy w2 none)) : Gi enc k e e1 mk fi bs w w2 b v xs i (c + 1) u zs (some ⟨g, 0, none⟩, n + 1, cap) := by
  subst hn
  have hcur : RowG enc k e w2 (slV (some ⟨g, 0, none⟩, (xAt xs i).2.1 + c + 1, cap)) (List.replicate ((xAt xs i).2.1 + (c + 1)) (mk i)) := by
    have e : List.replicate ((xAt xs i).2.1 + (c + 1)) (mk i) = List.replicate ((xAt xs i).2.1 + c) (mk i) ++ [mk i] := by
      rw [← Nat.add_assoc, List.replicate_succ']
    rw [e]
    exact ho
  have hB : gB (slV (some ⟨g, 0, none⟩, (xAt xs i).2.1 + c + 1, cap)) = some g := gB_pos hc0
  have hws : w.heap.size ≤ w1.heap.size := h.g.t.size
  rcases hd with ⟨h1, h2⟩ | ⟨h1, h2⟩
  · obtain ⟨k1, k2, k3⟩ := h.curB g h1
    have ht : Turned [g] w1 w2 := Turned.ofGrown h2 (fun x e => by injection e with e; subst e; simp)
    have hx : ∀ j, j < xs.length → j ≠ i → xB xs j ≠ some g := fun j hj hji e => by
      rcases k1 with k | k
      · exact h.g.ap.two i j h.lt hj (fun e => hji e.symm) g k e
      · have := h.g.ap.lx j hj g e
        omega
    refine ⟨h.g.kept ht (fun x hx' => ?_) (fun x hx' j h1 hj => ?_) (fun x hx' j hj => ?_) (fun x hx' => ?_) (fun x hx' => ?_) (fun j hj => ?_), h.zl, h.lt, rfl, hcur, fun g' e => ?_⟩
    · rw [List.mem_singleton] at hx'
      subst hx'
      rcases k1 with k | k
      · exact ⟨fun e => h.g.ap.b i h.lt (by rw [k, e]), h.g.ap.v i h.lt _ k⟩
      · exact ⟨by have := h.g.ap.lb; omega, fun e => by have := h.g.ap.lv _ e; omega⟩
    · rw [List.mem_singleton] at hx'
      subst hx'
      exact hx j hj (by omega)
    · rw [List.mem_singleton] at hx'
      subst hx'
      exact k3 j (by have := h.zl; omega)
    · rw [List.mem_singleton] at hx'
      subst hx'
      exact k2
    · rw [List.mem_singleton] at hx'
      subst hx'
      rcases k1 with k | k
      · exact Or.inl (blocksOf_at h.lt k)
      · exact Or.inr k
    · by_cases hji : j = i
      · subst hji
        by_cases hxg : xB xs j = some g
        · right
          intro hn
          obtain ⟨g', r1, r2, _⟩ := h.g.rd j hj hn
          rw [show gB (slV (xAt xs j)) = some g from hxg] at r1
          injection r1 with r1
          subst r1
          obtain ⟨g'', s1, s2, s3⟩ := (Rd.ofRow henc hcur) (by omega)
          rw [hB] at s1
          injection s1 with s1
          subst s1
          exact ⟨g, hxg, r2, fun q p u hq hu => s3 q p u (by omega) hu⟩
        · left
          intro x hx'
          rw [List.mem_singleton] at hx'
          subst hx'
          exact hxg
      · left
        intro x hx'
        rw [List.mem_singleton] at hx'
        subst hx'
        exact hx j hj hji
    · rw [hB] at e
      injection e with e
      subst e
      exact ⟨k1, k2, k3⟩
  · have ht : Turned [] w1 w2 := Turned.ofGrown h2 (fun x e => by cases e)
    refine ⟨h.g.kept ht (by simp) (by simp) (by simp) (by simp) (by simp) (fun j _ => Or.inl (by simp)), h.zl, h.lt, rfl, hcur, fun g' e => ?_⟩
    rw [hB] at e
    injection e with e
    subst e
    refine ⟨Or.inr (by omega), fun e => ?_, fun j hj e => ?_⟩
    · have := (own_lt h.g.own e).2
      omega
    · have := ((h.g.zrd j (by have := h.zl; omega)).2).lt henc hk0 (by omega) e
      omega
theorem Gi.fin {w w1 w2 : World} {b : Nat} {v : Value} {xs : List SlE} {i : Nat} {u : Value} {zs : List SlE} {y : SlE} (henc : ∀ x, (enc x).length = k) (hk0 : 0 < k) (h : Gi enc k e e1 mk fi bs w w1 b v xs i 20 u zs y) {g cap : Nat}
    (ho : w2.ownsRow w.heap.size e1 1 (.slice (some ⟨g, 0, none⟩) (i + 1) cap) (i + 1) (slC zs ++ [slV y])) (hg : w1.grownBy w2 u.ownBlock) (hd : u.ownBlock = some g ∨ w1.heap.size ≤ g) :
    Gr enc k e e1 mk fi bs w w2 b v xs (i + 1) (.slice (some ⟨g, 0, none⟩) (i + 1) cap) (zs ++ [y]) := by
  have ht : Turned u.ownBlock.toList w1 w2 := Turned.ofGrown hg (fun x e => by rw [e]; simp)
  have hu : ∀ x ∈ u.ownBlock.toList, u.ownBlock = some x ∧ w.heap.size ≤ x := fun x hx => by
    rw [Option.mem_toList] at hx
    have e : u.ownBlock = some x := hx
    exact ⟨e, (own_lt h.g.own e).1⟩
  have hlen : (zs ++ [y]).length = i + 1 := by simp [h.zl]
  have hat : ∀ j, j < (zs ++ [y]).length → (j < i ∧ xAt (zs ++ [y]) j = xAt zs j) ∨ (j = i ∧ xAt (zs ++ [y]) j = y) := fun j hj => by
    rw [xAt_snoc]
    rw [hlen] at hj
    by_cases hji : j = i
    · right
      rw [if_neg (by rw [h.zl]; omega), if_pos (by rw [h.zl]; exact hji)]
      exact ⟨hji, rfl⟩
    · left
      rw [if_pos (by rw [h.zl]; omega)]
      exact ⟨by omega, rfl⟩
  have hyr : Rd enc k mk w1 y ((xAt xs i).2.1 + 20) i := Rd.ofRow henc h.cur
  refine ⟨h.g.ap, h.g.book.kept ht (fun e => ?_) (fun x hx => ?_), fun j hj hm => (h.g.rows j hj hm).kept ht (fun x hx e => ?_), fun j hj => (h.g.rd j hj).kept ht (fun x hx e => ?_), fun j hj => ?_, fun j hj g' e => ?_, ?_, ?_, h.g.t.step ht (fun x hx => Or.inr (hu x hx).2)⟩
  · have := (hu b e).2
    have := h.g.ap.lb
    omega
  · intro e
    have := (hu x hx).2
    have := h.g.ap.lv x e
    omega
  · have := (hu x hx).2
    have := h.g.ap.lx j hm x e
    omega
  · have := (hu x hx).2
    have := h.g.ap.lx j hj x e
    omega
  · rcases hat j hj with ⟨hji, e⟩ | ⟨hji, e⟩
    · rw [e]
      have hz := h.g.zrd j (by rw [h.zl]; exact hji)
      exact ⟨hz.1, hz.2.kept ht (fun x hx e => (h.g.zf j (by rw [h.zl]; exact hji) x e).2 (hu x hx).1)⟩
    · rw [e]
      subst hji
      exact ⟨h.len, hyr.kept ht (fun x hx e => (h.curB x e).2.1 (hu x hx).1)⟩
  · unfold xB at e
    rcases hat j hj with ⟨hji, e2⟩ | ⟨hji, e2⟩
    · rw [e2] at e
      obtain ⟨z1, z2⟩ := h.g.zf j (by rw [h.zl]; exact hji) g' e
      refine ⟨z1, fun e3 => ?_⟩
      rw [Value.ownBlock] at e3
      rcases hd with hd | hd
      · exact z2 (by rw [hd]; exact e3)
      · have := ((h.g.zrd j (by rw [h.zl]; exact hji)).2).lt henc hk0 (by omega) e
        have e4 : g = g' := by simpa using e3
        omega
    · rw [e2] at e
      subst hji
      obtain ⟨z1, z2, _⟩ := h.curB g' e
      refine ⟨z1, fun e3 => ?_⟩
      rw [Value.ownBlock] at e3
      rcases hd with hd | hd
      · exact z2 (by rw [hd]; exact e3)
      · have := hyr.lt henc hk0 (by omega) e
        have e4 : g = g' := by simpa using e3
        omega
  · rw [hlen]
    have := h.lt
    omega
  · rw [hlen, show slC (zs ++ [y]) = slC zs ++ [slV y] by simp [slC]]
    exact ho
end
end Bk
end
section
namespace Bk
open Go.RowKit
theorem Apart.more {S S' b : Nat} {v : Value} {xs : List SlE} (h : Apart S b v xs) (hS : S ≤ S') : Apart S' b v xs :=
  ⟨Nat.lt_of_lt_of_le h.lb hS, fun g e => Nat.lt_of_lt_of_le (h.lv g e) hS, fun i hi g e => Nat.lt_of_lt_of_le (h.lx i hi g e) hS, h.b, h.v, h.two⟩
section
variable {α : Type} {enc : α → List Value} {k : Nat} {e e1 : TypeId} {mk : Nat → α} {fi : Nat}
/-- a book of rows, all of them above S, none longer than N -/
structure Kp (enc : α → List Value) (k : Nat) (e e1 : TypeId) (fi : Nat) (S : Nat) (wr : World) (b : Nat) (bs : Array Value) (v : Value) (xs : List SlE) (N : Nat) : Prop where
  book : BookG fi e1 wr b bs v xs
  rows : ∀ j, j < xs.length → ∃ L, RowG enc k e wr (slV (xAt xs j)) L ∧ L.length ≤ N
  ap : Apart wr.heap.size b v xs
  gb : S ≤ b
  gv : ∀ g, v.ownBlock = some g → S ≤ g
  gx : ∀ j, j < xs.length → ∀ g, xB xs j = some g → S ≤ g
theorem Kp.kept {S : Nat} {wr w' : World} {b : Nat} {bs : Array Value} {v : Value} {xs : List SlE} {N : Nat} {T : List Nat} (h : Kp enc k e e1 fi S wr b bs v xs N) (ht : Turned T wr w') (hT : ∀ x ∈ T, x < S) : Kp enc k e e1 fi S w' b bs v xs N where
  book := h.book.kept ht (fun e => by have := hT b e; have := h.gb; omega) (fun x hx e => by have := hT x hx; have := h.gv x e; omega)
  rows := fun j hj => by
    obtain ⟨L, hL, hn⟩ := h.rows j hj
    exact ⟨L, hL.kept ht (fun x hx e => by have := hT x hx; have := h.gx j hj x e; omega), hn⟩
  ap := h.ap.more ht.size
  gb := h.gb
  gv := h.gv
  gx := h.gx
theorem Kp.step {S : Nat} {wr w' : World} {b : Nat} {bs : Array Value} {v : Value} {xs : List SlE} {N : Nat} (h : Kp enc k e e1 fi S wr b bs v xs N) (hb : Below wr.heap.size wr w') : Kp enc k e e1 fi S w' b bs v xs N := h.kept (T := []) (Turned.ofBelow hb) (by simp)
/-- a block that is none of the book's -/
structure Free (g b : Nat) (v : Value) (xs : List SlE) : Prop where
  b : g ≠ b
  v : v.ownBlock ≠ some g
  x : ∀ j, j < xs.length → xB xs j ≠ some g
theorem Free.new {S g b : Nat} {v : Value} {xs : List SlE} (h : Apart S b v xs) (hg : S ≤ g) : Free g b v xs :=
  ⟨by have := h.lb; omega, fun e => by have := h.lv g e; omega, fun j hj e => by have := h.lx j hj g e; omega⟩
theorem Free.take {g b H : Nat} {v v' : Value} {xs : List SlE} {y : SlE} (h : Free g b v xs) (hy : gB (slV y) ≠ some g) (hv : v'.ownBlock = v.ownBlock ∨ ∀ g, v'.ownBlock = some g → H ≤ g) (hg : g < H) : Free g b v' (xs ++ [y]) where
  b := h.b
  v := by
    rcases hv with hv | hv
    · rw [hv]; exact h.v
    · intro e; have := hv g e; omega
  x := fun j hj e => by
    unfold xB at e
    rw [xAt_snoc] at e
    by_cases hji : j < xs.length
    · rw [if_pos hji] at e
      exact h.x j hji e
    · rw [if_neg hji] at e
      split at e
      · exact hy e
      · cases e
/-- one more row -/
theorem Kp.take {S : Nat} {w1 w2 : World} {b : Nat} {bs bs' : Array Value} {v v' : Value} {xs : List SlE} {N : Nat} {y : SlE} {L : List α} (h1 : Kp enc k e e1 fi S w1 b bs v xs N) (hy : RowG enc k e w1 (slV y) L) (hN : L.length ≤ N) (hyd : ∀ g, gB (slV y) = some g → Free g b v xs ∧ S ≤ g)
    (hB : BookG fi e1 w2 b bs' v' (xs ++ [y])) (ht : Turned (b :: v.ownBlock.toList) w1 w2) (hv : v'.ownBlock = v.ownBlock ∨ ∀ g, v'.ownBlock = some g → w1.heap.size ≤ g) (hS1 : S ≤ w1.heap.size) : Kp enc k e e1 fi S w2 b bs' v' (xs ++ [y]) N := by
  have hlen : (xs ++ [y]).length = xs.length + 1 := by simp
  have hs12 := ht.size
  have hT : ∀ x ∈ b :: v.ownBlock.toList, x = b ∨ v.ownBlock = some x := fun x hx => by
    rcases List.mem_cons.1 hx with rfl | hx
    · exact Or.inl rfl
    · rw [Option.mem_toList] at hx
      exact Or.inr hx
  have hat : ∀ j, j < (xs ++ [y]).length → (j < xs.length ∧ xAt (xs ++ [y]) j = xAt xs j) ∨ (j = xs.length ∧ xAt (xs ++ [y]) j = y) := fun j hj => by
    rw [xAt_snoc]
    rw [hlen] at hj
    by_cases hji : j < xs.length
    · left; rw [if_pos hji]; exact ⟨hji, rfl⟩
    · right; rw [if_neg hji, if_pos (by omega)]; exact ⟨by omega, rfl⟩
  have hyl : ∀ g, gB (slV y) = some g → g < w1.heap.size := fun g e => hy.lt e
  have hv' : ∀ g, v'.ownBlock = some g → v.ownBlock = some g ∨ w1.heap.size ≤ g := fun g e => by
    rcases hv with hv | hv
    · exact Or.inl (by rw [← hv]; exact e)
    · exact Or.inr (hv g e)
  refine ⟨hB, fun j hj => ?_, ⟨?_, fun g e => ?_, fun j hj g e => ?_, fun j hj e => ?_, fun j hj g e e2 => ?_, fun j k hj hk hjk g e e2 => ?_⟩, h1.gb, fun g e => ?_, fun j hj g e => ?_⟩
  · rcases hat j hj with ⟨hji, e⟩ | ⟨hji, e⟩
    · rw [e]
      obtain ⟨L', hL', hn'⟩ := h1.rows j hji
      refine ⟨L', hL'.kept ht (fun x hx e => ?_), hn'⟩
      rcases hT x hx with rfl | h2
      · exact h1.ap.b j hji e
      · exact h1.ap.v j hji x e h2
    · rw [e]
      refine ⟨L, hy.kept ht (fun x hx e => ?_), hN⟩
      rcases hT x hx with rfl | h2
      · exact (hyd x e).1.b rfl
      · exact (hyd x e).1.v h2
  · have := h1.ap.lb; omega
  · exact (hB.row.lt g e).2
  · unfold xB at e
    rcases hat j hj with ⟨hji, e2⟩ | ⟨hji, e2⟩
    · rw [e2] at e
      have := h1.ap.lx j hji g e
      omega
    · rw [e2] at e
      have := hyl g e
      omega
  · unfold xB at e
    rcases hat j hj with ⟨hji, e2⟩ | ⟨hji, e2⟩
    · rw [e2] at e
      exact h1.ap.b j hji e
    · rw [e2] at e
      exact (hyd b e).1.b rfl
  · unfold xB at e
    rcases hat j hj with ⟨hji, e3⟩ | ⟨hji, e3⟩
    · rw [e3] at e
      rcases hv' g e2 with h2 | h2
      · exact h1.ap.v j hji g e h2
      · have := h1.ap.lx j hji g e
        omega
    · rw [e3] at e
      rcases hv' g e2 with h2 | h2
      · exact (hyd g e).1.v h2
      · have := hyl g e
        omega
  · unfold xB at e e2
    rcases hat j hj with ⟨hji, e3⟩ | ⟨hji, e3⟩ <;> rcases hat k hk with ⟨hki, e4⟩ | ⟨hki, e4⟩
    · rw [e3] at e
      rw [e4] at e2
      exact h1.ap.two j k hji hki hjk g e e2
    · rw [e3] at e
      rw [e4] at e2
      exact (hyd g e2).1.x j hji e
    · rw [e3] at e
      rw [e4] at e2
      exact (hyd g e).1.x k hki e2
    · omega
  · rcases hv' g e with h2 | h2
    · exact h1.gv g h2
    · omega
  · unfold xB at e
    rcases hat j hj with ⟨hji, e2⟩ | ⟨hji, e2⟩
    · rw [e2] at e
      exact h1.gx j hji g e
    · rw [e2] at e
      exact (hyd g e).2
theorem Kp.mk0 {S : Nat} {wr : World} {b : Nat} {bs : Array Value} {v : Value} {xs : List SlE} {N : Nat} (h : Kp enc k e e1 fi S wr b bs v xs N) : Mk enc k e e1 mk fi bs wr wr b v xs 0 0 :=
  ⟨h.ap, h.book, fun j hj => by
    obtain ⟨L, hL, _⟩ := h.rows j hj
    exact ⟨L, hL, fun q x _ hc => by omega⟩, Turned.refl _ _⟩
theorem Kp.len {S : Nat} {wr : World} {b : Nat} {bs : Array Value} {v : Value} {xs : List SlE} {N : Nat} (h : Kp enc k e e1 fi S wr b bs v xs N) : ∀ j, j < xs.length → (xAt xs j).2.1 ≤ N := fun j hj => by
  obtain ⟨L, hL, hn⟩ := h.rows j hj
  rw [row_n hL]; exact hn
end
end Bk
end
end Go.Proofs.YtbaopcpmmdmomaaGreatDoor
