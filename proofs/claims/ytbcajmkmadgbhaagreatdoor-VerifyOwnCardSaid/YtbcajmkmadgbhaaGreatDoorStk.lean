/- A stack: a row in a block of one's own, whose block may have more room than the row's value tells ('s = s[:n-1]', 'append(s[:n-1:n-1], x)', 'append(s, x)'). -/
import Derived.Test.YtbcajmkmadgbhaaGreatDoorBas
import Derived.Deep.AppendSrc
import Derived.Laws.CopyOwn
set_option linter.unusedVariables false
set_option linter.unusedSimpArgs false
namespace Go.Proofs.YtbcajmkmadgbhaaGreatDoor
open Go.RowKit
section
variable {α : Type} {f : α → Value} {e : TypeId}
structure StkAt (f : α → Value) (e : TypeId) (w : World) (B : Option Nat) (v : Value) (l : List α) : Prop where
  ex : (v = .slice none 0 0 ∧ l = [] ∧ B = none) ∨ ∃ g cap cur, B = Option.some g ∧ v = .slice (Option.some ⟨g, 0, none⟩) l.length cap ∧ w.heap[g]? = Option.some (.cells cur e (0, 0)) ∧ l.length ≤ cap ∧ cap ≤ maxLen ∧ cap ≤ cur.size ∧ cur.toList.take l.length = l.map f
theorem StkAt.nil (f : α → Value) (e : TypeId) (w : World) : StkAt f e w none (.slice none 0 0) [] := ⟨.inl ⟨rfl, rfl, rfl⟩⟩
theorem StkAt.lt {w : World} {B : Option Nat} {v : Value} {l : List α} (h : StkAt f e w B v l) : ∀ g, B = Option.some g → g < w.heap.size := by
  intro g hg
  rcases h.ex with ⟨_, _, h⟩ | ⟨g', cap, cur, h1, h2, h3, h4⟩
  · rw [h] at hg; cases hg
  · rw [h1] at hg
    injection hg with hg
    subst hg
    exact block_lt h3
theorem StkAt.turned {w w' : World} {B : Option Nat} {v : Value} {l : List α} {S : List Nat} (h : StkAt f e w B v l) (hb : Turned S w w') (hS : ∀ g, B = Option.some g → g ∉ S) : StkAt f e w' B v l := by
  rcases h.ex with h | ⟨g, cap, cur, h1, h2, h3, h4⟩
  · exact ⟨.inl h⟩
  · exact ⟨.inr ⟨g, cap, cur, h1, h2, by rw [hb.block g (block_lt h3) (hS g h1)]; exact h3, h4⟩⟩
theorem StkAt.below {w w' : World} {B : Option Nat} {v : Value} {l : List α} (h : StkAt f e w B v l) (hb : Below w.heap.size w w') : StkAt f e w' B v l := h.turned (S := []) (Turned.ofBelow hb) (fun _ _ hx => by cases hx)
/-- where it is not empty -/
theorem StkAt.some {w : World} {B : Option Nat} {v : Value} {l : List α} (h : StkAt f e w B v l) (hn : 0 < l.length) : ∃ g cap, B = Option.some g ∧ v = .slice (Option.some ⟨g, 0, none⟩) l.length cap ∧ l.length ≤ cap ∧ cap ≤ maxLen ∧ ∀ (j : Nat) (x : α), l[j]? = Option.some x → w.cell? ⟨g, j, none⟩ = Option.some (f x) := by
  rcases h.ex with ⟨_, rfl, _⟩ | ⟨g, cap, cur, h0, h1, h3, h4, h5, h6, h7⟩
  · simp at hn
  · refine ⟨g, cap, h0, h1, h4, h5, fun j x hx => ?_⟩
    rw [cell_of_row w g j cur e (0, 0) h3]
    have hj := (List.getElem?_eq_some_iff.1 hx).1
    have : (cur.toList.take l.length)[j]? = Option.some (f x) := by rw [h7, List.getElem?_map, hx]; rfl
    rw [List.getElem?_take, if_pos hj] at this
    simpa using this
theorem StkAt.shape {w : World} {B : Option Nat} {v : Value} {l : List α} (h : StkAt f e w B v l) : ∃ A cap, v = .slice A l.length cap ∧ l.length ≤ cap := by
  rcases h.ex with ⟨rfl, rfl, _⟩ | ⟨g, cap, cur, _, rfl, h3, h4, _⟩
  · exact ⟨none, 0, rfl, Nat.le_refl _⟩
  · exact ⟨_, _, rfl, h4⟩
/-- less of it, with some of its room -/
theorem StkAt.take {w : World} {B : Option Nat} {g cap n : Nat} {l : List α} (h : StkAt f e w B (.slice (Option.some ⟨g, 0, none⟩) n cap) l) (k c : Nat) (hk : k ≤ l.length) (hc : k ≤ c) (hcc : c ≤ cap) : StkAt f e w B (.slice (Option.some ⟨g, 0, none⟩) k c) (l.take k) := by
  rcases h.ex with ⟨h, _⟩ | ⟨g', cap', cur, h0, h1, h3, h4, h5, h6, h7⟩
  · cases h
  · injection h1 with e1 e2 e3
    injection e1 with e1
    injection e1 with e1
    subst e1 e3
    have hl : (l.take k).length = k := by rw [List.length_take]; omega
    refine ⟨.inr ⟨g, c, cur, h0, by rw [hl], h3, by omega, by omega, by omega, ?_⟩⟩
    rw [hl, List.map_take, ← h7, List.take_take, Nat.min_eq_left hk]
/-- one more upon it -/
theorem StkAt.push {P : Program} {w : World} {B : Option Nat} {bytes : Nat} {v z : Value} {l : List α} {i : TypeInfo} (t ty : TypeId) (ht : P.underlying t = Option.some (.slice e)) (hi : P.info? e = Option.some i) (hz : i.zero = Option.some z) (hsize : i.size = 1) (hby : i.bytes = bytes) (hzs : z.cells.size = 1)
    (h : StkAt f e w B v l) (ad : Addr) (c : Nat) (x : α) (hx : w.cell? (ad.add 0) = Option.some (f x)) (h1 : (f x).oneCell' = true) (h63 : l.length + 1 ≤ maxLen) (hbytes : (l.length + 1) * bytes ≤ 140737488355328) :
    ∃ B' v' w', (Builtin.append_ #[t, t] ty #[v, .slice (Option.some ad) 1 c]).run P w = .ok v' w' ∧ StkAt f e w' B' v' (l ++ [x]) ∧ Turned B.toList w w' ∧ (B' = B ∨ ∃ g, B' = Option.some g ∧ w.heap.size ≤ g) := by
  subst hby
  have hnews : ∀ j u, [f x][j]? = Option.some u → w.cell? (ad.add j) = Option.some u := fun j u hj => by
    cases j with
    | zero => simp at hj; subst hj; exact hx
    | succ j => simp at hj
  have hone : ∀ u ∈ [f x], u.oneCell' = true := fun u hu => by simp at hu; subst hu; exact h1
  have hs : Src P i.size t (.slice (Option.some ad) 1 c) 1 [f x] w := Src.ofSlice w ht ad 1 c [f x] (by rw [hsize]; rfl) hnews hone
  have grown : ∀ (old : Nat), StkAt f e (w.drew.alloc (.cells (((l.map f) ++ [f x]).toArray ++ Builtin.zeroCells z.cells (grownCap w (l.length + 1) old e - (l.length + 1))) e)) (Option.some w.heap.size)
        (.slice (Option.some ⟨w.heap.size, 0, none⟩) (l.length + 1) (grownCap w (l.length + 1) old e)) (l ++ [x]) := by
    intro old
    have hge := grownCap_ge w (l.length + 1) old e
    have hcm : grownCap w (l.length + 1) old e ≤ maxLen := grownCap_le_maxLen w (l.length + 1) old e h63
    refine ⟨.inr ⟨w.heap.size, _, _, rfl, by rw [List.length_append]; rfl, heap_alloc_new w.drew _, by rw [List.length_append]; exact hge, hcm, ?_, ?_⟩⟩
    · simp only [Array.size_append, List.size_toArray, size_zeroCells, hzs, List.length_append, List.length_map, List.length_cons, List.length_nil]
      omega
    · simp only [Array.toList_append]
      rw [List.length_append, List.map_append, show l.length + [x].length = ((l.map f) ++ [f x]).length by simp, List.take_left]
      rfl
  have hgb : ∀ (o : Obj), Turned B.toList w (w.drew.alloc o) := fun o => ⟨rfl, rfl, rfl, by simp, fun k hk _ => Below.heap_alloc w.drew o k hk⟩
  rcases h.ex with ⟨rfl, rfl, rfl⟩ | ⟨g, cap, cur, rfl, rfl, h3, h4, h5, h6, h7⟩
  · have hr := run_append_grow_src (P := P) (w := w) t t ty e i z ht hi hz none 0 0 [] (by simp [Builtin.firstCells, loadCells, loadCellsFrom]) (.slice (Option.some ad) 1 c) 1 [f x] hs (by omega) (by omega) (growslice_fits (by omega) (by simpa using hbytes))
    exact ⟨_, _, _, hr, grown 0, hgb _, .inr ⟨_, rfl, Nat.le_refl _⟩⟩
  · by_cases hroom : l.length + 1 ≤ cap
    · have hr := run_append_room (P := P) w t ty e i ht hi g l.length cap cur h3 ad 1 c [f x] (by rw [hsize]; rfl) hnews hone hroom (by rw [hsize]; simp; omega)
      rw [hsize, Nat.mul_one] at hr
      refine ⟨Option.some g, _, _, hr, ⟨.inr ⟨g, cap, _, rfl, by rw [List.length_append]; rfl, setRow_heap w g cur _ e _ h3, by rw [List.length_append]; exact hroom, h5, ?_, ?_⟩⟩, ⟨rfl, rfl, rfl, by simp, fun k _ hk => setRow_other w g k _ (fun e => hk (by simp [e]))⟩, .inl rfl⟩
      · simp only [List.size_toArray, List.length_append, List.length_take, List.length_drop, Array.length_toList, List.length_cons, List.length_nil]
        omega
      · show ((cur.toList.take l.length ++ [f x] ++ cur.toList.drop (l.length + [f x].length))).take (l ++ [x]).length = _
        rw [h7, List.length_append, List.map_append, show l.length + [x].length = ((l.map f) ++ [f x]).length by simp, List.take_left]
        rfl
    · have hold : (Builtin.firstCells i.size l.length (.slice (Option.some ⟨g, 0, none⟩) l.length cap)).run P w.drew = .ok (l.map f).toArray w.drew := by
        refine run_firstCells_some (P := P) w.drew i.size l.length ⟨g, 0, none⟩ l.length cap (l.map f) (by rw [hsize]; simp) (fun j u hj => ?_)
        have hj' := (List.getElem?_eq_some_iff.1 hj).1
        have hadd : (⟨g, 0, none⟩ : Addr).add j = ⟨g, j, none⟩ := by unfold Addr.add; split <;> simp_all
        rw [hadd]
        show w.cell? ⟨g, j, none⟩ = _
        rw [cell_of_row w g j cur e (0, 0) h3]
        rw [← h7, List.getElem?_take, if_pos (by simpa using hj')] at hj
        simpa using hj
      have hr := run_append_grow_src (P := P) (w := w) t t ty e i z ht hi hz (Option.some ⟨g, 0, none⟩) l.length cap (l.map f) hold (.slice (Option.some ad) 1 c) 1 [f x] hs (by omega) (by simp only [maxLen] at h63; omega) (growslice_fits (by omega) hbytes)
      exact ⟨_, _, _, hr, grown cap, hgb _, .inr ⟨_, rfl, Nat.le_refl _⟩⟩
theorem wpList_stk_push {P : Program} {ops : Array Oper} {rest : List Oper} {o : Oper} {a : Act} {Q : Exit → Act → World → Prop} {w : World} {B : Option Nat} {bytes : Nat} {v z : Value} {l : List α} {i : TypeInfo} (hgd : o.guard = none) (s y : Operand) (t : TypeId)
    (ho : o.op = .call { callee := .builtin .append, args := #[s, y], argTypes := #[t, t] }) (ht : P.underlying t = Option.some (.slice e)) (hi : P.info? e = Option.some i) (hz : i.zero = Option.some z) (hsize : i.size = 1) (hby : i.bytes = bytes) (hzs : z.cells.size = 1)
    (hs : a.eval s = v) (h : StkAt f e w B v l) (ad : Addr) (c : Nat) (x : α) (hy : a.eval y = .slice (Option.some ad) 1 c) (hx : w.cell? (ad.add 0) = Option.some (f x)) (h1 : (f x).oneCell' = true) (h63 : l.length + 1 ≤ maxLen) (hbytes : (l.length + 1) * bytes ≤ 140737488355328)
    (hK : ∀ B' v' w', StkAt f e w' B' v' (l ++ [x]) → Turned B.toList w w' → (B' = B ∨ ∃ g, B' = Option.some g ∧ w.heap.size ≤ g) → wpList P ops Q rest (a.put o.dst v') w') : wpList P ops Q (o :: rest) a w := by
  refine wpList_plain hgd fun K hK' => ?_
  obtain ⟨B', v', w', hrun, h2, h3, h4⟩ := h.push (P := P) t o.type ht hi hz hsize hby hzs ad c x hx h1 h63 hbytes
  unfold Oper.wp execOp
  simp only [ho, resolve, invoke, builtin, Sem.run_bind, Sem.run_pure, Result.andThen_ok, List.map_toArray, List.map_cons, List.map_nil, hs, hy, hrun]
  exact hK' _ _ (hK B' v' w' h2 h3 h4)
end
end Go.Proofs.YtbcajmkmadgbhaaGreatDoor
