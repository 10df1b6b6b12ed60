/- 'append(s[:k:k], x)': no room is left, a new block is laid, the old one stays. -/
import Derived.Test.YtbcajmkmadgbhaaDoorStk
import Derived.Test.YtbcajmkmadgbhaaDoorAppR
set_option linter.unusedVariables false
set_option linter.unusedSimpArgs false
namespace Go.Proofs.YtbcajmkmadgbhaaDoor
open Go.RowKit
section
variable {α : Type} {f : α → Value} {e : TypeId}
theorem StkAt.pushNew {P : Program} {w : World} {B : Option Nat} {bytes : Nat} {z : Value} {l : List α} {i : TypeInfo} {g k : Nat} (t ty : TypeId) (ht : P.underlying t = Option.some (.slice e)) (hi : P.info? e = Option.some i) (hz : i.zero = Option.some z) (hsize : i.size = 1) (hby : i.bytes = bytes) (hzs : z.cells.size = 1)
    (h : StkAt f e w B (.slice (Option.some ⟨g, 0, none⟩) k k) l) (ad : Addr) (c : Nat) (x : α) (hx : w.cell? (ad.add 0) = Option.some (f x)) (h1 : (f x).oneCell' = true) (h63 : k + 1 ≤ maxLen) (hbytes : (k + 1) * bytes ≤ 140737488355328) :
    ∃ B' v' w', (Builtin.append_ #[t, t] ty #[.slice (Option.some ⟨g, 0, none⟩) k k, .slice (Option.some ad) 1 c]).run P w = .ok v' w' ∧ StkAt f e w' B' v' (l ++ [x]) ∧ Below w.heap.size w w' ∧ (∃ g', B' = Option.some g' ∧ w.heap.size ≤ g') := by
  subst hby
  have hnews : ∀ j u, [f x][j]? = Option.some u → w.cell? (ad.add j) = Option.some u := fun j u hj => by
    cases j with
    | zero => simp at hj; subst hj; exact hx
    | succ j => simp at hj
  have hone : ∀ u ∈ [f x], u.oneCell' = true := fun u hu => by simp at hu; subst hu; exact h1
  have hs : Src P i.size t (.slice (Option.some ad) 1 c) 1 [f x] w := Src.ofSlice w ht ad 1 c [f x] (by rw [hsize]; rfl) hnews hone
  have hgb : ∀ (o : Obj), Below w.heap.size w (w.drew.alloc o) := fun o => ⟨rfl, rfl, rfl, by simp, fun k hk => Below.heap_alloc w.drew o k hk⟩
  rcases h.ex with ⟨h, _⟩ | ⟨g', cap', cur, h0, h2, h3, h4, h5, h6, h7⟩
  · cases h
  · injection h2 with e1 e2 e3
    injection e1 with e1
    injection e1 with e1
    subst e1 e2 e3
    have hold : (Builtin.firstCells i.size l.length (.slice (Option.some ⟨g, 0, none⟩) l.length l.length)).run P w.drew = .ok (l.map f).toArray w.drew := by
      refine run_firstCells_some (P := P) w.drew i.size l.length ⟨g, 0, none⟩ l.length l.length (l.map f) (by rw [hsize]; simp) (fun j u hj => ?_)
      have hj' := (List.getElem?_eq_some_iff.1 hj).1
      have hadd : (⟨g, 0, none⟩ : Addr).add j = ⟨g, j, none⟩ := by unfold Addr.add; split <;> simp_all
      rw [hadd]
      show w.cell? ⟨g, j, none⟩ = _
      rw [cell_of_row w g j cur e (0, 0) h3]
      rw [← h7, List.getElem?_take, if_pos (by simpa using hj')] at hj
      simpa using hj
    have hr := run_append_grow_src (P := P) (w := w) t t ty e i z ht hi hz (Option.some ⟨g, 0, none⟩) l.length l.length (l.map f) hold (.slice (Option.some ad) 1 c) 1 [f x] hs (by omega) (by simp only [maxLen] at h63; omega) (growslice_fits (by omega) hbytes)
    have hge := grownCap_ge w (l.length + 1) l.length e
    have hcm : grownCap w (l.length + 1) l.length e ≤ maxLen := grownCap_le_maxLen w (l.length + 1) l.length e h63
    refine ⟨Option.some w.heap.size, _, _, hr, ⟨.inr ⟨w.heap.size, _, _, rfl, by rw [List.length_append]; rfl, heap_alloc_new w.drew _, by rw [List.length_append]; exact hge, hcm, ?_, ?_⟩⟩, hgb _, ⟨_, rfl, Nat.le_refl _⟩⟩
    · simp only [Array.size_append, List.size_toArray, size_zeroCells, hzs, List.length_append, List.length_map, List.length_cons, List.length_nil]
      omega
    · simp only [Array.toList_append]
      rw [List.length_append, List.map_append, show l.length + [x].length = ((l.map f) ++ [f x]).length by simp, List.take_left]
      rfl
theorem step_stk_new {P : Program} {ops : Array Oper} {o : Oper} {a : Act} {K : Act → World → Prop} {Q : Exit → Act → World → Prop} {E : Prop} {w : World} {B : Option Nat} {bytes : Nat} {z : Value} {l : List α} {i : TypeInfo} {g k : Nat} (hgd : o.guard = none) (s y : Operand) (t : TypeId)
    (ho : o.op = .call { callee := .builtin .append, args := #[s, y], argTypes := #[t, t] }) (ht : P.underlying t = Option.some (.slice e)) (hi : P.info? e = Option.some i) (hz : i.zero = Option.some z) (hsize : i.size = 1) (hby : i.bytes = bytes) (hzs : z.cells.size = 1)
    (hs : a.eval s = .slice (Option.some ⟨g, 0, none⟩) k k) (h : StkAt f e w B (.slice (Option.some ⟨g, 0, none⟩) k k) l) (ad : Addr) (c : Nat) (x : α) (hy : a.eval y = .slice (Option.some ad) 1 c) (hx : w.cell? (ad.add 0) = Option.some (f x)) (h1 : (f x).oneCell' = true) (h63 : k + 1 ≤ maxLen) (hbytes : (k + 1) * bytes ≤ 140737488355328)
    (hK : ∀ B' v' w', StkAt f e w' B' v' (l ++ [x]) → Below w.heap.size w w' → (∃ g', B' = Option.some g' ∧ w.heap.size ≤ g') → K (a.put o.dst v') w') :
    if Region.wanted o (yielded ops a.tmps) = true then Oper.wp P o a w K Q else E := by
  have hw : Region.wanted o (yielded ops a.tmps) = true := by simp [Region.wanted, hgd]
  rw [if_pos hw]
  obtain ⟨B', v', w', hrun, h2, h3, h4⟩ := h.pushNew (P := P) t o.type ht hi hz hsize hby hzs ad c x hx h1 h63 hbytes
  unfold Oper.wp execOp
  simp only [ho, resolve, invoke, builtin, Sem.run_bind, Sem.run_pure, Result.andThen_ok, List.map_toArray, List.map_cons, List.map_nil, hs, hy, hrun]
  exact hK B' v' w' h2 h3 h4
end
end Go.Proofs.YtbcajmkmadgbhaaDoor
