/- A book's rows of entries: apart from each other; marked; grown. -/
import Derived.Test.YtlodgmmhaolmaaaApk
import Derived.Test.YtlodgmmhaolmaaaBk
import Derived.Test.YtlodgmmhaolmaaaHpJ
set_option linter.unusedSimpArgs false
set_option linter.unusedVariables false
namespace Go.Proofs.Ytlodgmmhaolmaaa
open Go.RowKit
def xAt (xs : List SlE) (i : Nat) : SlE := xs.getD i (none, 0, 0)
abbrev xB (xs : List SlE) (i : Nat) : Option Nat := rowB (slV (xAt xs i))
/-- the mark of the i-th list -/
def mkE (i : Nat) : Ent := (0, markT i)
theorem xAt_snoc (xs : List SlE) (x : SlE) (i : Nat) : xAt (xs ++ [x]) i = if i < xs.length then xAt xs i else if i = xs.length then x else (none, 0, 0) := by
  unfold xAt
  rw [List.getD_eq_getElem?_getD, List.getD_eq_getElem?_getD]
  split
  · rw [List.getElem?_append_left (by assumption)]
  · rw [List.getElem?_append_right (by omega)]
    split
    · rename_i h; subst h; simp
    · have : i - xs.length ≠ 0 := by omega
      cases h : i - xs.length with
      | zero => omega
      | succ n => simp
theorem slC_at (xs : List SlE) (i : Nat) (h : i < xs.length) : (slC xs)[i]? = some (slV (xAt xs i)) := by
  unfold slC xAt
  rw [List.getElem?_map, List.getD_eq_getElem?_getD, List.getElem?_eq_getElem h]
  rfl
theorem atE_rep (n j : Nat) (e : Ent) (h : j < n) : atE (List.replicate n e) j = e := by
  unfold atE
  rw [List.getD_eq_getElem?_getD, List.getElem?_replicate, if_pos h]; rfl
theorem rep_of {L : List Ent} {e : Ent} (h : ∀ q, q < L.length → atE L q = e) : L = List.replicate L.length e := by
  apply List.ext_getElem?
  intro q
  rw [List.getElem?_replicate]
  split
  · rename_i hq
    have := h q hq
    unfold atE at this
    rw [List.getD_eq_getElem?_getD, List.getElem?_eq_getElem hq] at this
    rw [List.getElem?_eq_getElem hq]
    exact congrArg some this
  · rename_i hq
    exact List.getElem?_eq_none (by omega)
/-- rows apart from each other, from the book and its row of rows; all of them below S -/
structure Apart (S b : Nat) (v : Value) (xs : List SlE) : Prop where
  lb : b < S
  lv : ∀ g, v.ownBlock = some g → g < S
  lx : ∀ i, i < xs.length → ∀ g, xB xs i = some g → g < S
  b : ∀ i, i < xs.length → xB xs i ≠ some b
  v : ∀ i, i < xs.length → ∀ g, xB xs i = some g → v.ownBlock ≠ some g
  two : ∀ i k, i < xs.length → k < xs.length → i ≠ k → ∀ g, xB xs i = some g → xB xs k ≠ some g
def blocksOf (xs : List SlE) : List Nat := xs.filterMap fun x => rowB (slV x)
theorem blocksOf_at {xs : List SlE} {i g : Nat} (hi : i < xs.length) (h : xB xs i = some g) : g ∈ blocksOf xs := by
  refine List.mem_filterMap.2 ⟨xAt xs i, ?_, h⟩
  unfold xAt
  rw [List.getD_eq_getElem?_getD, List.getElem?_eq_getElem hi]
  exact List.getElem_mem hi
theorem blocksOf_mem {xs : List SlE} {g : Nat} (h : g ∈ blocksOf xs) : ∃ i, i < xs.length ∧ xB xs i = some g := by
  obtain ⟨x, hx, hb⟩ := List.mem_filterMap.1 h
  obtain ⟨i, hi, rfl⟩ := List.mem_iff_getElem.1 hx
  refine ⟨i, hi, ?_⟩
  unfold xB xAt
  rw [List.getD_eq_getElem?_getD, List.getElem?_eq_getElem hi]
  exact hb
theorem row_kept {w w' : World} {base : Nat} {e : TypeId} {size : Nat} {v : Value} {n : Nat} {xs : List Value} {S : List Nat} (h : w.ownsRow base e size v n xs) (ht : Turned S w w') (hS : ∀ x ∈ S, v.ownBlock ≠ some x) : w'.ownsRow base e size v n xs := by
  obtain ⟨h1, h2 | ⟨g, cap, cur, rfl, hb, hg, r⟩⟩ := h
  · exact ⟨h1, Or.inl h2⟩
  · exact ⟨h1, Or.inr ⟨g, cap, cur, rfl, hb, by rw [ht.block g (block_lt hg) (fun e => hS g e rfl)]; exact hg, r⟩⟩
theorem BookAt.kept {w w' : World} {b : Nat} {v : Value} {xs : List SlE} {S : List Nat} (h : BookAt w b v xs) (ht : Turned S w w') (hb : b ∉ S) (hS : ∀ x ∈ S, v.ownBlock ≠ some x) : BookAt w' b v xs :=
  ⟨by rw [ht.block b (block_lt h.blk) hb]; exact h.blk, row_kept h.row ht hS, h.ne⟩
theorem BookAt.below {w w' : World} {b : Nat} {v : Value} {xs : List SlE} (h : BookAt w b v xs) (hb : Below w.heap.size w w') : BookAt w' b v xs := h.kept (S := []) (Turned.ofBelow hb) (by simp) (by simp)
/-- where the row of rows lies -/
theorem BookAt.at {w : World} {b : Nat} {v : Value} {xs : List SlE} (h : BookAt w b v xs) : ∃ A cap, v = .slice A xs.length cap ∧ (0 < xs.length → ∃ g, A = some ⟨g, 0, none⟩ ∧ ∀ i, i < xs.length → w.cell? ⟨g, i, none⟩ = some (slV (xAt xs i))) := by
  rcases h.row with ⟨h1, ⟨hv, hn⟩ | ⟨g, cap, cur, hv, hb, hg, r⟩⟩
  · exact ⟨none, 0, by rw [hv, hn], fun h0 => by omega⟩
  · refine ⟨_, cap, hv, fun h0 => ⟨g, rfl, fun i hi => ?_⟩⟩
    have hr := h.row
    rw [hv] at hr
    rw [hr.cellAt i (by omega)]
    exact slC_at xs i hi
theorem own_putk {w : World} {S g cap n i : Nat} {M : List Ent} (e : Ent) (h : w.ownsRow S 27 2 (.slice (some ⟨g, 0, none⟩) n cap) n (entC M)) :
    ((w.setCell ⟨g, i * 2, none⟩ (.int .i64 e.1)).setCell ⟨g, i * 2 + 1, none⟩ (strV e.2)).ownsRow S 27 2 (.slice (some ⟨g, 0, none⟩) n cap) n (entC (M.set i e)) := by
  have := ((h.stored (i * 2) (.int .i64 e.1)).1.stored (i * 2 + 1) (strV e.2)).1
  rwa [entC_set] at this
/-- how far the marks are written -/
structure Mk (w wr : World) (b : Nat) (v : Value) (xs : List SlE) (i k : Nat) : Prop where
  ap : Apart w.heap.size b v xs
  book : BookAt wr b v xs
  rows : ∀ j, j < xs.length → ∃ L, RowE wr (slV (xAt xs j)) L ∧ ∀ q, q < L.length → (j < i ∨ (j = i ∧ q < k)) → atE L q = mkE j
  t : Turned (blocksOf xs) w wr
theorem Mk.step {w wr w' : World} {b : Nat} {v : Value} {xs : List SlE} {i k : Nat} (h : Mk w wr b v xs i k) (hb : Below wr.heap.size wr w') : Mk w w' b v xs i k :=
  ⟨h.ap, h.book.below hb, fun j hj => by
    obtain ⟨L, hL, h1⟩ := h.rows j hj
    exact ⟨L, hL.kept (S := []) (Turned.ofBelow hb) (by simp), h1⟩, h.t.trans (Turned.ofBelow hb)⟩
theorem Mk.next {w wr : World} {b : Nat} {v : Value} {xs : List SlE} {i : Nat} (h : Mk w wr b v xs i (xAt xs i).2.1) : Mk w wr b v xs (i + 1) 0 :=
  ⟨h.ap, h.book, fun j hj => by
    obtain ⟨L, hL, h1⟩ := h.rows j hj
    refine ⟨L, hL, fun q hq hc => h1 q hq ?_⟩
    rcases Nat.lt_or_ge j i with h2 | h2
    · exact Or.inl h2
    · obtain rfl : j = i := by omega
      obtain ⟨A, cap, e, _⟩ := hL.form
      have : (xAt xs j).2.1 = L.length := by
        unfold slV at e
        injection e
      exact Or.inr ⟨rfl, by omega⟩, h.t⟩
/-- the row that is being marked -/
theorem Mk.row {w wr : World} {b : Nat} {v : Value} {xs : List SlE} {i k : Nat} (h : Mk w wr b v xs i k) (hi : i < xs.length) (hk : k < (xAt xs i).2.1) :
    ∃ g cap, xAt xs i = (some ⟨g, 0, none⟩, (xAt xs i).2.1, cap) ∧ (xAt xs i).2.1 ≤ maxLen ∧ (∃ u0 u1, wr.cell? ⟨g, k * 2, none⟩ = some u0 ∧ wr.cell? ⟨g, k * 2 + 1, none⟩ = some u1) ∧ wr.frozen? ⟨g, k * 2, none⟩ = false ∧ wr.frozen? ⟨g, k * 2 + 1, none⟩ = false ∧
      Mk w ((wr.setCell ⟨g, k * 2, none⟩ (.int .i64 0)).setCell ⟨g, k * 2 + 1, none⟩ (strV (markT i))) b v xs i (k + 1) := by
  obtain ⟨L, hL, h1⟩ := h.rows i hi
  have hxn : (xAt xs i).2.1 = L.length := by
    obtain ⟨A, cap, e, _⟩ := hL.form
    unfold slV at e
    injection e
  obtain ⟨g, cap, e, ho⟩ := hL.some (by omega)
  have hcap := own_cap ho
  have he : xAt xs i = (some ⟨g, 0, none⟩, (xAt xs i).2.1, cap) := by
    rw [hxn]
    unfold slV at e
    injection e with e1 e2 e3
    rw [← e1, ← e2, ← e3]
  have hB : xB xs i = some g := by
    unfold xB; rw [e]; exact rowB_pos (by omega)
  obtain ⟨c0, c1⟩ := ent_cells ho rfl (i := k) (by omega)
  have ho2 := own_putk (i := k) (mkE i) ho
  have ht : Turned [g] wr ((wr.setCell ⟨g, k * 2, none⟩ (.int .i64 0)).setCell ⟨g, k * 2 + 1, none⟩ (strV (markT i))) := (Turned.set _ _ _).trans (Turned.set _ _ _)
  refine ⟨g, cap, he, by rw [hxn]; omega, ⟨_, _, c0, c1⟩, ho.frozenAt _, ho.frozenAt _, h.ap, h.book.kept ht ?_ ?_, ?_, h.t.trans (ht.more fun x hx => ?_)⟩
  · intro hm
    rw [List.mem_singleton] at hm
    exact h.ap.b i hi (by rw [hB, hm])
  · intro x hx
    rw [List.mem_singleton] at hx
    subst hx
    exact h.ap.v i hi _ hB
  · intro j hj
    by_cases hji : j = i
    · subst hji
      refine ⟨L.set k (mkE j), ?_, ?_⟩
      · rw [e]
        exact RowE.mk ho2 (by simp) (by omega)
      · intro q hq hc
        rw [List.length_set] at hq
        by_cases hqk : q = k
        · subst hqk
          unfold atE
          rw [List.getD_eq_getElem?_getD, List.getElem?_set_self (by omega)]; rfl
        · have := h1 q hq (by omega)
          unfold atE at this ⊢
          rw [List.getD_eq_getElem?_getD, List.getElem?_set_ne (by omega), ← List.getD_eq_getElem?_getD]
          exact this
    · obtain ⟨L', hL', h1'⟩ := h.rows j hj
      refine ⟨L', hL'.kept ht (fun x hx => ?_), fun q hq hc => h1' q hq (by omega)⟩
      rw [List.mem_singleton] at hx
      subst hx
      exact h.ap.two i j hi hj (fun e => hji e.symm) _ hB
  · rw [List.mem_singleton] at hx
    subst hx
    exact blocksOf_at hi hB
theorem Mk.put {w wr : World} {b : Nat} {v : Value} {xs : List SlE} {i k g n cap : Nat} (h : Mk w wr b v xs i k) (hi : i < xs.length) (hx : xAt xs i = (some ⟨g, 0, none⟩, n, cap)) (hk : k < n) :
    Mk w ((wr.setCell ⟨g, k * 2, none⟩ (.int .i64 0)).setCell ⟨g, k * 2 + 1, none⟩ (strV (markT i))) b v xs i (k + 1) := by
  obtain ⟨g', cap', e, _, _, _, _, h1⟩ := h.row hi (k := k) (by rw [hx]; exact hk)
  rw [hx] at e
  simp only [Prod.mk.injEq, Option.some.injEq, Addr.mk.injEq, and_true, true_and] at e
  obtain ⟨rfl, rfl⟩ := e
  exact h1
/-- what the marking's region reads -/
abbrev MkS (S0 : Nat) (w0 : World) (b : Nat) (v : Value) (vb n g q : Nat) (y u0 u1 : Value) (x : World) : Prop :=
  x.cell? ⟨b, 12, none⟩ = some v ∧ x.cell? ⟨vb, n, none⟩ = some y ∧ x.cell? ⟨g, q * 2, none⟩ = some u0 ∧ x.cell? ⟨g, q * 2 + 1, none⟩ = some u1 ∧ x.frozen? ⟨g, q * 2, none⟩ = false ∧ x.frozen? ⟨g, q * 2 + 1, none⟩ = false ∧ Below S0 w0 x ∧ S0 ≤ x.heap.size
theorem MkS.step {S0 : Nat} {w0 : World} {b : Nat} {v : Value} {vb n g q : Nat} {y u0 u1 : Value} {x x' : World} (h : MkS S0 w0 b v vb n g q y u0 u1 x) (hb : Below x.heap.size x x') : MkS S0 w0 b v vb n g q y u0 u1 x' := by
  obtain ⟨h1, h2, h3, h4, h5, h6, h7, h8⟩ := h
  exact ⟨by rw [hb.cell (cell_lt h1)]; exact h1, by rw [hb.cell (cell_lt h2)]; exact h2, by rw [hb.cell (cell_lt h3)]; exact h3, by rw [hb.cell (cell_lt h4)]; exact h4, by rw [hb.frozen (cell_lt h3)]; exact h5, by rw [hb.frozen (cell_lt h4)]; exact h6, h7.trans (hb.mono h8), Nat.le_trans h8 hb.size⟩
end Go.Proofs.Ytlodgmmhaolmaaa
