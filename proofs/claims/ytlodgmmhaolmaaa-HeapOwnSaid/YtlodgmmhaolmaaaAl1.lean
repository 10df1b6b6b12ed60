/- A book's rows of entries, grown one by one. -/
import Derived.Test.YtlodgmmhaolmaaaAl0
set_option linter.unusedSimpArgs false
set_option linter.unusedVariables false
namespace Go.Proofs.Ytlodgmmhaolmaaa
open Go.RowKit
/-- a row of marks, to be read -/
def Rd (w : World) (x : SlE) (n j : Nat) : Prop := 0 < n → ∃ g, rowB (slV x) = some g ∧ x.1 = some ⟨g, 0, none⟩ ∧ ∀ q, q < n → w.cell? ⟨g, q * 2, none⟩ = some (.int .i64 0) ∧ w.cell? ⟨g, q * 2 + 1, none⟩ = some (strV (markT j))
theorem Rd.kept {w w' : World} {x : SlE} {n j : Nat} {S : List Nat} (h : Rd w x n j) (ht : Turned S w w') (hS : ∀ g ∈ S, rowB (slV x) ≠ some g) : Rd w' x n j := fun hn => by
  obtain ⟨g, h1, h2, h3⟩ := h hn
  exact ⟨g, h1, h2, fun q hq => ⟨ht.cell (h3 q hq).1 (fun e => hS g e h1), ht.cell (h3 q hq).2 (fun e => hS g e h1)⟩⟩
theorem Rd.less {w : World} {x : SlE} {n m j : Nat} (h : Rd w x n j) (hm : m ≤ n) : Rd w x m j := fun h0 => by
  obtain ⟨g, h1, h2, h3⟩ := h (by omega)
  exact ⟨g, h1, h2, fun q hq => h3 q (by omega)⟩
theorem Rd.lt {w : World} {x : SlE} {n j g : Nat} (h : Rd w x n j) (hn : 0 < n) (hg : rowB (slV x) = some g) : g < w.heap.size := by
  obtain ⟨g', h1, h2, h3⟩ := h hn
  rw [h1] at hg
  injection hg with hg
  subst hg
  exact cell_lt (h3 0 hn).1
theorem Rd.ofRow {w : World} {x : SlE} {n j : Nat} (h : RowE w (slV x) (List.replicate n (mkE j))) : Rd w x n j := fun hn => by
  obtain ⟨g, cap, e, ho⟩ := h.some (by simpa using hn)
  have hc := own_cap ho
  simp only [List.length_replicate] at hc
  refine ⟨g, ?_, ?_, fun q hq => ?_⟩
  · rw [e]; exact rowB_pos (by omega)
  · unfold slV at e
    injection e with e1
  · have := ent_cells ho rfl (i := q) (by simpa using hq)
    rw [atE_rep _ _ _ hq] at this
    exact this
/-- rows that are grown: lo and above are still to do -/
structure Gr (w wr : World) (b : Nat) (v : Value) (xs : List SlE) (lo : Nat) (u : Value) (zs : List SlE) : Prop where
  ap : Apart w.heap.size b v xs
  book : BookAt wr b v xs
  rows : ∀ j, lo ≤ j → j < xs.length → RowE wr (slV (xAt xs j)) (List.replicate (xAt xs j).2.1 (mkE j))
  rd : ∀ j, j < xs.length → Rd wr (xAt xs j) (xAt xs j).2.1 j
  zrd : ∀ j, j < zs.length → (xAt zs j).2.1 = (xAt xs j).2.1 + 20 ∧ Rd wr (xAt zs j) ((xAt xs j).2.1 + 20) j
  zf : ∀ j, j < zs.length → ∀ g, xB zs j = some g → (xB xs j = some g ∨ w.heap.size ≤ g) ∧ u.ownBlock ≠ some g
  zl : zs.length ≤ xs.length
  own : wr.ownsRow w.heap.size 23 1 u zs.length (slC zs)
  t : Turned (blocksOf xs) w wr
theorem own_lt {w : World} {base : Nat} {e : TypeId} {size : Nat} {v : Value} {n : Nat} {xs : List Value} (h : w.ownsRow base e size v n xs) {g : Nat} (hg : v.ownBlock = some g) : base ≤ g ∧ g < w.heap.size := by
  obtain ⟨_, ⟨rfl, _⟩ | ⟨g', cap, cur, rfl, hb, hg', _⟩⟩ := h
  · cases hg
  · simp only [Value.ownBlock, Option.some.injEq] at hg
    subst hg
    exact ⟨hb, block_lt hg'⟩
theorem Gr.kept {w wr w' : World} {b : Nat} {v : Value} {xs : List SlE} {lo : Nat} {u : Value} {zs : List SlE} {S : List Nat} (h : Gr w wr b v xs lo u zs) (ht : Turned S wr w')
    (h1 : ∀ g ∈ S, g ≠ b ∧ v.ownBlock ≠ some g) (h2 : ∀ g ∈ S, ∀ j, lo ≤ j → j < xs.length → xB xs j ≠ some g) (h3 : ∀ g ∈ S, ∀ j, j < zs.length → xB zs j ≠ some g) (h4 : ∀ g ∈ S, u.ownBlock ≠ some g) (h5 : ∀ g ∈ S, g ∈ blocksOf xs ∨ w.heap.size ≤ g)
    (hr : ∀ j, j < xs.length → (∀ g ∈ S, xB xs j ≠ some g) ∨ Rd w' (xAt xs j) (xAt xs j).2.1 j) : Gr w w' b v xs lo u zs where
  ap := h.ap
  book := h.book.kept ht (fun e => (h1 b e).1 rfl) (fun g hg => (h1 g hg).2)
  rows := fun j hj hm => (h.rows j hj hm).kept ht (fun g hg => h2 g hg j hj hm)
  rd := fun j hj => by
    rcases hr j hj with h' | h'
    · exact (h.rd j hj).kept ht h'
    · exact h'
  zrd := fun j hj => ⟨(h.zrd j hj).1, (h.zrd j hj).2.kept ht (fun g hg => h3 g hg j hj)⟩
  zf := h.zf
  zl := h.zl
  own := row_kept h.own ht h4
  t := h.t.step ht (fun x hx => by
    rcases h5 x hx with h' | h'
    · exact Or.inl h'
    · exact Or.inr h')
theorem Gr.step {w wr w' : World} {b : Nat} {v : Value} {xs : List SlE} {lo : Nat} {u : Value} {zs : List SlE} (h : Gr w wr b v xs lo u zs) (hb : Below wr.heap.size wr w') : Gr w w' b v xs lo u zs :=
  h.kept (S := []) (Turned.ofBelow hb) (by simp) (by simp) (by simp) (by simp) (by simp) (fun j _ => Or.inl (by simp))
theorem Gr.start {w wr : World} {b : Nat} {v : Value} {xs : List SlE} (h : Mk w wr b v xs xs.length 0) : Gr w wr b v xs 0 (.slice none 0 0) [] := by
  have hrow : ∀ j, j < xs.length → RowE wr (slV (xAt xs j)) (List.replicate (xAt xs j).2.1 (mkE j)) := fun j hj => by
    obtain ⟨L, hL, h1⟩ := h.rows j hj
    have e := rep_of (e := mkE j) (fun q hq => h1 q hq (Or.inl hj))
    obtain ⟨A, cap, e2, _⟩ := hL.form
    have : (xAt xs j).2.1 = L.length := by
      unfold slV at e2
      injection e2
    rw [this, ← e]
    exact hL
  exact ⟨h.ap, h.book, fun j _ hj => hrow j hj, fun j hj => Rd.ofRow (hrow j hj), fun j hj => absurd hj (by simp), fun j hj => absurd hj (by simp), by simp, World.ownsRow_nil _ _ _ _, h.t⟩
/-- the row that is being grown -/
structure Gi (w wr : World) (b : Nat) (v : Value) (xs : List SlE) (i c : Nat) (u : Value) (zs : List SlE) (y : SlE) : Prop where
  g : Gr w wr b v xs (i + 1) u zs
  zl : zs.length = i
  lt : i < xs.length
  len : y.2.1 = (xAt xs i).2.1 + c
  cur : RowE wr (slV y) (List.replicate ((xAt xs i).2.1 + c) (mkE i))
  curB : ∀ g, rowB (slV y) = some g → (xB xs i = some g ∨ w.heap.size ≤ g) ∧ u.ownBlock ≠ some g ∧ ∀ j, j < i → xB zs j ≠ some g
theorem Gi.step {w wr w' : World} {b : Nat} {v : Value} {xs : List SlE} {i c : Nat} {u : Value} {zs : List SlE} {y : SlE} (h : Gi w wr b v xs i c u zs y) (hb : Below wr.heap.size wr w') : Gi w w' b v xs i c u zs y :=
  ⟨h.g.step hb, h.zl, h.lt, h.len, h.cur.kept (S := []) (Turned.ofBelow hb) (by simp), h.curB⟩
theorem Gi.start {w wr : World} {b : Nat} {v : Value} {xs : List SlE} {i : Nat} {u : Value} {zs : List SlE} (h : Gr w wr b v xs i u zs) (hz : zs.length = i) (hi : i < xs.length) : Gi w wr b v xs i 0 u zs (xAt xs i) where
  g := ⟨h.ap, h.book, fun j hj hm => h.rows j (by omega) hm, h.rd, h.zrd, h.zf, h.zl, h.own, h.t⟩
  zl := hz
  lt := hi
  len := rfl
  cur := h.rows i (Nat.le_refl _) hi
  curB := fun g hg => by
    have hgl := h.ap.lx i hi g hg
    refine ⟨Or.inl hg, fun e => ?_, fun j hj e => ?_⟩
    · have := (own_lt h.own e).1
      omega
    · rcases (h.zf j (by omega) g e).1 with h' | h'
      · exact h.ap.two j i (by omega) hi (by omega) g h' hg
      · omega
theorem Gi.app {w w1 w2 : World} {b : Nat} {v : Value} {xs : List SlE} {i c : Nat} {u : Value} {zs : List SlE} {y : SlE} (h : Gi w w1 b v xs i c u zs y) {g cap n : Nat} (hn : (xAt xs i).2.1 + c = n)
    (ho : w2.ownsRow 0 27 2 (.slice (some ⟨g, 0, none⟩) (n + 1) cap) (n + 1) (entC (List.replicate n (mkE i) ++ [mkE i])))
    (hd : (rowB (slV y) = some g ∧ w1.grownBy w2 (some g)) ∨ (w1.heap.size ≤ g ∧ w1.grownBy w2 none)) : Gi w w2 b v xs i (c + 1) u zs (some ⟨g, 0, none⟩, n + 1, cap) := by
  subst hn
  have hcap := own_cap ho
  have hcur : RowE w2 (slV (some ⟨g, 0, none⟩, (xAt xs i).2.1 + c + 1, cap)) (List.replicate ((xAt xs i).2.1 + (c + 1)) (mkE i)) := by
    have e : List.replicate ((xAt xs i).2.1 + (c + 1)) (mkE i) = List.replicate ((xAt xs i).2.1 + c) (mkE i) ++ [mkE i] := by
      rw [← Nat.add_assoc, List.replicate_succ']
    rw [e]
    exact RowE.mk ho (by simp) (show 0 < cap by omega)
  have hB : rowB (slV (some ⟨g, 0, none⟩, (xAt xs i).2.1 + c + 1, cap)) = some g := rowB_pos (show 0 < cap by omega)
  have hws : w.heap.size ≤ w1.heap.size := h.g.t.size
  rcases hd with ⟨h1, h2⟩ | ⟨h1, h2⟩
  · obtain ⟨k1, k2, k3⟩ := h.curB g h1
    have ht : Turned [g] w1 w2 := Turned.ofGrown h2 (fun x e => by injection e with e; subst e; simp)
    have hx : ∀ j, j < xs.length → j ≠ i → xB xs j ≠ some g := fun j hj hji e => by
      rcases k1 with k | k
      · exact h.g.ap.two i j h.lt hj (fun e => hji e.symm) g k e
      · have := h.g.ap.lx j hj g e
        omega
    refine ⟨h.g.kept ht (fun x hx' => ?_) (fun x hx' j h1 hj => ?_) (fun x hx' j hj => ?_) (fun x hx' => ?_) (fun x hx' => ?_) (fun j hj => ?_), h.zl, h.lt, rfl, hcur, fun g' e => ?_⟩
    · rw [List.mem_singleton] at hx'
      subst hx'
      rcases k1 with k | k
      · exact ⟨fun e => h.g.ap.b i h.lt (by rw [k, e]), h.g.ap.v i h.lt _ k⟩
      · exact ⟨by have := h.g.ap.lb; omega, fun e => by have := h.g.ap.lv _ e; omega⟩
    · rw [List.mem_singleton] at hx'
      subst hx'
      exact hx j hj (by omega)
    · rw [List.mem_singleton] at hx'
      subst hx'
      exact k3 j (by have := h.zl; omega)
    · rw [List.mem_singleton] at hx'
      subst hx'
      exact k2
    · rw [List.mem_singleton] at hx'
      subst hx'
      rcases k1 with k | k
      · exact Or.inl (blocksOf_at h.lt k)
      · exact Or.inr k
    · by_cases hji : j = i
      · subst hji
        by_cases hxg : xB xs j = some g
        · right
          intro hn
          obtain ⟨g', r1, r2, _⟩ := h.g.rd j hj hn
          rw [show rowB (slV (xAt xs j)) = some g from hxg] at r1
          injection r1 with r1
          subst r1
          obtain ⟨g'', s1, s2, s3⟩ := (Rd.ofRow hcur) (by omega)
          rw [hB] at s1
          injection s1 with s1
          subst s1
          exact ⟨g, hxg, r2, fun q hq => s3 q (by omega)⟩
        · left
          intro x hx'
          rw [List.mem_singleton] at hx'
          subst hx'
          exact hxg
      · left
        intro x hx'
        rw [List.mem_singleton] at hx'
        subst hx'
        exact hx j hj hji
    · rw [hB] at e
      injection e with e
      subst e
      exact ⟨k1, k2, k3⟩
  · have ht : Turned [] w1 w2 := Turned.ofGrown h2 (fun x e => by cases e)
    refine ⟨h.g.kept ht (by simp) (by simp) (by simp) (by simp) (by simp) (fun j _ => Or.inl (by simp)), h.zl, h.lt, rfl, hcur, fun g' e => ?_⟩
    rw [hB] at e
    injection e with e
    subst e
    refine ⟨Or.inr (by omega), fun e => ?_, fun j hj e => ?_⟩
    · have := (own_lt h.g.own e).2
      omega
    · have := ((h.g.zrd j (by have := h.zl; omega)).2).lt (by omega) e
      omega
theorem Gi.fin {w w1 w2 : World} {b : Nat} {v : Value} {xs : List SlE} {i : Nat} {u : Value} {zs : List SlE} {y : SlE} (h : Gi w w1 b v xs i 20 u zs y) {g cap : Nat}
    (ho : w2.ownsRow w.heap.size 23 1 (.slice (some ⟨g, 0, none⟩) (i + 1) cap) (i + 1) (slC zs ++ [slV y])) (hg : w1.grownBy w2 u.ownBlock) (hd : u.ownBlock = some g ∨ w1.heap.size ≤ g) :
    Gr w w2 b v xs (i + 1) (.slice (some ⟨g, 0, none⟩) (i + 1) cap) (zs ++ [y]) := by
  have ht : Turned u.ownBlock.toList w1 w2 := Turned.ofGrown hg (fun x e => by rw [e]; simp)
  have hu : ∀ x ∈ u.ownBlock.toList, u.ownBlock = some x ∧ w.heap.size ≤ x := fun x hx => by
    rw [Option.mem_toList] at hx
    have e : u.ownBlock = some x := hx
    exact ⟨e, (own_lt h.g.own e).1⟩
  have hlen : (zs ++ [y]).length = i + 1 := by simp [h.zl]
  have hat : ∀ j, j < (zs ++ [y]).length → (j < i ∧ xAt (zs ++ [y]) j = xAt zs j) ∨ (j = i ∧ xAt (zs ++ [y]) j = y) := fun j hj => by
    rw [xAt_snoc]
    rw [hlen] at hj
    by_cases hji : j = i
    · right
      rw [if_neg (by rw [h.zl]; omega), if_pos (by rw [h.zl]; exact hji)]
      exact ⟨hji, rfl⟩
    · left
      rw [if_pos (by rw [h.zl]; omega)]
      exact ⟨by omega, rfl⟩
  have hyr : Rd w1 y ((xAt xs i).2.1 + 20) i := Rd.ofRow h.cur
  refine ⟨h.g.ap, h.g.book.kept ht (fun e => ?_) (fun x hx => ?_), fun j hj hm => (h.g.rows j hj hm).kept ht (fun x hx e => ?_), fun j hj => (h.g.rd j hj).kept ht (fun x hx e => ?_), fun j hj => ?_, fun j hj g' e => ?_, ?_, ?_, h.g.t.step ht (fun x hx => Or.inr (hu x hx).2)⟩
  · have := (hu b e).2
    have := h.g.ap.lb
    omega
  · intro e
    have := (hu x hx).2
    have := h.g.ap.lv x e
    omega
  · have := (hu x hx).2
    have := h.g.ap.lx j hm x e
    omega
  · have := (hu x hx).2
    have := h.g.ap.lx j hj x e
    omega
  · rcases hat j hj with ⟨hji, e⟩ | ⟨hji, e⟩
    · rw [e]
      have hz := h.g.zrd j (by rw [h.zl]; exact hji)
      exact ⟨hz.1, hz.2.kept ht (fun x hx e => (h.g.zf j (by rw [h.zl]; exact hji) x e).2 (hu x hx).1)⟩
    · rw [e]
      subst hji
      exact ⟨h.len, hyr.kept ht (fun x hx e => (h.curB x e).2.1 (hu x hx).1)⟩
  · unfold xB at e
    rcases hat j hj with ⟨hji, e2⟩ | ⟨hji, e2⟩
    · rw [e2] at e
      obtain ⟨z1, z2⟩ := h.g.zf j (by rw [h.zl]; exact hji) g' e
      refine ⟨z1, fun e3 => ?_⟩
      rw [Value.ownBlock] at e3
      rcases hd with hd | hd
      · exact z2 (by rw [hd]; exact e3)
      · have := ((h.g.zrd j (by rw [h.zl]; exact hji)).2).lt (by omega) e
        have e4 : g = g' := by simpa using e3
        omega
    · rw [e2] at e
      subst hji
      obtain ⟨z1, z2, _⟩ := h.curB g' e
      refine ⟨z1, fun e3 => ?_⟩
      rw [Value.ownBlock] at e3
      rcases hd with hd | hd
      · exact z2 (by rw [hd]; exact e3)
      · have := hyr.lt (by omega) e
        have e4 : g = g' := by simpa using e3
        omega
  · rw [hlen]
    have := h.lt
    omega
  · rw [hlen, show slC (zs ++ [y]) = slC zs ++ [slV y] by simp [slC]]
    exact ho
end Go.Proofs.Ytlodgmmhaolmaaa
