/- weirmem.Book: entries kept. -/
import Derived.Test.YtlodgmmhaolmaaaAln
import Derived.Test.YtlodgmmhaolmaaaMrk
import Derived.Test.YtlodgmmhaolmaaaHpR
import Derived.Deep.AppendLies
set_option linter.unusedSimpArgs false
set_option linter.unusedVariables false
namespace Go.Proofs.Ytlodgmmhaolmaaa
open Go.RowKit
/-- a row of slices, as cells -/
abbrev SlE := Option Addr × Nat × Nat
def slV (x : SlE) : Value := .slice x.1 x.2.1 x.2.2
def slC (xs : List SlE) : List Value := xs.map slV
/-- a book: entries alone are kept -/
structure BookAt (w : World) (b : Nat) (v : Value) (xs : List SlE) : Prop where
  blk : w.heap[b]? = some (.cells #[.slice none 0 0, .slice none 0 0, .slice none 0 0, .slice none 0 0, .slice none 0 0, .slice none 0 0, .slice none 0 0, .slice none 0 0, .slice none 0 0, .slice none 0 0, .slice none 0 0, .slice none 0 0, v, .slice none 0 0, .slice none 0 0, .slice none 0 0, .slice none 0 0, .slice none 0 0, .slice none 0 0, .slice none 0 0, .slice none 0 0, .slice none 0 0, .slice none 0 0, .slice none 0 0, .slice none 0 0, .slice none 0 0, .slice none 0 0, .slice none 0 0] 81 (0, 0))
  row : w.ownsRow 0 23 1 v xs.length (slC xs)
  ne : v.ownBlock ≠ some b
theorem info2 : ∃ i, Try.prog.info? 23 = some i ∧ i.zero = some (.slice none 0 0) ∧ i.size = 1 ∧ i.bytes = 24 :=
  info_parts (show (Try.prog.info? 23).map (fun i => (i.zero, i.size, i.bytes)) = some (some (.slice none 0 0), 1, 24) by kernel_rfl)
theorem BookAt.cell {w : World} {b : Nat} {v : Value} {xs : List SlE} (h : BookAt w b v xs) : w.cell? ⟨b, 12, none⟩ = some v := cells_at h.blk 12 _ rfl
theorem slV_one (w : World) (x : SlE) (T : TypeId) : ∀ (j : Nat) (u : Value), [slV x][j]? = some u → (w.alloc (.cells #[slV x] T)).cell? ((⟨w.heap.size, 0, none⟩ : Addr).add j) = some u := fun j u hj => by
  have h0 : j = 0 := by
    have := (List.getElem?_eq_some_iff.1 hj).1
    simpa using this
  subst h0
  have e : (⟨w.heap.size, 0, none⟩ : Addr).add 0 = ⟨w.heap.size, 0, none⟩ := by simp [Addr.add]
  rw [e, World.cell?_alloc_at _ _ _ _ rfl]
  simpa using hj
set_option maxHeartbeats 4000000 in
set_option maxRecDepth 100000 in
theorem tentries_any (b : Nat) (v : Value) (xs : List SlE) (x : SlE) (w : World) (h : BookAt w b v xs) (hk : (xs.length + 1) * 24 ≤ 140737488355328) :
    Calls Try.prog 26 #[.pointer (some ⟨b, 0, none⟩), slV x] w fun e w' => e = .returned (.tuple #[]) ∧ ∃ v', BookAt w' b v' (xs ++ [x]) ∧ Turned (b :: v.ownBlock.toList) w w' ∧ (v'.ownBlock = v.ownBlock ∨ ∀ g, v'.ownBlock = some g → w.heap.size ≤ g) := by
  obtain ⟨i0, hi, hiz, hi1, hi2⟩ := info2
  have HI0 : Bx _ := ⟨And.intro hi (And.intro hiz (And.intro hi1 hi2))⟩
  have H := Bx.mk h
  have c0 := h.cell
  have HLT : Bx (b < w.heap.size) := ⟨block_lt h.blk⟩
  clear hi hiz hi1 hi2 h
  obtain ⟨x0, x1, x2⟩ := x
  unfold slV
  simp only
  go_enter Try.func26, Try.ntmps26
  go_wp2_with (at_builtin; refine wpList_append_lies _ rfl _ _ 64 rfl 0 23 i0 (.slice none 0 0) 1 24 Try.underlying64 HI0.out.1 HI0.out.2.1 HI0.out.2.2.1 HI0.out.2.2.2 rfl (by decide) v xs.length (slC xs) rfl (H.out.row.alloc _) ⟨w.heap.size, 0, none⟩ 1 1 [slV (x0, x1, x2)] rfl rfl (slV_one w (x0, x1, x2) _) (by intro u hu; simp only [List.mem_cons, List.not_mem_nil, or_false] at hu; subst hu; rfl) (by decide) (by unfold maxLen; omega) hk (Nat.zero_le _) _ rfl ?_; intro g cap w2 hown hg hat hlt; have HK := Bx.mk (And.intro hown (And.intro hg hat)); have hblk : w2.heap[b]? = w.heap[b]? := (hg.block b (by have := HLT.out; simp; omega) (fun e => H.out.ne e.symm)).trans (heap_alloc_old _ _ HLT.out); have f12 := cells_free (hblk.trans H.out.blk) 12; have c12 : w2.cell? ⟨b, 12, none⟩ = some v := cells_at (hblk.trans H.out.blk) 12 _ rfl; have HBK := Bx.mk hblk; clear hown hg hat hlt hblk)
  have hgb : g ≠ b := by
    rcases HK.out.2.2 with e | e
    · rintro rfl; exact H.out.ne e
    · rw [e]; have := HLT.out; simp; omega
  have ht : Turned (b :: v.ownBlock.toList) w (w2.setCell ⟨b, 12, none⟩ (.slice (some ⟨g, 0, none⟩) (xs.length + 1) cap)) := by
    have t1 : Turned (b :: v.ownBlock.toList) w (w.alloc (.cells #[.slice x0 x1 x2] 23)) := Turned.ofBelow (below1 _ _)
    refine (t1.trans (Turned.ofGrown HK.out.2.1 (fun y e => ?_))).trans ((Turned.set b 12 _).more (by simp))
    rw [e]; simp
  have hB : BookAt (w2.setCell ⟨b, 12, none⟩ (.slice (some ⟨g, 0, none⟩) (xs.length + 1) cap)) b (.slice (some ⟨g, 0, none⟩) (xs.length + 1) cap) (xs ++ [(x0, x1, x2)]) := by
    refine ⟨?_, ?_, by simpa [Value.ownBlock] using hgb⟩
    · have := cells_set (HBK.out.trans H.out.blk) 12 (.slice (some ⟨g, 0, none⟩) (xs.length + 1) cap)
      simpa using this
    · have h1 := ownsRow_setCell_other (a := ⟨b, 12, none⟩) HK.out.1 (by simpa [Value.ownBlock] using hgb) (.slice (some ⟨g, 0, none⟩) (xs.length + 1) cap)
      rw [show (xs ++ [(x0, x1, x2)]).length = xs.length + 1 by simp, show slC (xs ++ [(x0, x1, x2)]) = slC xs ++ [slV (x0, x1, x2)] by simp [slC]]
      exact h1
  have hat := HK.out.2.2
  go_end0
  refine ⟨rfl, _, hB, ht, ?_⟩
  rcases hat with e | e
  · exact Or.inl (by rw [e]; rfl)
  · right
    intro g' hg'
    simp only [Value.ownBlock, Option.some.injEq] at hg'
    subst hg'
    rw [e]
    simp
end Go.Proofs.Ytlodgmmhaolmaaa
