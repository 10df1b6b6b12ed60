/- HeapOwn: what stays while the book is filled; a copy by append; Put and Pop of a fork. -/
import Derived.Test.YtlodgmmhaolmaaaAl0
import Derived.Test.YtlodgmmhaolmaaaHpU
import Derived.Laws.OwnMore
set_option linter.unusedSimpArgs false
set_option linter.unusedVariables false
namespace Go.Proofs.Ytlodgmmhaolmaaa
open Go.RowKit
theorem RowE.lt {w : World} {v : Value} {L : List Ent} (h : RowE w v L) {g : Nat} (hg : rowB v = Option.some g) : g < w.heap.size := by
  rcases h with ⟨g', cap, h0, rfl, ho⟩ | ⟨_, A, rfl⟩
  · rw [rowB_pos h0] at hg
    injection hg with hg
    rw [← hg]
    exact (own_cap ho).2.2
  · cases A <;> cases hg
/-- a book of rows, all of them above S -/
structure BkS (S : Nat) (wr : World) (b : Nat) (v : Value) (xs : List SlE) (N : Nat) : Prop where
  book : BookAt wr b v xs
  rows : ∀ j, j < xs.length → ∃ L, RowE wr (slV (xAt xs j)) L ∧ L.length = N
  ap : Apart wr.heap.size b v xs
  gb : S ≤ b
  gv : ∀ g, v.ownBlock = some g → S ≤ g
  gx : ∀ j, j < xs.length → ∀ g, xB xs j = some g → S ≤ g
theorem Apart.more {S S' b : Nat} {v : Value} {xs : List SlE} (h : Apart S b v xs) (hS : S ≤ S') : Apart S' b v xs :=
  ⟨Nat.lt_of_lt_of_le h.lb hS, fun g e => Nat.lt_of_lt_of_le (h.lv g e) hS, fun i hi g e => Nat.lt_of_lt_of_le (h.lx i hi g e) hS, h.b, h.v, h.two⟩
theorem BkS.kept {S : Nat} {wr w' : World} {b : Nat} {v : Value} {xs : List SlE} {N : Nat} {T : List Nat} (h : BkS S wr b v xs N) (ht : Turned T wr w') (hT : ∀ x ∈ T, x < S) : BkS S w' b v xs N where
  book := h.book.kept ht (fun e => by have := hT b e; have := h.gb; omega) (fun x hx e => by have := hT x hx; have := h.gv x e; omega)
  rows := fun j hj => by
    obtain ⟨L, hL, hn⟩ := h.rows j hj
    exact ⟨L, hL.kept ht (fun x hx e => by have := hT x hx; have := h.gx j hj x e; omega), hn⟩
  ap := h.ap.more ht.size
  gb := h.gb
  gv := h.gv
  gx := h.gx
theorem BkS.step {S : Nat} {wr w' : World} {b : Nat} {v : Value} {xs : List SlE} {N : Nat} (h : BkS S wr b v xs N) (hb : Below wr.heap.size wr w') : BkS S w' b v xs N := h.kept (T := []) (Turned.ofBelow hb) (by simp)
theorem BkS.take {S : Nat} {w0 w1 w2 : World} {b : Nat} {v v' : Value} {xs : List SlE} {N : Nat} {y : SlE} {L : List Ent} (h : BkS S w0 b v xs N) (hb : Below w0.heap.size w0 w1) (hy : RowE w1 (slV y) L) (hN : L.length = N) (hyg : ∀ g, rowB (slV y) = some g → w0.heap.size ≤ g)
    (hB : BookAt w2 b v' (xs ++ [y])) (ht : Turned (b :: v.ownBlock.toList) w1 w2) (hv : v'.ownBlock = v.ownBlock ∨ ∀ g, v'.ownBlock = some g → w1.heap.size ≤ g) (hS : S ≤ w0.heap.size) : BkS S w2 b v' (xs ++ [y]) N := by
  have h1 := h.step hb
  have hlen : (xs ++ [y]).length = xs.length + 1 := by simp
  have hs01 := hb.size
  have hs12 := ht.size
  have hT : ∀ x ∈ b :: v.ownBlock.toList, x < w0.heap.size ∧ (x = b ∨ v.ownBlock = some x) := fun x hx => by
    rcases List.mem_cons.1 hx with rfl | hx
    · exact ⟨h.ap.lb, Or.inl rfl⟩
    · rw [Option.mem_toList] at hx
      exact ⟨h.ap.lv x hx, Or.inr hx⟩
  have hat : ∀ j, j < (xs ++ [y]).length → (j < xs.length ∧ xAt (xs ++ [y]) j = xAt xs j) ∨ (j = xs.length ∧ xAt (xs ++ [y]) j = y) := fun j hj => by
    rw [xAt_snoc]
    rw [hlen] at hj
    by_cases hji : j < xs.length
    · left; rw [if_pos hji]; exact ⟨hji, rfl⟩
    · right; rw [if_neg hji, if_pos (by omega)]; exact ⟨by omega, rfl⟩
  have hyl : ∀ g, rowB (slV y) = some g → g < w1.heap.size := fun g e => hy.lt e
  have hv' : ∀ g, v'.ownBlock = some g → v.ownBlock = some g ∨ w1.heap.size ≤ g := fun g e => by
    rcases hv with hv | hv
    · exact Or.inl (by rw [← hv]; exact e)
    · exact Or.inr (hv g e)
  refine ⟨hB, fun j hj => ?_, ⟨?_, fun g e => ?_, fun j hj g e => ?_, fun j hj e => ?_, fun j hj g e e2 => ?_, fun j k hj hk hjk g e e2 => ?_⟩, h.gb, fun g e => ?_, fun j hj g e => ?_⟩
  · rcases hat j hj with ⟨hji, e⟩ | ⟨hji, e⟩
    · rw [e]
      obtain ⟨L', hL', hn'⟩ := h1.rows j hji
      refine ⟨L', hL'.kept ht (fun x hx e => ?_), hn'⟩
      rcases (hT x hx).2 with rfl | h2
      · exact h1.ap.b j hji e
      · exact h1.ap.v j hji x e h2
    · rw [e]
      exact ⟨L, hy.kept ht (fun x hx e => by have := (hT x hx).1; have := hyg x e; omega), hN⟩
  · have := h.ap.lb; omega
  · have := (hB.row.lt g e).2
    exact this
  · unfold xB at e
    rcases hat j hj with ⟨hji, e2⟩ | ⟨hji, e2⟩
    · rw [e2] at e
      have := h.ap.lx j hji g e
      omega
    · rw [e2] at e
      have := hyl g e
      omega
  · unfold xB at e
    rcases hat j hj with ⟨hji, e2⟩ | ⟨hji, e2⟩
    · rw [e2] at e
      exact h.ap.b j hji e
    · rw [e2] at e
      have := hyg b e
      have := h.ap.lb
      omega
  · unfold xB at e
    rcases hat j hj with ⟨hji, e3⟩ | ⟨hji, e3⟩
    · rw [e3] at e
      rcases hv' g e2 with h2 | h2
      · exact h.ap.v j hji g e h2
      · have := h.ap.lx j hji g e
        omega
    · rw [e3] at e
      rcases hv' g e2 with h2 | h2
      · have := h.ap.lv g h2
        have := hyg g e
        omega
      · have := hyl g e
        omega
  · unfold xB at e e2
    rcases hat j hj with ⟨hji, e3⟩ | ⟨hji, e3⟩ <;> rcases hat k hk with ⟨hki, e4⟩ | ⟨hki, e4⟩
    · rw [e3] at e
      rw [e4] at e2
      exact h.ap.two j k hji hki hjk g e e2
    · rw [e3] at e
      rw [e4] at e2
      have := h.ap.lx j hji g e
      have := hyg g e2
      omega
    · rw [e3] at e
      rw [e4] at e2
      have := h.ap.lx k hki g e2
      have := hyg g e
      omega
    · omega
  · rcases hv' g e with h2 | h2
    · exact h.gv g h2
    · omega
  · unfold xB at e
    rcases hat j hj with ⟨hji, e2⟩ | ⟨hji, e2⟩
    · rw [e2] at e
      exact h.gx j hji g e
    · rw [e2] at e
      have := hyg g e
      omega
theorem BkS.mk0 {S : Nat} {wr : World} {b : Nat} {v : Value} {xs : List SlE} {N : Nat} (h : BkS S wr b v xs N) : Mk wr wr b v xs 0 0 :=
  ⟨h.ap, h.book, fun j hj => by
    obtain ⟨L, hL, _⟩ := h.rows j hj
    exact ⟨L, hL, fun q _ hc => by omega⟩, Turned.refl _ _⟩
theorem BkS.len {S : Nat} {wr : World} {b : Nat} {v : Value} {xs : List SlE} {N : Nat} (h : BkS S wr b v xs N) : ∀ j, j < xs.length → (xAt xs j).2.1 = N := fun j hj => by
  obtain ⟨L, hL, hn⟩ := h.rows j hj
  obtain ⟨A, cap, e, _⟩ := hL.form
  unfold slV at e
  injection e with _ e
  rw [← hn]; exact e
/-- a copy: append to an empty row -/
theorem run_append_copy (w : World) (v : Value) (L : List Ent) (E : Nat) (hE : w.heap[E]? = some (.cells #[] 27 (0, 0))) (hr : RowE w v L) (hb : L.length * 24 ≤ 140737488355328) (ty : TypeId) :
    ∃ v' w', (Builtin.append_ #[23, 23] ty #[.slice (some ⟨E, 0, none⟩) 0 0, v]).run Try.prog w = .ok v' w' ∧ RowE w' v' L ∧ (∀ g, rowB v' = some g → E ≤ g) ∧ Turned [E] w w' := by
  obtain ⟨i0, hi, hiz, hi1, hi2⟩ := infoE
  have own0 : w.ownsRow E 27 2 (.slice (some ⟨E, 0, none⟩) 0 0) 0 [] := ⟨rfl, Or.inr ⟨E, 0, #[], rfl, Nat.le_refl _, hE, Nat.le_refl _, Nat.zero_le _, rfl, rfl⟩⟩
  have hl := block_lt hE
  have hE2 : ∀ {w' : World} {v' : Value}, w'.ownsRow E 27 2 v' (0 + L.length) ([] ++ entC L) → RowE w' v' L ∧ ∀ g, rowB v' = some g → E ≤ g := fun h => rowE_own (by rw [Nat.zero_add, List.nil_append] at h; exact h) rfl
  have one : ∀ u ∈ entC L, u.oneCell' = true := entC_one L
  have hmx : 0 + L.length ≤ maxLen := by unfold maxLen; omega
  rcases hr with ⟨g, cap, h0, rfl, ho⟩ | ⟨rfl, A, rfl⟩
  · obtain ⟨v', w', hrun, h1, h2, _⟩ := run_append_own (P := Try.prog) w E 23 ty 27 i0 _ 2 24 Try.underlying23 hi hiz hi1 hi2 rfl (by decide) _ 0 [] own0 ⟨g, 0, none⟩ L.length cap (entC L) (entC_len L) (ho.cells (g := g) rfl) one hmx (by omega) (by omega)
    exact ⟨v', w', hrun, (hE2 h1).1, (hE2 h1).2, Turned.ofGrown h2 (fun x e => by injection e with e; subst e; simp)⟩
  · cases A with
    | none =>
      have hrun := run_append_owned_none (P := Try.prog) w E 23 ty 27 i0 2 Try.underlying23 hi _ 0 [] own0
      exact ⟨_, w, hrun, Or.inr ⟨rfl, _, rfl⟩, (fun g e => by cases e), Turned.refl _ _⟩
    | some a =>
      obtain ⟨v', w', hrun, h1, h2, _⟩ := run_append_own (P := Try.prog) w E 23 ty 27 i0 _ 2 24 Try.underlying23 hi hiz hi1 hi2 rfl (by decide) _ 0 [] own0 a 0 0 [] rfl (fun j u h => by simp at h) (fun u hu => by cases hu) (by unfold maxLen; omega) (by omega) (by omega)
      have h1' : w'.ownsRow E 27 2 v' (0 + ([] : List Ent).length) ([] ++ entC []) := h1
      exact ⟨v', w', hrun, (hE2 h1').1, (hE2 h1').2, Turned.ofGrown h2 (fun x e => by injection e with e; subst e; simp)⟩
theorem wpList_append_copy {ops : Array Oper} {rest : List Oper} {o : Oper} {a : Act} {w : World} {Q : Exit → Act → World → Prop} (hgd : o.guard = none) (s x : Operand)
    (ho : o.op = .call { callee := .builtin .append, args := #[s, x], argTypes := #[23, 23] })
    (v : Value) (L : List Ent) (E : Nat) (hs : a.eval s = .slice (some ⟨E, 0, none⟩) 0 0) (hx : a.eval x = v) (hE : w.heap[E]? = some (.cells #[] 27 (0, 0))) (hr : RowE w v L) (hb : L.length * 24 ≤ 140737488355328)
    (hK : ∀ v' w', RowE w' v' L → (∀ g, rowB v' = some g → E ≤ g) → Turned [E] w w' → wpList Try.prog ops Q rest (a.put o.dst v') w') : wpList Try.prog ops Q (o :: rest) a w :=
  wpList_plain hgd fun _ hK' => by
    obtain ⟨v', w', hr', h2, h3, h4⟩ := run_append_copy w v L E hE hr hb o.type
    unfold Oper.wp execOp
    simp only [ho, resolve, invoke, builtin, Sem.run_bind, Sem.run_pure, Result.andThen_ok, List.map_toArray, List.map_cons, List.map_nil, hs, hx, hr']
    exact hK' _ _ (hK v' w' h2 h3 h4)
/-- a heap behind a change -/
def ChTo (w : World) (hb mb : Nat) (v : Value) (mo : Bool) (m : Nat) (e : Ending) (w' : World) : Prop :=
  ∃ x v' L' mv', e = .returned x ∧ HeapAt w' hb mb v' L' mo mv' ∧ Turned (foot hb mb v) w w' ∧ (∀ g ∈ foot hb mb v', g ∈ foot hb mb v ∨ w.heap.size ≤ g) ∧ L'.length ≤ m
theorem put_turn (hb mb : Nat) (v : Value) (L : List Ent) (mo : Bool) (mv : Nat) (r : Int) (s : List UInt8) (w : World) (h : HeapAt w hb mb v L mo mv) (hs : s.length ≤ 9223372036854775807) (hL : (L.length + 1) * 24 ≤ 140737488355328) :
    Calls Try.prog 9 #[.pointer (some ⟨hb, 0, none⟩), .agg #[.int .i64 r, strV s]] w (ChTo w hb mb v mo (L.length + 1)) := by
  cases hf : findE L s with
  | some i => exact (put_known hb mb v L mo mv r s w h hs i hf).mono fun e w' ⟨he, hb'⟩ => ⟨_, v, L, mv, he, h.below hb', Turned.ofBelow hb', fun g hg => Or.inl hg, by omega⟩
  | none => exact (put_new hb mb v L mo mv r s w h hs hf hL).mono fun e w' ⟨he, v', ht⟩ => ⟨_, v', _, _, he, ht.h, ht.t, foot_step ht.r, by rw [putH_len]; omega⟩
theorem pop_turn (hb mb : Nat) (v : Value) (L : List Ent) (mo : Bool) (mv : Nat) (w : World) (h : HeapAt w hb mb v L mo mv) (hL : L.length ≤ 1152921504606846976) :
    Calls Try.prog 12 #[.pointer (some ⟨hb, 0, none⟩)] w (ChTo w hb mb v mo L.length) := by
  cases hn : L.length with
  | zero =>
    have e0 : L = [] := List.length_eq_zero_iff.1 hn
    subst e0
    exact (pop_none hb mb v mo mv w h).mono fun e w' ⟨he, hb'⟩ => ⟨_, v, [], mv, he, h.below hb', Turned.ofBelow hb', fun g hg => Or.inl hg, by simp⟩
  | succ n => exact (pop_some hb mb v L mo mv n w h hn (by omega)).mono fun e w' ⟨he, v', ht⟩ => ⟨_, v', _, _, he, ht.h, ht.t, foot_step ht.r, by have := (takeH_len mo L 0); omega⟩
end Go.Proofs.Ytlodgmmhaolmaaa
