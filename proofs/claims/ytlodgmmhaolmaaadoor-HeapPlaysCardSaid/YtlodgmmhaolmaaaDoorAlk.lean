/- alike: a heap and the document's tell the same. -/
import Derived.Test.YtlodgmmhaolmaaaDoorRfH
import Derived.Test.YtlodgmmhaolmaaaDoorHpV
set_option linter.unusedSimpArgs false
set_option linter.unusedVariables false
namespace Go.Proofs.YtlodgmmhaolmaaaDoor
open Go.RowKit
theorem top_any (hb mb : Nat) (v : Value) (L : List Ent) (mo : Bool) (mv : Nat) (w : World) (hH : HeapAt w hb mb v L mo mv) :
    Calls Tryd.prog 33 #[.pointer (some ⟨hb, 0, none⟩)] w fun e w' => e = .returned (entB (atE L 0).1 (atE L 0).2 (decide (0 < L.length))) ∧ Below w.heap.size w w' := by
  cases L with
  | nil => exact (top_none hb mb v mo mv w hH).mono fun e w' ⟨he, hb⟩ => ⟨he, hb⟩
  | cons x L => exact (top_some hb mb v (x :: L) mo mv w hH (by simp)).mono fun e w' ⟨he, hb⟩ => ⟨by rw [he, show decide (0 < (x :: L).length) = true by simp], hb⟩
theorem get_any (hb mb : Nat) (v : Value) (L : List Ent) (mo : Bool) (mv : Nat) (s : List UInt8) (w : World) (hH : HeapAt w hb mb v L mo mv) (hs : s.length ≤ 9223372036854775807) :
    Calls Tryd.prog 10 #[.pointer (some ⟨hb, 0, none⟩), strV s] w fun e w' => e = .returned (entB (getE L s).1 (getE L s).2 (findE L s).isSome) ∧ Below w.heap.size w w' := by
  cases hf : findE L s with
  | none => exact (get_none hb mb v L mo mv s w hH hs hf).mono fun e w' ⟨he, hb⟩ => ⟨by rw [he]; unfold getE; rw [hf]; rfl, hb⟩
  | some i => exact (get_some hb mb v L mo mv s w hH hs i hf).mono fun e w' ⟨he, hb⟩ => ⟨by rw [he]; unfold getE; rw [hf]; rfl, hb⟩
/-- both heaps, where nothing of them turns -/
structure AlS (w wr : World) (hb mb : Nat) (v : Value) (rb : Nat) (rv : Value) (L : List Ent) (mo : Bool) (mv : Nat) : Prop where
  b : Below w.heap.size w wr
  h : HeapAt wr hb mb v L mo mv
  m : RefAt wr rb rv L mo mv
theorem AlS.step {w wr w' : World} {hb mb : Nat} {v : Value} {rb : Nat} {rv : Value} {L : List Ent} {mo : Bool} {mv : Nat} (h : AlS w wr hb mb v rb rv L mo mv) (hb' : Below wr.heap.size wr w') : AlS w w' hb mb v rb rv L mo mv :=
  ⟨h.b.trans (hb'.mono h.b.size), h.h.below hb', h.m.below hb'⟩
/-- a box of an entry -/
def Box2 (w : World) (B : Nat) (r : Int) (s : List UInt8) : Prop := w.heap[B]? = some (.cells #[.int .i64 r, strV s] 27 (0, 0))
theorem Box2.step {w w' : World} {B : Nat} {r : Int} {s : List UInt8} (h : Box2 w B r s) (hb : Below w.heap.size w w') : Box2 w' B r s := (hb.block B (block_lt h)).trans h
theorem Box2.new (w : World) (r : Int) (s : List UInt8) : Box2 (w.alloc (.cells #[.int .i64 r, strV s] 27)) w.heap.size r s := heap_alloc_new w _
structure AlB (w wr : World) (hb mb : Nat) (v : Value) (rb : Nat) (rv : Value) (L : List Ent) (mo : Bool) (mv B1 B2 B3 B4 : Nat) (r : Int) (t : List UInt8) (r' : Int) (t' : List UInt8) : Prop where
  a : AlS w wr hb mb v rb rv L mo mv
  b1 : Box2 wr B1 r t
  b2 : Box2 wr B2 r t
  b3 : Box2 wr B3 r' t'
  b4 : Box2 wr B4 r' t'
theorem AlB.step {w wr w' : World} {hb mb : Nat} {v : Value} {rb : Nat} {rv : Value} {L : List Ent} {mo : Bool} {mv B1 B2 B3 B4 : Nat} {r : Int} {t : List UInt8} {r' : Int} {t' : List UInt8} (h : AlB w wr hb mb v rb rv L mo mv B1 B2 B3 B4 r t r' t') (hb' : Below wr.heap.size wr w') : AlB w w' hb mb v rb rv L mo mv B1 B2 B3 B4 r t r' t' :=
  ⟨h.a.step hb', h.b1.step hb', h.b2.step hb', h.b3.step hb', h.b4.step hb'⟩
set_option maxHeartbeats 8000000 in
set_option maxRecDepth 100000 in
theorem alike_any (hb mb : Nat) (v : Value) (rb : Nat) (rv : Value) (L : List Ent) (mo : Bool) (mv : Nat) (s : List UInt8) (w : World) (hH : HeapAt w hb mb v L mo mv) (hM : RefAt w rb rv L mo mv) (hs : s.length ≤ 9223372036854775807) (hL : L.length * 24 ≤ 225179981352000) :
    Calls Tryd.prog 24 #[.pointer (some ⟨hb, 0, none⟩), .pointer (some ⟨rb, 0, none⟩), strV s] w fun e w' => e = .returned (.bool true) ∧ Below w.heap.size w w' := by
  have H0 : Bx (AlS w w hb mb v rb rv L mo mv) := ⟨⟨Below.refl _ _, hH, hM⟩⟩
  have HS := Bx.mk hs
  have kt := top_any hb mb v L mo mv w hH
  clear hH hM hs
  obtain ⟨N, hN⟩ : ∃ N, L.length = N := ⟨_, rfl⟩
  have HN := Bx.mk hN
  obtain ⟨X, hX⟩ : ∃ X, decide (0 < L.length) = X := ⟨_, rfl⟩
  have HX := Bx.mk hX
  obtain ⟨r, hr⟩ : ∃ x, (atE L 0).1 = x := ⟨_, rfl⟩
  obtain ⟨t, ht⟩ : ∃ x, (atE L 0).2 = x := ⟨_, rfl⟩
  have HRT := Bx.mk (And.intro hr ht)
  obtain ⟨r', hr'⟩ : ∃ x, (getE L s).1 = x := ⟨_, rfl⟩
  obtain ⟨t', ht'⟩ : ∃ x, (getE L s).2 = x := ⟨_, rfl⟩
  obtain ⟨Y, hY⟩ : ∃ Y, (findE L s).isSome = Y := ⟨_, rfl⟩
  have HRT' := Bx.mk (And.intro hr' (And.intro ht' hY))
  rw [hX, hr, ht] at kt
  rw [hN] at hL
  clear hX hr ht hr' ht' hY hN
  go_enter Tryd.func24, Tryd.ntmps24
  go_wp2_with fail
  refine kt.mono ?_
  rintro e w1 ⟨rfl, hb1⟩
  have h1 := (H0.out.step hb1).step (below1 w1 (.cells #[.int .i64 r, strV t] 27))
  have H1 := Bx.mk (And.intro h1 (Box2.new w1 r t))
  have kt2 := rtop_any rb rv L mo mv _ h1.m
  rw [HX.out, HRT.out.1, HRT.out.2] at kt2
  clear kt hb1 h1 H0
  go_wp2_with fail
  refine kt2.mono ?_
  rintro e w2 ⟨rfl, hb2⟩
  have h2 := (H1.out.1.step hb2).step (below1 w2 (.cells #[.int .i64 r, strV t] 27))
  have H2 := Bx.mk (And.intro h2 (And.intro ((H1.out.2.step hb2).step (below1 w2 (.cells #[.int .i64 r, strV t] 27))) (Box2.new w2 r t)))
  have kg := get_any hb mb v L mo mv s _ h2.h HS.out
  rw [HRT'.out.1, HRT'.out.2.1, HRT'.out.2.2] at kg
  clear kt2 hb2 h2 H1
  go_wp2_with fail
  refine kg.mono ?_
  rintro e w3 ⟨rfl, hb3⟩
  have h3 := (H2.out.1.step hb3).step (below1 w3 (.cells #[.int .i64 r', strV t'] 27))
  have H3 := Bx.mk (And.intro h3 (And.intro ((H2.out.2.1.step hb3).step (below1 w3 (.cells #[.int .i64 r', strV t'] 27))) (And.intro ((H2.out.2.2.step hb3).step (below1 w3 (.cells #[.int .i64 r', strV t'] 27))) (Box2.new w3 r' t'))))
  have kg2 := rget_any rb rv L mo mv s _ h3.m (by rw [HN.out]; omega)
  rw [HRT'.out.1, HRT'.out.2.1, HRT'.out.2.2] at kg2
  clear kg hb3 h3 H2
  go_wp2_with fail
  refine kg2.mono ?_
  rintro e w4 ⟨rfl, hb4⟩
  have hn4 := below1 w4 (.cells #[.int .i64 r', strV t'] 27)
  have H4 : Bx (AlB w (w4.alloc (.cells #[.int .i64 r', strV t'] 27)) hb mb v rb rv L mo mv w1.heap.size w2.heap.size w3.heap.size w4.heap.size r t r' t') := ⟨⟨(H3.out.1.step hb4).step hn4, (H3.out.2.1.step hb4).step hn4, (H3.out.2.2.1.step hb4).step hn4, (H3.out.2.2.2.step hb4).step hn4, Box2.new w4 r' t'⟩⟩
  obtain ⟨A, cap, rfl, _⟩ := H4.out.a.m.row.form
  rw [HN.out] at H4
  clear kg2 hb4 hn4 H3
  go_upto_region 5 with (fail)
  change Code.wp _ _ _ _ (w4.alloc (.cells #[.int .i64 r', strV t'] 27))
  generalize w4.alloc (.cells #[.int .i64 r', strV t'] 27) = wz at *
  generalize w1.heap.size = B1 at *
  generalize w2.heap.size = B2 at *
  generalize w3.heap.size = B3 at *
  generalize w4.heap.size = B4 at *
  go_wp2_with (first
    | (go_at_call 34; refine (len_any hb mb v L mo mv _ H4.out.a.h).mono ?_; rintro e w5 ⟨rfl, rfl⟩; rw [HN.out])
    | (go_at_call 55; refine (rlist_any rb _ L mo mv _ H4.out.a.m).mono ?_; rintro e w5 ⟨rfl, rfl⟩)
    | (go_at_call 28; refine (list_any hb mb v L mo mv _ H4.out.a.h (by rw [HN.out]; exact hL)).mono ?_; rintro e w5 ⟨v5, rfl, hr5, hb5, _⟩; obtain ⟨A5, c5, rfl, hr, _⟩ := row_inF hr5; rw [HN.out] at hr ⊢; have H5 := Bx.mk (And.intro (H4.out.step hb5) hr); clear hr5 hb5 hr H4)
    | (go_at_call 55; refine (rlist_any rb _ L mo mv _ H5.out.1.a.m).mono ?_; rintro e w5 ⟨rfl, rfl⟩)
    | (go_at_call 13; refine (hsame_any _ _ N _ _ L _ H5.out.2 (by obtain ⟨A', c', e', h', _⟩ := row_inF H5.out.1.a.m.row; rw [HN.out] at e' h'; injection e' with e1 e2 e3; rw [e1]; exact h') (by omega)).mono ?_; rintro e w6 ⟨rfl, hb6⟩; have H6 := Bx.mk (H5.out.1.step hb6); clear hb6 H5)
    | (go_at_call 8; refine (sorted_any hb mb v L mo mv _ H6.out.a.h (by rw [HN.out]; exact hL)).mono ?_; rintro e w7 ⟨A7, c7, S7, rfl, h7⟩; have hrow := h7.row; rw [HN.out] at hrow ⊢; have H7 := Bx.mk (And.intro (H6.out.step h7.b) (And.intro h7.srt (And.intro h7.p hrow))); clear h7 hrow H6)
    | (go_at_call 56; refine (rsortedm_any rb _ L mo mv _ H7.out.1.a.m H7.out.1.a.h.two (by rw [HN.out]; exact hL)).mono ?_; rintro e w8 ⟨A8, c8, S8, rfl, h8, hs8, hp8, hb8⟩; have e8 : S8 = S7 := srt_unique hs8 H7.out.2.1 (hp8.trans H7.out.2.2.1.symm); have hrow := h8; rw [HN.out, e8] at hrow; have H8 := Bx.mk (And.intro (H7.out.1.step hb8) (And.intro (H7.out.2.2.2.below hb8) hrow)); rw [HN.out]; clear h8 hs8 hp8 hb8 e8 hrow H7)
    | (go_at_call 13; refine (hsame_any _ _ N _ _ _ _ H8.out.2.1 H8.out.2.2 (by omega)).mono ?_; rintro e w9 ⟨rfl, hb9⟩; have H9 := Bx.mk (H8.out.1.step hb9); have q1 := cells_at H9.out.b1 0 _ rfl; have q2 := cells_at H9.out.b1 1 _ rfl; have q3 := cells_at H9.out.b2 0 _ rfl; have q4 := cells_at H9.out.b2 1 _ rfl; have q5 := cells_at H9.out.b3 0 _ rfl; have q6 := cells_at H9.out.b3 1 _ rfl; have q7 := cells_at H9.out.b4 0 _ rfl; have q8 := cells_at H9.out.b4 1 _ rfl; clear hb9 H8)
    | (go_at_call 35; refine (moves_any hb mb v L mo mv _ H9.out.a.h).mono ?_; rintro e w10 ⟨rfl, rfl⟩)
    | (go_at_call 57; refine (rmoves_any rb _ L mo mv _ H9.out.a.m).mono ?_; rintro e w10 ⟨rfl, rfl⟩))
  go_ret
  exact ⟨rfl, H9.out.a.b⟩
end Go.Proofs.YtlodgmmhaolmaaaDoor
