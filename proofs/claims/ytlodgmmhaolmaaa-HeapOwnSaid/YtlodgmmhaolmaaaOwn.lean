/- The law HeapOwn. -/
import Derived.Test.YtlodgmmhaolmaaaOw0
import Derived.Test.YtlodgmmhaolmaaaAle
import Derived.Test.YtlodgmmhaolmaaaAlo
import Derived.Test.YtlodgmmhaolmaaaCln
import Derived.Test.YtlodgmmhaolmaaaHpV
import Derived.Test.YtlodgmmhaolmaaaHpL
import Derived.Test.YtlodgmmhaolmaaaIn
set_option linter.unusedSimpArgs false
set_option linter.unusedVariables false
namespace Go.Proofs.Ytlodgmmhaolmaaa
open Go.RowKit
theorem row_inE {w : World} {v : Value} {L : List Ent} (h : RowE w v L) : ∃ A cap, v = .slice A L.length cap ∧ EntRow w A L.length L ∧ (A = none → L.length = 0 ∧ cap = 0) := by
  rcases h with ⟨g, cap, h0, rfl, ho⟩ | ⟨hL, A, rfl⟩
  · refine ⟨_, cap, rfl, ⟨rfl, fun _ => ⟨g, 0, rfl, fun i hi => ?_⟩⟩, fun e => by cases e⟩
    have := ent_cells ho rfl hi
    rw [Nat.zero_add]; exact this
  · subst hL
    exact ⟨A, 0, rfl, ⟨rfl, fun h => absurd h (by simp)⟩, fun _ => ⟨rfl, rfl⟩⟩
theorem RowE.stepB {w w' : World} {v : Value} {L : List Ent} (h : RowE w v L) (hb : Below w.heap.size w w') : RowE w' v L := h.kept (S := []) (Turned.ofBelow hb) (by simp)
/-- two heaps and a row, ahead of the book -/
abbrev book0 : Array Value := #[.slice none 0 0, .slice none 0 0, .slice none 0 0, .slice none 0 0, .slice none 0 0, .slice none 0 0, .slice none 0 0, .slice none 0 0, .slice none 0 0, .slice none 0 0, .slice none 0 0, .slice none 0 0, .slice none 0 0, .slice none 0 0, .slice none 0 0, .slice none 0 0, .slice none 0 0, .slice none 0 0, .slice none 0 0, .slice none 0 0, .slice none 0 0, .slice none 0 0, .slice none 0 0, .slice none 0 0, .slice none 0 0, .slice none 0 0, .slice none 0 0, .slice none 0 0]
theorem bks_start (w3 : World) (N : Nat) : BkS w3.heap.size (w3.alloc (.cells book0 81)) w3.heap.size (.slice none 0 0) [] N where
  book := ⟨heap_alloc_new w3 _, World.ownsRow_nil _ _ _ _, by simp [Value.ownBlock]⟩
  rows := fun j hj => absurd hj (by simp)
  ap := ⟨by simp, (fun g e => by cases e), (fun i hi => absurd hi (by simp)), (fun i hi => absurd hi (by simp)), (fun i hi => absurd hi (by simp)), (fun i k hi => absurd hi (by simp))⟩
  gb := Nat.le_refl _
  gv := fun g e => by cases e
  gx := fun j hj => absurd hj (by simp)
/-- the book's loop -/
structure Ow2 (w3 wr : World) (b : Nat) (bv : Value) (xs : List SlE) (N : Nat) : Prop where
  bel : Below w3.heap.size w3 wr
  k : BkS w3.heap.size wr b bv xs N
theorem Ow2.take {w3 wr w4 w5 : World} {b : Nat} {bv bv' : Value} {xs : List SlE} {N : Nat} {y : SlE} {L : List Ent} (h : Ow2 w3 wr b bv xs N) (hb : Below wr.heap.size wr w4) (hy : RowE w4 (slV y) L) (hN : L.length = N) (hyg : ∀ g, rowB (slV y) = some g → wr.heap.size ≤ g)
    (hB : BookAt w5 b bv' (xs ++ [y])) (ht : Turned (b :: bv.ownBlock.toList) w4 w5) (hv : bv'.ownBlock = bv.ownBlock ∨ ∀ g, bv'.ownBlock = some g → w4.heap.size ≤ g) : Ow2 w3 w5 b bv' (xs ++ [y]) N :=
  ⟨(h.bel.trans (hb.mono h.bel.size)).trans (ht.below (fun x hx => by
    rcases List.mem_cons.1 hx with rfl | hx
    · exact h.k.gb
    · rw [Option.mem_toList] at hx; exact h.k.gv x hx) (Nat.le_trans h.bel.size hb.size)), h.k.take hb hy hN hyg hB ht hv h.bel.size⟩
theorem slV_of {v : Value} {w : World} {L : List Ent} (h : RowE w v L) : ∃ y : SlE, v = slV y := by
  obtain ⟨A, cap, e, _⟩ := h.form
  exact ⟨(A, L.length, cap), e⟩
structure Ow1 (w w3 : World) (hb mb : Nat) (v : Value) (L : List Ent) (mv : Nat) (hf mf : Nat) (vf : Value) (wv : Value) : Prop where
  b : Below w.heap.size w w3
  h : HeapAt w3 hb mb v L false mv
  hg : ∀ x ∈ foot hb mb v, w.heap.size ≤ x
  f : HeapAt w3 hf mf vf L false mv
  fg : ∀ x ∈ foot hf mf vf, w.heap.size ≤ x ∧ x ∉ foot hb mb v
  row : RowE w3 wv L
theorem Ow1.step {w w3 w' : World} {hb mb : Nat} {v : Value} {L : List Ent} {mv : Nat} {hf mf : Nat} {vf : Value} {wv : Value} (h : Ow1 w w3 hb mb v L mv hf mf vf wv) (hb' : Below w3.heap.size w3 w') : Ow1 w w' hb mb v L mv hf mf vf wv :=
  ⟨h.b.trans (hb'.mono h.b.size), h.h.below hb', h.hg, h.f.below hb', h.fg, h.row.stepB hb'⟩
theorem Ow1.lt {w w3 : World} {hb mb : Nat} {v : Value} {L : List Ent} {mv : Nat} {hf mf : Nat} {vf : Value} {wv : Value} (h : Ow1 w w3 hb mb v L mv hf mf vf wv) : (∀ x ∈ foot hb mb v, x < w3.heap.size) ∧ (∀ x ∈ foot hf mf vf, x < w3.heap.size) := ⟨h.h.footLt, h.f.footLt⟩
/-- behind the fork's changes -/
structure Ow3 (w w3 wr : World) (hb mb : Nat) (v : Value) (L : List Ent) (mv b : Nat) (bv : Value) (xs : List SlE) (N : Nat) (kv : Value) (K : Nat) : Prop where
  bel : Below w.heap.size w wr
  h : HeapAt wr hb mb v L false mv
  hl : ∀ x ∈ foot hb mb v, x < w3.heap.size ∧ w.heap.size ≤ x
  w3w : w.heap.size ≤ w3.heap.size
  k : BkS w3.heap.size wr b bv xs N
  r : RowE wr kv L
  rg : ∀ g, rowB kv = some g → K ≤ g
  bK : b < K
  xK : ∀ g ∈ blocksOf xs, g < K
  xg : ∀ g ∈ blocksOf xs, w3.heap.size ≤ g
theorem Ow3.step {w w3 wr w' : World} {hb mb : Nat} {v : Value} {L : List Ent} {mv b : Nat} {bv : Value} {xs : List SlE} {N : Nat} {kv : Value} {K : Nat} (h : Ow3 w w3 wr hb mb v L mv b bv xs N kv K) (hb' : Below wr.heap.size wr w') : Ow3 w w3 w' hb mb v L mv b bv xs N kv K :=
  ⟨h.bel.trans (hb'.mono h.bel.size), h.h.below hb', h.hl, h.w3w, h.k.step hb', h.r.stepB hb', h.rg, h.bK, h.xK, h.xg⟩
/-- the book has been written over -/
theorem Ow3.alone {w w3 wr w' : World} {hb mb : Nat} {v : Value} {L : List Ent} {mv b : Nat} {bv : Value} {xs : List SlE} {N : Nat} {kv : Value} {K : Nat} (h : Ow3 w w3 wr hb mb v L mv b bv xs N kv K) (ht : Turned (b :: blocksOf xs) wr w') : Below w.heap.size w w' ∧ HeapAt w' hb mb v L false mv ∧ RowE w' kv L := by
  have hg : ∀ x ∈ b :: blocksOf xs, w3.heap.size ≤ x ∧ x < K := fun x hx => by
    rcases List.mem_cons.1 hx with rfl | hx
    · exact ⟨h.k.gb, h.bK⟩
    · exact ⟨h.xg x hx, h.xK x hx⟩
  have := h.w3w
  exact ⟨h.bel.trans (ht.below (fun x hx => by have := (hg x hx).1; omega) h.bel.size), h.h.kept ht (fun x hx hm => by have := (hg x hx).1; have := (h.hl x hm).1; omega), h.r.kept ht (fun x hx e => by have := (hg x hx).2; have := h.rg x e; omega)⟩
theorem no_twice_take {L : List Ent} {k : Nat} (hN : NoTwice L) (hk : k < L.length) (h : findE (L.take k) (atE L k).2 ≠ none) : False := by
  cases hf : findE (L.take k) (atE L k).2 with
  | none => exact h hf
  | some i =>
    obtain ⟨h1, h2⟩ := findE_some hf
    have hm := atE_mem h1
    have h3 : NoTwice (L.take (k + 1)) := hN.sublist (List.take_sublist _ _)
    rw [take_snoc hk] at h3
    exact (List.pairwise_append.1 h3).2.2 _ hm _ (List.mem_singleton.2 rfl) h2
theorem alone_ow {S : Nat} {wr : World} {b : Nat} {bv : Value} {xs : List SlE} {N : Nat} (h : BkS S wr b bv xs N) (hx : xs.length ≤ 4) (hN : (N + 21) * 24 ≤ 140737488355328) :
    Calls Try.prog 27 #[.pointer (some ⟨b, 0, none⟩)] wr fun e w' => e = .returned (.bool true) ∧ Turned (b :: blocksOf xs) wr w' := by
  obtain ⟨A, c, hv, _⟩ := h.book.at
  have hb : b ∉ blocksOf xs := fun hm => by
    obtain ⟨i, hi, e⟩ := blocksOf_mem hm
    exact h.ap.b i hi e
  refine (alone_book b bv wr (fun w' => Turned (blocksOf xs) wr w') ⟨A, _, c, hv⟩ h.book.blk ((alone_ents b bv xs wr h.mk0 (by omega) (fun j hj => by rw [h.len j hj]; exact hN)).mono fun e w' ⟨he, ht⟩ => ⟨he, ⟨ht⟩, ht.block b h.ap.lb hb⟩)).mono fun e w' ⟨he, w1, h1, h2⟩ => ⟨he, (h1.more (fun x hx => List.mem_cons_of_mem _ hx)).trans (h2.more (fun x hx => ?_))⟩
  rw [List.mem_singleton] at hx
  rw [hx]; exact List.mem_cons_self
/-- the end: two heaps and a row -/
structure Ow5 (w wr : World) (hb mb : Nat) (v : Value) (L : List Ent) (mv : Nat) (kv : Value) (hb2 mb2 : Nat) (v2 : Value) (M : List Ent) (mv2 : Nat) : Prop where
  bel : Below w.heap.size w wr
  h : HeapAt wr hb mb v L false mv
  r : RowE wr kv L
  m : HeapAt wr hb2 mb2 v2 M false mv2
theorem Ow5.step {w wr w' : World} {hb mb : Nat} {v : Value} {L : List Ent} {mv : Nat} {kv : Value} {hb2 mb2 : Nat} {v2 : Value} {M : List Ent} {mv2 : Nat} (h : Ow5 w wr hb mb v L mv kv hb2 mb2 v2 M mv2) (hb' : Below wr.heap.size wr w') : Ow5 w w' hb mb v L mv kv hb2 mb2 v2 M mv2 :=
  ⟨h.bel.trans (hb'.mono h.bel.size), h.h.below hb', h.r.stepB hb', h.m.below hb'⟩
theorem EntRow.row_of {w : World} {A : Option Addr} {n m : Nat} {L M : List Ent} (h : EntRow w A n L) (e : L = M) : EntRow w A n M := e ▸ h
/-- the last loop: what is left of the copy -/
structure Ow4 (w11 wr : World) (lv : Value) (N : Nat) (Li : List Ent) : Prop where
  len : Li.length = N
  row : RowE wr lv Li
  t : Turned (rowB lv).toList w11 wr
set_option maxHeartbeats 8000000 in
set_option maxRecDepth 100000 in
theorem own_law (A : Option Addr) (n cap : Nat) (kd : Nat → Int) (en : Nat → Ent) (x1 : Nat → Int) (x2 : Nat → Bool) (x5 : Nat → Option Addr × Nat × Nat) (r : Int) (s : List UInt8) (w : World) (ho : OpRow w A n kd en x1 x2 x5) (hn : (n + 21) * 24 ≤ 140737488355328) (hs : s.length ≤ 9223372036854775807) :
    Calls Try.prog 5 #[.slice A n cap, .agg #[.int .i64 r, strV s]] w fun e w' => e = .returned (.bool true) ∧ Below w.heap.size w w' := by
  have HR : Bx _ := ⟨ho.below (below1 w (.cells #[.int .i64 r, strV s] 27))⟩
  have kd1 := done_any false A n cap kd en x1 x2 x5 _ HR.out (by omega)
  have HS := Bx.mk hs
  clear ho hs
  go_enter Try.func5, Try.ntmps5
  go_wp2_with fail
  refine kd1.mono ?_
  rintro e w1 ⟨hb, mb, v, L, mv, rfl, h1⟩
  have HD := Bx.mk h1
  have hLn := h1.len
  have kf := fork_any hb mb v L false mv w1 h1.h (by omega)
  clear kd1 h1
  go_wp2_with fail
  refine kf.mono ?_
  rintro e w2 ⟨hf, mf, vf, rfl, hf2, hb2, hfg2⟩
  have hh2 := HD.out.h.below hb2
  have kl := list_any hb mb v L false mv w2 hh2 (by omega)
  have H2 := Bx.mk (And.intro hf2 (And.intro hb2 (And.intro hfg2 hh2)))
  clear kf hf2 hb2 hfg2 hh2
  go_wp2_with fail
  refine kl.mono ?_
  rintro e w3 ⟨wv, rfl, hr3, hb3, _⟩
  have h3 : Ow1 w w3 hb mb v L mv hf mf vf wv := ⟨(((below1 w (.cells #[.int .i64 r, strV s] 27)).trans (HD.out.b.mono (by simp))).trans (H2.out.2.1.mono (by have := HD.out.b.size; simp at this; omega))).trans (hb3.mono (by have := HD.out.b.size; have := H2.out.2.1.size; simp at *; omega)), H2.out.2.2.2.below hb3, fun x hx => by have := HD.out.f x hx; simp at this; omega, H2.out.1.below hb3, fun x hx => ⟨by have := H2.out.2.2.1 x hx; have := HD.out.b.size; simp at *; omega, fun hm => by have := H2.out.2.2.1 x hx; have := HD.out.h.footLt x hm; omega⟩, hr3⟩
  have H3 := Bx.mk h3
  have he0 : w3.heap[w.heap.size]? = some (.cells #[.int .i64 r, strV s] 27 (0, 0)) := by
    have hb13 : Below (w.heap.size + 1) (w.alloc (.cells #[.int .i64 r, strV s] 27)) w3 := ((HD.out.b.mono (by simp)).trans (H2.out.2.1.mono (by have := HD.out.b.size; simp at this; omega))).trans (hb3.mono (by have := HD.out.b.size; have := H2.out.2.1.size; simp at *; omega))
    rw [hb13.block w.heap.size (by omega)]
    exact heap_alloc_new w _
  have HE := Bx.mk he0
  clear kl hr3 hb3 h3 he0 HD H2
  obtain ⟨N, hN⟩ : ∃ N, L.length = N := ⟨_, rfl⟩
  have HN := Bx.mk hN
  rw [hN] at hLn
  clear hN
  go_wp2_with fail
  change Code.wp _ _ _ _ (w3.alloc (.cells book0 81))
  have HK4 : Bx (Ow2 w3 (w3.alloc (.cells book0 81)) w3.heap.size (.slice none 0 0) [] N) := ⟨⟨below1 _ _, bks_start w3 N⟩⟩
  generalize w3.alloc (.cells book0 81) = w4 at *
  obtain ⟨b, hbb⟩ : ∃ b, w3.heap.size = b := ⟨_, rfl⟩
  have HBB := Bx.mk hbb
  rw [hbb] at HK4 ⊢
  clear hbb
  go_loopw [9] (fun i wr => ∃ (k : Nat) (bv : Value) (xs : List SlE), i = .int .i64 k ∧ k ≤ 2 ∧ xs.length = 2 * k ∧ Bx (Ow2 w3 wr b bv xs N)) (fun i _ => 2 - (intOf i).toNat)
  case atStart => exact ⟨0, _, [], rfl, by omega, rfl, HK4⟩
  case round =>
    obtain ⟨k, bv, xs, rfl, hk, hxs, HI⟩ := hrel
    clear HK4
    rename World => w5
    by_cases hlt : k < 2
    · have kl := list_any hb mb v L false mv w5 (H3.out.step HI.out.bel).h (by rw [HN.out]; omega)
      go_wp2_with fail
      refine kl.mono ?_
      rintro e w6 ⟨lv, rfl, hr6, hb6, hg6⟩
      obtain ⟨y, rfl⟩ := slV_of hr6
      have kt := tentries_any b bv xs y w6 (HI.out.k.step hb6).book (by omega)
      have H6 := Bx.mk (And.intro hr6 (And.intro hb6 hg6))
      clear kl hr6 hb6 hg6
      go_wp2_with fail
      refine kt.mono ?_
      rintro e w7 ⟨rfl, bv', hB, ht, hv⟩
      have H7 := Bx.mk (HI.out.take H6.out.2.1 H6.out.1 HN.out H6.out.2.2 hB ht hv)
      have ks := sorted_own hb mb v L false mv w7 (H3.out.step H7.out.bel).h (by rw [HN.out]; omega)
      clear kt hB ht hv H6 HI
      go_wp2_with fail
      refine ks.mono ?_
      rintro e w8 ⟨As, cs, S, rfl, hs8, hr8, hg8⟩
      have hSl : S.length = N := by rw [hs8.p.length_eq, HN.out]
      have x1 := H7.out.k.step hs8.b
      have x2 := x1.book
      have x3 : ((xs ++ [y]).length + 1) * 24 ≤ 140737488355328 := by
        have e : (xs ++ [y]).length = xs.length + 1 := by simp
        omega
      have kt := tentries_any b bv' (xs ++ [y]) (As, L.length, cs) w8 x2 x3
      have H8 := Bx.mk (And.intro hs8.b (And.intro hr8 (And.intro hSl hg8)))
      clear ks hs8 hr8 hg8 hSl
      go_wp2_with fail
      refine kt.mono ?_
      rintro e w9 ⟨rfl, bv2, hB, ht, hv⟩
      have H9 := Bx.mk (H7.out.take (y := (As, L.length, cs)) H8.out.1 H8.out.2.1 H8.out.2.2.1 H8.out.2.2.2 hB ht hv)
      clear kt hB ht hv H8 H7
      go_wp2
      exact ⟨⟨k + 1, bv2, _, by rw [Int.natCast_succ], by omega, by rw [List.length_append, List.length_append, List.length_singleton, List.length_singleton]; omega, H9⟩, by simp only [intOf]; omega⟩
    · obtain rfl : k = 2 := by omega
      have H5 := Bx.mk (And.intro (H3.out.step HI.out.bel) (And.intro HI.out.k HI.out.bel))
      have hS5 := HI.out.bel.size
      have HE5 : Bx (w5.heap[w.heap.size]? = some (.cells #[.int .i64 r, strV s] 27 (0, 0))) := ⟨by rw [HI.out.bel.block _ (block_lt HE.out)]; exact HE.out⟩
      have HLT := Bx.mk H3.out.lt
      have HW3 := Bx.mk H3.out.b.size
      clear HI H3 HE hlt hk
      go_wp2_with (at_builtin; refine wpList_append_copy rfl _ _ rfl wv L w5.heap.size rfl rfl (heap_alloc_new w5 _) (H5.out.1.step (below1 w5 (.cells #[] 27))).row (by rw [HN.out]; omega) ?_; intro kv w6 hk1 hk2 hk3; have hb6 : Below w5.heap.size w5 w6 := (below1 w5 (.cells #[] 27)).trans (hk3.below (by simp) (by simp)); have he6 := (hb6.block _ (block_lt HE5.out)).trans HE5.out; have q0 := cells_at he6 0 _ rfl; have q1 := cells_at he6 1 _ rfl; have H6 := Bx.mk (And.intro hk1 (And.intro hk2 hb6)); clear he6 hk1 hk2 hk3 hb6)
      have kp := put_turn hf mf vf L false mv r s w6 (H5.out.1.step H6.out.2.2).f HS.out (by rw [HN.out]; omega)
      clear HE5
      refine kp.mono ?_
      rintro e w7 ⟨x7, vf7, L7, mv7, rfl, hf7, t7, fs7, hl7⟩
      have hl7' : L7.length ≤ 1152921504606846976 := by rw [HN.out] at hl7; omega
      have kq := pop_turn hf mf vf7 L7 false mv7 w7 hf7 hl7'
      have H7 := Bx.mk (And.intro t7 fs7)
      clear kp t7 fs7 hf7 q0 q1 hl7
      go_wp2_with fail
      refine kq.mono ?_
      rintro e w8 ⟨x8, vf8, L8, mv8, rfl, hf8, t8, fs8, hl8⟩
      have kq2 := pop_turn hf mf vf8 L8 false mv8 w8 hf8 (Nat.le_trans hl8 hl7')
      have H8 := Bx.mk (And.intro t8 fs8)
      clear kq t8 fs8 hf8 hl8 hl7'
      go_wp2_with fail
      refine kq2.mono ?_
      rintro e w9 ⟨x9, vf9, L9, mv9, rfl, _, t9, _, _⟩
      have ht : Turned (foot hf mf vf) w6 w9 := (H7.out.1.step H8.out.1 H7.out.2).step t9 (fun x hx => by
        rcases H8.out.2 x hx with h | h
        · exact H7.out.2 x h
        · exact Or.inr (Nat.le_trans H7.out.1.size h))
      have h6 := H5.out.1.step H6.out.2.2
      have k6 := H5.out.2.1.step H6.out.2.2
      have h9 : Ow3 w w3 w9 hb mb v L mv b bv xs N kv w5.heap.size := ⟨h6.b.trans (ht.below (fun x hx => (h6.fg x hx).1) h6.b.size), h6.h.kept ht (fun x hx hm => (h6.fg x hx).2 hm), fun x hx => ⟨HLT.out.1 x hx, h6.hg x hx⟩, HW3.out, k6.kept ht (fun x hx => HLT.out.2 x hx), H6.out.1.kept ht (fun x hx e => by have := H6.out.2.1 x e; have := HLT.out.2 x hx; omega), H6.out.2.1, H5.out.2.1.ap.lb, fun g hg => by
        obtain ⟨i, hi, e⟩ := blocksOf_mem hg
        exact H5.out.2.1.ap.lx i hi g e, fun g hg => by
        obtain ⟨i, hi, e⟩ := blocksOf_mem hg
        exact H5.out.2.1.gx i hi g e⟩
      have H9 := Bx.mk h9
      have hs59 : w5.heap.size ≤ w9.heap.size := Nat.le_trans H6.out.2.2.size ht.size
      clear kq2 t9 ht h6 k6 h9 H8 H7 H6 H5 HLT
      go_wp2_with (at_builtin; refine wpList_append_copy rfl _ _ rfl kv L w9.heap.size rfl rfl (heap_alloc_new w9 _) (H9.out.step (below1 w9 (.cells #[] 27))).r (by rw [HN.out]; omega) ?_; intro lv w10 hl1 hl2 hl3; have hb10 : Below w9.heap.size w9 w10 := (below1 w9 (.cells #[] 27)).trans (hl3.below (by simp) (by simp)); have H10 := Bx.mk (And.intro hl1 (And.intro hl2 hb10)); clear hl1 hl2 hl3 hb10; obtain ⟨lA, lc, rfl, hr10, hn10⟩ := row_inE H10.out.1; have HR10 := Bx.mk (And.intro hr10 hn10); clear hr10 hn10)
      rw [HN.out] at HR10 H10 ⊢
      have kb := build_loop false lA N lc L w10 HR10.out.1 H9.out.h.txt (by omega) (by omega) HR10.out.2
      refine kb.mono ?_
      intro e w11 hbl
      rcases hbl with ⟨k, hk, _, hf, _⟩ | ⟨_, hb2, mb2, v2, rfl, hB2, hb11, hf2⟩
      · exact absurd (no_twice_take H9.out.h.two (by rw [HN.out]; exact hk) hf) (fun h => h)
      have H11 := Bx.mk (And.intro ((H9.out.step H10.out.2.2).step hb11) (And.intro hB2 (And.intro (fun x (hx : x ∈ foot hb2 mb2 v2) => Nat.le_trans H10.out.2.2.size (hf2 x hx)) H10.out.2.1)))
      have HFL : Bx (∀ g, rowB (.slice lA N lc) = some g → g ∉ foot hb2 mb2 v2) := ⟨fun g e hm => by have := H10.out.1.lt e; have := hf2 g hm; omega⟩
      have HO : Bx (Ow4 w11 w11 (.slice lA N lc) N L) := ⟨⟨HN.out, H10.out.1.stepB hb11, Turned.refl _ _⟩⟩
      have hs11 : w9.heap.size ≤ w11.heap.size := Nat.le_trans H10.out.2.2.size hb11.size
      have HLg := Bx.mk H10.out.2.1
      have HB911 : Bx (Below w9.heap.size w9 w11) := ⟨H10.out.2.2.trans (hb11.mono H10.out.2.2.size)⟩
      clear kb hB2 hb11 hf2 HR10 H10
      go_wp2_with fail
      go_loopw [14] (fun i wr => ∃ (k : Nat) (Li : List Ent), i = .int .i64 k ∧ k ≤ N ∧ Bx (Ow4 w11 wr (.slice lA N lc) N Li)) (fun i _ => N - (intOf i).toNat)
      case atStart => exact ⟨0, L, rfl, by omega, HO⟩
      case round =>
        obtain ⟨k, Li, rfl, hk, HI⟩ := hrel
        clear HO
        rename World => w12
        by_cases hlt : k < N
        · obtain ⟨g, cg, e1, hog⟩ := HI.out.row.some (by rw [HI.out.len]; omega)
          rw [HI.out.len] at e1 hog
          injection e1 with e1 _ e2
          subst e1 e2
          have c0 := (ent_cells hog HI.out.len.symm (i := k) (by rw [HI.out.len]; exact hlt)).1
          have f0 := hog.frozenAt (k * 2)
          have hrk := own_rank (r := 99) hog (i := k) (by rw [HI.out.len]; exact hlt)
          have hcp := own_cap hog
          have HN4 : Bx (Ow4 w11 (w12.setCell ⟨g, k * 2, none⟩ (.int .i64 99)) (.slice (some ⟨g, 0, none⟩) N lc) N (Li.set k (99, (atE Li k).2))) := ⟨⟨by rw [List.length_set]; exact HI.out.len, RowE.mk hrk (by rw [List.length_set]; exact HI.out.len.symm) (by omega), HI.out.t.trans ((Turned.set g _ _).more (fun x hx => by rw [List.mem_singleton] at hx; rw [hx, rowB_pos (by omega)]; simp))⟩⟩
          clear hog hrk hcp HI
          go_wp2
          exact ⟨⟨k + 1, _, by rw [Int.natCast_succ], by omega, HN4⟩, by simp only [intOf]; omega⟩
        · obtain rfl : k = N := by omega
          have hb912 : Below w9.heap.size w9 w12 := HB911.out.trans (HI.out.t.below (fun x hx => HLg.out x (by rw [Option.mem_toList] at hx; exact hx)) hs11)
          have hM : (bldH false L).1.length = k := by rw [bldH_len, HN.out]
          have hp := bldH_perm false L
          have hB12 := H11.out.2.1.kept HI.out.t (fun x hx => HFL.out x (by rw [Option.mem_toList] at hx; exact hx))
          obtain ⟨M, hMM⟩ : ∃ M, (bldH false L).1 = M := ⟨_, rfl⟩
          obtain ⟨mv2, hmv2⟩ : ∃ m, (bldH false L).2 = m := ⟨_, rfl⟩
          rw [hMM] at hM hp hB12
          rw [hmv2] at hB12
          have HM := Bx.mk (And.intro hM hp)
          have H12 := Bx.mk (And.intro (H9.out.step hb912) (And.intro hB12 (show ∀ x ∈ foot hb2 mb2 v2, w5.heap.size ≤ x from fun x hx => Nat.le_trans hs59 (H11.out.2.2.1 x hx))))
          obtain ⟨kA, kc, rfl, _, _⟩ := row_inE H9.out.r
          rw [HN.out] at H12 ⊢
          clear hb912 hM hp hB12 hMM hmv2 HI H11 H9 HFL HB911 HLg hs11 hs59
          go_wp2_with (first
            | (go_at_call 17; refine (hlive_any _).mono ?_; rintro e w13 ⟨rfl, hb13⟩; have H13 := Bx.mk (And.intro (H12.out.1.step hb13) (And.intro (H12.out.2.1.below hb13) H12.out.2.2)); clear hb13 H12)
            | (go_at_call 27; refine (alone_ow H13.out.1.k (by omega) (by omega)).mono ?_; rintro e w14 ⟨rfl, ht14⟩; have h14 := H13.out.1.alone ht14; have H14 : Bx (Ow5 w w14 hb mb v L mv (.slice kA k kc) hb2 mb2 v2 M mv2) := ⟨⟨h14.1, h14.2.1, h14.2.2, H13.out.2.1.kept ht14 (fun x hx hm => by have := H13.out.2.2 x hm; rcases List.mem_cons.1 hx with e | hx; (have := H13.out.1.bK; omega); (have := H13.out.1.xK x hx; omega))⟩⟩; clear ht14 h14 H13)
            | (go_at_call 21; refine (list_any hb mb v L false mv _ H14.out.h (by rw [HN.out]; omega)).mono ?_; rintro e w15 ⟨v15, rfl, hr15, hb15, _⟩; have h15 := H14.out.step hb15; obtain ⟨A15, c15, rfl, hr, _⟩ := row_inE hr15; rw [HN.out] at hr ⊢; obtain ⟨kA', kc', e', hk15, _⟩ := row_inE h15.r; rw [HN.out] at e' hk15; injection e' with e1 _ e2; subst e1 e2; have H15 := Bx.mk (And.intro h15 (And.intro hr hk15)); clear hr15 hb15 h15 hr hk15 H14)
            | (go_at_call 22; refine (hsame_any _ _ k _ _ L _ H15.out.2.1 H15.out.2.2 (by omega)).mono ?_; rintro e w16 ⟨rfl, hb16⟩; have H16 := Bx.mk (H15.out.1.step hb16); clear hb16 H15)
            | (go_at_call 23; refine (sorted_any hb2 mb2 v2 M false mv2 _ H16.out.m (by rw [HM.out.1]; omega)).mono ?_; rintro e w17 ⟨A17, c17, S17, rfl, h17⟩; have H17 := Bx.mk (And.intro (H16.out.step h17.b) (And.intro h17.srt (And.intro (h17.p.trans HM.out.2) h17.row))); rw [HM.out.1] at H17 ⊢; clear h17 H16)
            | (go_at_call 23; refine (sorted_any hb mb v L false mv _ H17.out.1.h (by rw [HN.out]; omega)).mono ?_; rintro e w18 ⟨A18, c18, S18, rfl, h18⟩; have e18 : S18 = S17 := srt_unique h18.srt H17.out.2.1 (h18.p.trans H17.out.2.2.1.symm); have hr18 := h18.row; rw [HN.out, e18] at hr18; have H18 := Bx.mk (And.intro (H17.out.1.step h18.b) (And.intro (H17.out.2.2.2.below h18.b) hr18)); rw [HN.out]; clear h18 H17 e18 hr18)
            | (go_at_call 22; refine (hsame_any _ _ k _ _ _ _ H18.out.2.1 H18.out.2.2 (by omega)).mono ?_; rintro e w19 ⟨rfl, hb19⟩; have H19 := Bx.mk (H18.out.1.step hb19); clear hb19 H18))
          go_ret
          exact ⟨rfl, H19.out.bel⟩
end Go.Proofs.Ytlodgmmhaolmaaa
