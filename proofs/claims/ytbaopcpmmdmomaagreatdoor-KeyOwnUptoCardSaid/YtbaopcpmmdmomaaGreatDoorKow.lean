/- The statement KeyOwn: what the law knows of its book, rows and boxes. The statement KeyOwn. Conditions: the two tables of unicode/utf8 and errors.errorType hold what the program's text lays in them. A series of small bulk among the arguments. -/
import Derived.Test.YtbaopcpmmdmomaaGreatDoorKoa
import Derived.Test.YtbaopcpmmdmomaaGreatDoorAloq
import Derived.Test.YtbaopcpmmdmomaaGreatDoorKeyZ
import Derived.Test.YtbaopcpmmdmomaaGreatDoorKeyTj
set_option linter.unusedSimpArgs false
set_option linter.unusedVariables false
namespace Go.Proofs.YtbaopcpmmdmomaaGreatDoor
section
open Go.RowKit
open Bk
theorem cellS1k {w w' : World} {a : Addr} {v : Value} (h : w.cell? a = some v) (hb : Below w.heap.size w w') : w'.cell? a = some v := by rw [hb.cell (cell_lt h)]; exact h
section
variable {α : Type} {enc : α → List Value} {k : Nat} {e e1 : TypeId} {fi : Nat}
theorem RowG.ty {w : World} {v : Value} {L : List α} {g : Nat} (h : RowG enc k e w v L) (hg : gB v = Option.some g) : ∃ cs z, w.heap[g]? = Option.some (.cells cs e z) := by
  rcases h with ⟨g', cap, cur, h0, rfl, hh, _⟩ | ⟨_, A, rfl⟩
  · rw [gB_pos h0] at hg
    injection hg with hg
    subst hg; exact ⟨_, _, hh⟩
  · cases A <;> cases hg
theorem own_ty {w : World} {base size n : Nat} {v : Value} {xs : List Value} {g : Nat} (h : w.ownsRow base e size v n xs) (hg : v.ownBlock = some g) : ∃ cs z, w.heap[g]? = some (.cells cs e z) := by
  obtain ⟨_, ⟨rfl, _⟩ | ⟨M, cap, cur, rfl, _, hh, _⟩⟩ := h
  · cases hg
  · simp only [Value.ownBlock, Option.some.injEq] at hg
    subst hg; exact ⟨_, _, hh⟩
theorem ty_ne {w : World} {g : Nat} {T T' : TypeId} (hT : T ≠ T') (h : ∃ cs z, w.heap[g]? = some (.cells cs T z)) (h' : ∃ cs z, w.heap[g]? = some (.cells cs T' z)) : False := by
  obtain ⟨cs, z, h⟩ := h
  obtain ⟨cs', z', h'⟩ := h'
  rw [h] at h'
  injection h' with h'
  injection h' with _ h'
  exact hT h'
/-- other blocks have turned -/
theorem Bk.Kp.turned {S : Nat} {wr w' : World} {b : Nat} {bs : Array Value} {v : Value} {xs : List SlE} {N : Nat} {S0 : List Nat} (h : Kp enc k e e1 fi S wr b bs v xs N) (ht : Turned S0 wr w') (hS : ∀ x ∈ S0, x ≠ b ∧ v.ownBlock ≠ some x ∧ ∀ j, j < xs.length → xB xs j ≠ some x) : Kp enc k e e1 fi S w' b bs v xs N where
  book := h.book.kept ht (fun e => (hS b e).1 rfl) (fun x hx e => (hS x hx).2.1 e)
  rows := fun j hj => by
    obtain ⟨L, hL, hn⟩ := h.rows j hj
    exact ⟨L, hL.kept ht (fun x hx e => (hS x hx).2.2 j hj e), hn⟩
  ap := h.ap.more ht.size
  gb := h.gb
  gv := h.gv
  gx := h.gx
/-- another kind's row was taken -/
theorem Bk.Kp.other {S : Nat} {wr w' : World} {b : Nat} {bs bs' : Array Value} {v : Value} {xs : List SlE} {N : Nat} {U : Option Nat} (h : Kp enc k e e1 fi S wr b bs v xs N) (hB : ∃ T, w'.heap[b]? = some (.cells bs' T (0, 0))) (hf : bs'[fi]? = some v) (ht : Turned (b :: U.toList) wr w')
    (hU : ∀ x, U = some x → v.ownBlock ≠ some x ∧ ∀ j, j < xs.length → xB xs j ≠ some x) : Kp enc k e e1 fi S w' b bs' v xs N where
  book := ⟨hB, hf, row_kept h.book.row ht (fun x hx e => by
    rcases List.mem_cons.1 hx with rfl | hx
    · exact h.book.ne e
    · rw [Option.mem_toList] at hx; exact (hU x hx).1 e), h.book.ne⟩
  rows := fun j hj => by
    obtain ⟨L, hL, hn⟩ := h.rows j hj
    refine ⟨L, hL.kept ht (fun x hx e => ?_), hn⟩
    rcases List.mem_cons.1 hx with rfl | hx
    · exact h.ap.b j hj e
    · rw [Option.mem_toList] at hx; exact (hU x hx).2 j hj e
  ap := h.ap.more ht.size
  gb := h.gb
  gv := h.gv
  gx := h.gx
end
abbrev KpT (S : Nat) (wr : World) (b : Nat) (u v : Value) (xs : List SlE) : Prop := Kp encT 1 9 25 1 S wr b (bookTG u v) u xs 1048576
abbrev KpG (S : Nat) (wr : World) (b : Nat) (u v : Value) (ys : List SlE) : Prop := Kp encG 2 70 22 5 S wr b (bookTG u v) v ys 1048576
theorem KpT.free {S : Nat} {wr : World} {b : Nat} {u v : Value} {xs ys : List SlE} (h : KpT S wr b u v xs) (g : KpG S wr b u v ys) :
    (∀ x, v.ownBlock = some x → u.ownBlock ≠ some x ∧ ∀ j, j < xs.length → xB xs j ≠ some x) ∧ (∀ x, u.ownBlock = some x → v.ownBlock ≠ some x ∧ ∀ j, j < ys.length → xB ys j ≠ some x) ∧
    (∀ x ∈ blocksOf xs, x ≠ b ∧ v.ownBlock ≠ some x ∧ ∀ j, j < ys.length → xB ys j ≠ some x) := by
  refine ⟨fun x hx => ⟨fun e => ty_ne (by decide) (own_ty g.book.row hx) (own_ty h.book.row e), fun j hj e => ?_⟩, fun x hx => ⟨fun e => ty_ne (by decide) (own_ty h.book.row hx) (own_ty g.book.row e), fun j hj e => ?_⟩, fun x hx => ?_⟩
  · obtain ⟨L, hL, _⟩ := h.rows j hj
    exact ty_ne (by decide) (own_ty g.book.row hx) (hL.ty e)
  · obtain ⟨L, hL, _⟩ := g.rows j hj
    exact ty_ne (by decide) (own_ty h.book.row hx) (hL.ty e)
  · obtain ⟨i, hi, hx'⟩ := blocksOf_mem hx
    obtain ⟨L, hL, _⟩ := h.rows i hi
    refine ⟨fun e => h.ap.b i hi (by rw [hx', e]), fun e => ty_ne (by decide) (hL.ty hx') (own_ty g.book.row e), fun j hj e => ?_⟩
    obtain ⟨L', hL', _⟩ := g.rows j hj
    exact ty_ne (by decide) (hL.ty hx') (hL'.ty e)
theorem ko_alone {S : Nat} {wr : World} {b : Nat} {u v : Value} {xs ys : List SlE} (h : KpT S wr b u v xs) (g : KpG S wr b u v ys) (hx : xs.length ≤ 100) (hy : ys.length ≤ 100) :
    Calls Tryz.prog 13 #[.pointer (some ⟨b, 0, none⟩)] wr fun e w' => e = .returned (.bool true) ∧ Turned (b :: (blocksOf xs ++ blocksOf ys)) wr w' := by
  obtain ⟨T, hb⟩ := h.book.blk
  obtain ⟨A, cap, hu, _⟩ := h.book.at
  obtain ⟨A', cap', hv, _⟩ := g.book.at
  obtain ⟨_, _, f3⟩ := h.free g
  have kI := alone_texts b (bookTG u v) u xs wr h.mk0 (by omega) (fun j hj => by have := h.len j hj; omega)
  refine (alone_book2 b u v wr (fun w1 => Turned (blocksOf xs) wr w1) (fun w1 => Turned (blocksOf xs ++ blocksOf ys) wr w1) ⟨_, _, _, hu⟩ ⟨_, _, _, hv⟩ T hb (kI.mono fun e w' ⟨h1, h2⟩ => ⟨h1, ⟨h2⟩, h2.block b (block_lt hb) (fun hm => (f3 b hm).1 rfl)⟩) (fun x hQ hxb => ?_)).mono ?_
  · have g' := g.turned hQ f3
    have kG := alone_tags b (bookTG u v) v ys x g'.mk0 (by omega) (fun j hj => by have := g'.len j hj; omega)
    refine kG.mono fun e w' ⟨h1, h2⟩ => ⟨h1, ⟨(hQ.more (fun z hz => List.mem_append_left _ hz)).trans (h2.more (fun z hz => List.mem_append_right _ hz))⟩, ?_⟩
    rw [h2.block b (by have := hQ.size; have := block_lt hb; omega) (fun hm => by
      obtain ⟨i, hi, h3⟩ := blocksOf_mem hm
      exact g.ap.b i hi h3)]
    exact hxb
  · rintro e w' ⟨h1, w1, h2, h3⟩
    exact ⟨h1, (h2.more (fun x hx => List.mem_cons_of_mem _ hx)).trans (h3.more (fun x hx => by simp at hx; subst hx; exact List.mem_cons_self ..))⟩
/-- what the law knows -/
structure KoB (w wr : World) (S bk M : Nat) (m f : List UInt8) (A : Option Addr) (n cap capm : Nat) (tk tv : Nat → List UInt8) (u v : Value) (xs ys : List SlE) : Prop where
  below : Below w.heap.size w wr
  s0 : wr.heap[S]? = some (.cells #[strV m, .slice A n cap, strV f] 24 (0, 0))
  s1 : wr.heap[S + 1]? = some (.cells #[strV m, .slice (some ⟨M, 0, none⟩) n capm, strV f] 24 (0, 0))
  mrow : TagRow wr (some ⟨M, 0, none⟩) n tk tv
  c0 : wr.cell? ⟨M, n * 2, none⟩ = some (strV markL)
  c1 : wr.cell? ⟨M, n * 2 + 1, none⟩ = some (strV [])
  sb : S + 1 < bk
  mb : M < bk
  wb : w.heap.size ≤ bk
  kt : KpT bk wr bk u v xs
  kg : KpG bk wr bk u v ys
section
variable {w wr w' : World} {S bk M : Nat} {m f : List UInt8} {A : Option Addr} {n cap capm : Nat} {tk tv : Nat → List UInt8} {u v : Value} {xs ys : List SlE}
theorem KoB.bkl (h : KoB w wr S bk M m f A n cap capm tk tv u v xs ys) : bk < wr.heap.size := h.kt.ap.lb
/-- the part below the book -/
theorem KoB.low {u' v' : Value} {xs' ys' : List SlE} (h : KoB w wr S bk M m f A n cap capm tk tv u v xs ys) (hb : Below bk wr w') (ht : KpT bk w' bk u' v' xs') (hg : KpG bk w' bk u' v' ys') : KoB w w' S bk M m f A n cap capm tk tv u' v' xs' ys' where
  below := h.below.trans (hb.mono h.wb)
  s0 := by rw [hb.block S (by have := h.sb; omega)]; exact h.s0
  s1 := by rw [hb.block (S + 1) h.sb]; exact h.s1
  mrow := ⟨fun hn => by
    obtain ⟨b, off, e, hr⟩ := h.mrow.row hn
    refine ⟨b, off, e, fun i hi => ?_⟩
    have e' := e
    injection e' with e'
    injection e' with e1 _
    subst e1
    obtain ⟨h1, h2⟩ := hr i hi
    exact ⟨(World.cell?_of_block (hb.block M h.mb)).trans h1, (World.cell?_of_block (hb.block M h.mb)).trans h2⟩, h.mrow.len⟩
  c0 := (World.cell?_of_block (hb.block M h.mb)).trans h.c0
  c1 := (World.cell?_of_block (hb.block M h.mb)).trans h.c1
  sb := h.sb
  mb := h.mb
  wb := h.wb
  kt := ht
  kg := hg
theorem KoB.fin (h : KoB w wr S bk M m f A n cap capm tk tv u v xs ys) (hb : Below bk wr w') : Below w.heap.size w w' ∧ w'.cell? ⟨S, 1, none⟩ = some (.slice A n cap) ∧ w'.cell? ⟨S + 1, 1, none⟩ = some (.slice (some ⟨M, 0, none⟩) n capm) ∧ TagRow w' (some ⟨M, 0, none⟩) n tk tv ∧
    w'.cell? ⟨M, n * 2, none⟩ = some (strV markL) ∧ w'.cell? ⟨M, n * 2 + 1, none⟩ = some (strV []) := by
  refine ⟨h.below.trans (hb.mono h.wb), cells_at ((hb.block S (by have := h.sb; omega)).trans h.s0) 1 _ rfl, cells_at ((hb.block (S + 1) h.sb).trans h.s1) 1 _ rfl, ⟨fun hn => ?_, h.mrow.len⟩, (World.cell?_of_block (hb.block M h.mb)).trans h.c0, (World.cell?_of_block (hb.block M h.mb)).trans h.c1⟩
  obtain ⟨b, off, e, hr⟩ := h.mrow.row hn
  refine ⟨b, off, e, fun i hi => ?_⟩
  have e' := e
  injection e' with e'
  injection e' with e1 _
  subst e1
  obtain ⟨h1, h2⟩ := hr i hi
  exact ⟨(World.cell?_of_block (hb.block M h.mb)).trans h1, (World.cell?_of_block (hb.block M h.mb)).trans h2⟩
theorem KoB.alone_below (h : KoB w wr S bk M m f A n cap capm tk tv u v xs ys) (ht : Turned (bk :: (blocksOf xs ++ blocksOf ys)) wr w') : Below bk wr w' :=
  ht.below (fun x hx => by
    rcases List.mem_cons.1 hx with rfl | hx
    · exact Nat.le_refl _
    · rcases List.mem_append.1 hx with hx | hx
      · obtain ⟨i, hi, e⟩ := blocksOf_mem hx
        exact h.kt.gx i hi x e
      · obtain ⟨i, hi, e⟩ := blocksOf_mem hx
        exact h.kg.gx i hi x e) (Nat.le_of_lt h.bkl)
theorem KoB.step (h : KoB w wr S bk M m f A n cap capm tk tv u v xs ys) (hb : Below wr.heap.size wr w') : KoB w w' S bk M m f A n cap capm tk tv u v xs ys :=
  h.low (hb.mono (Nat.le_of_lt h.bkl)) (h.kt.step hb) (h.kg.step hb)
theorem own_turn {b : Nat} {v : Value} {wr w' : World} (hv : ∀ g, v.ownBlock = some g → b ≤ g) (hb : b ≤ wr.heap.size) (ht : Turned (b :: v.ownBlock.toList) wr w') : Below b wr w' :=
  ht.below (fun x hx => by
    rcases List.mem_cons.1 hx with rfl | hx
    · exact Nat.le_refl _
    · rw [Option.mem_toList] at hx; exact hv x hx) hb
theorem KoB.takeG {y : SlE} {n' : Nat} {v' : Value} {w0 : World} (h : KoB w wr S bk M m f A n cap capm tk tv u v xs ys) (hy : OwnG w0 wr (slV y) n') (hn' : n' ≤ 1048576) (h0 : KoB w w0 S bk M m f A n cap capm tk tv u v xs ys) (hB : BookG 5 22 w' bk (bookTG u v') v' (ys ++ [y])) (ht : Turned (bk :: v.ownBlock.toList) wr w')
    (hv : v'.ownBlock = v.ownBlock ∨ ∀ g, v'.ownBlock = some g → wr.heap.size ≤ g) : KoB w w' S bk M m f A n cap capm tk tv u v' xs (ys ++ [y]) := by
  obtain ⟨A', c', L, e, hL, hr⟩ := hy.ex
  obtain ⟨f1, _, _⟩ := h.kt.free h.kg
  refine h.low (own_turn h.kg.gv (Nat.le_of_lt h.bkl) ht) (h.kt.other hB.blk rfl ht f1) (h.kg.take hr (by omega) (fun g e => ⟨Free.new h0.kg.ap (hy.g g e), by have := hy.g g e; have := h0.bkl; omega⟩) hB ht hv (Nat.le_of_lt h.bkl))
theorem KoB.takeT {y : SlE} {n' : Nat} {u' : Value} {w0 : World} (h : KoB w wr S bk M m f A n cap capm tk tv u v xs ys) (hy : OwnT w0 wr (slV y) n') (hn' : n' ≤ 1048576) (h0 : KoB w w0 S bk M m f A n cap capm tk tv u v xs ys) (hB : BookG 1 25 w' bk (bookTG u' v) u' (xs ++ [y])) (ht : Turned (bk :: u.ownBlock.toList) wr w')
    (hv : u'.ownBlock = u.ownBlock ∨ ∀ g, u'.ownBlock = some g → wr.heap.size ≤ g) : KoB w w' S bk M m f A n cap capm tk tv u' v (xs ++ [y]) ys := by
  obtain ⟨A', c', L, e, hL, hr⟩ := hy.ex
  obtain ⟨_, f2, _⟩ := h.kt.free h.kg
  refine h.low (own_turn h.kt.gv (Nat.le_of_lt h.bkl) ht) (h.kt.take hr (by omega) (fun g e => ⟨Free.new h0.kt.ap (hy.g g e), by have := hy.g g e; have := h0.bkl; omega⟩) hB ht hv (Nat.le_of_lt h.bkl)) (h.kg.other hB.blk rfl ht f2)
end
abbrev serO (m f : List UInt8) (A : Option Addr) (n cap : Nat) : Obj := .cells #[strV m, .slice A n cap, strV f] 24
abbrev bookO : Obj := .cells #[.slice none 0 0, .slice none 0 0, .slice none 0 0, .slice none 0 0, .slice none 0 0, .slice none 0 0, .slice none 0 0, .slice none 0 0, .slice none 0 0, .slice none 0 0, .slice none 0 0, .slice none 0 0, .slice none 0 0, .slice none 0 0, .slice none 0 0, .slice none 0 0, .slice none 0 0, .slice none 0 0, .slice none 0 0, .slice none 0 0, .slice none 0 0, .slice none 0 0, .slice none 0 0, .slice none 0 0, .slice none 0 0, .slice none 0 0, .slice none 0 0, .slice none 0 0] 56
theorem Kp.nil {α : Type} (enc : α → List Value) (k : Nat) (e e1 : TypeId) (fi : Nat) (w : World) (b : Nat) (hb : w.heap[b]? = some (.cells (bookTG (.slice none 0 0) (.slice none 0 0)) 56 (0, 0))) (hf : (bookTG (.slice none 0 0) (.slice none 0 0))[fi]? = some (.slice none 0 0)) (N : Nat) :
    Kp enc k e e1 fi b w b (bookTG (.slice none 0 0) (.slice none 0 0)) (.slice none 0 0) [] N :=
  ⟨⟨⟨_, hb⟩, hf, World.ownsRow_nil _ _ _ _, by simp [Value.ownBlock]⟩, fun j hj => absurd hj (by simp), ⟨block_lt hb, fun g e => (by cases e), fun j hj => absurd hj (by simp), fun j hj => absurd hj (by simp), fun j hj => absurd hj (by simp), fun i j hi => absurd hi (by simp)⟩, Nat.le_refl _, fun g e => (by cases e), fun j hj => absurd hj (by simp)⟩
theorem KoB.start {w w2 : World} {m f : List UInt8} {A : Option Addr} {n cap M capm : Nat} {tk tv : Nat → List UInt8} (hL : Lent ((w.alloc (serO m f A n cap)).alloc (serO m f A n cap)) w2 M n capm tk tv) :
    w2.cell? ⟨w.heap.size + 1, 1, none⟩ = some (.slice A n cap) ∧ w2.frozen? ⟨w.heap.size + 1, 1, none⟩ = false ∧
    KoB w ((w2.setCell ⟨w.heap.size + 1, 1, none⟩ (.slice (some ⟨M, 0, none⟩) n capm)).alloc bookO) w.heap.size w2.heap.size M m f A n cap capm tk tv (.slice none 0 0) (.slice none 0 0) [] [] := by
  have hz : ((w.alloc (serO m f A n cap)).alloc (serO m f A n cap)).heap.size = w.heap.size + 2 := by simp
  have hb2 := below2 w (serO m f A n cap) (serO m f A n cap)
  have h0 : ((w.alloc (serO m f A n cap)).alloc (serO m f A n cap)).heap[w.heap.size]? = some (.cells #[strV m, .slice A n cap, strV f] 24 (0, 0)) := by
    rw [(below1 (w.alloc (serO m f A n cap)) (serO m f A n cap)).block _ (by simp)]
    exact heap_alloc_new w _
  have h1 : ((w.alloc (serO m f A n cap)).alloc (serO m f A n cap)).heap[w.heap.size + 1]? = some (.cells #[strV m, .slice A n cap, strV f] 24 (0, 0)) := by
    have := heap_alloc_new (w.alloc (serO m f A n cap)) (serO m f A n cap)
    rwa [show (w.alloc (serO m f A n cap)).heap.size = w.heap.size + 1 by simp] at this
  have g0 := (hL.below.block w.heap.size (by rw [hz]; omega)).trans h0
  have g1 := (hL.below.block (w.heap.size + 1) (by rw [hz]; omega)).trans h1
  have hM := hL.base
  rw [hz] at hM
  have hMl := hL.lt
  have hs2 := hL.below.size
  rw [hz] at hs2
  have ht : Turned [w.heap.size + 1] w2 (w2.setCell ⟨w.heap.size + 1, 1, none⟩ (.slice (some ⟨M, 0, none⟩) n capm)) := Turned.set _ _ _
  have hsz : (w2.setCell ⟨w.heap.size + 1, 1, none⟩ (.slice (some ⟨M, 0, none⟩) n capm)).heap.size = w2.heap.size := by simp
  have hba := below1 (w2.setCell ⟨w.heap.size + 1, 1, none⟩ (.slice (some ⟨M, 0, none⟩) n capm)) bookO
  have hbk : ((w2.setCell ⟨w.heap.size + 1, 1, none⟩ (.slice (some ⟨M, 0, none⟩) n capm)).alloc bookO).heap[w2.heap.size]? = some (.cells (bookTG (.slice none 0 0) (.slice none 0 0)) 56 (0, 0)) := by
    have := heap_alloc_new (w2.setCell ⟨w.heap.size + 1, 1, none⟩ (.slice (some ⟨M, 0, none⟩) n capm)) bookO
    rwa [hsz] at this
  have hMn : M ∉ [w.heap.size + 1] := by simp; omega
  refine ⟨cells_at g1 1 _ rfl, cells_free g1 1, ?_, ?_, ?_, ?_, ?_, ?_, by omega, hMl, by omega, Kp.nil _ _ _ _ _ _ _ hbk rfl _, Kp.nil _ _ _ _ _ _ _ hbk rfl _⟩
  · have : Below w.heap.size w w2 := hb2.trans (hL.below.mono (by rw [hz]; omega))
    exact (this.setCell (Nat.le_succ _) _).trans (hba.mono (by rw [hsz]; omega))
  · rw [hba.block _ (by rw [hsz]; omega), ht.block _ (by omega) (by simp)]
    exact g0
  · rw [hba.block _ (by rw [hsz]; omega)]
    exact cells_set g1 1 _
  · exact (hL.row.set _ (by omega)).below hba
  · exact cellS1k ((ht.cell hL.c0 hMn)) hba
  · exact cellS1k ((ht.cell hL.c1 hMn)) hba
end
section
open Go.RowKit
open Bk
theorem keyL_len (m f : List UInt8) (n : Nat) (tk tv : Nat → List UInt8) : (keyL m f n tk tv).length ≤ 1048576 := by
  unfold keyL
  split
  · rename_i h
    obtain ⟨h1, h2, h3, h4⟩ := series_ok h
    have := partP_len (n := n) (tk := tk) (tv := tv) h1 h4 n (Nat.le_refl _)
    have := (escL_len f).2
    simp only [List.length_append, List.length_cons, List.length_nil]
    omega
  · simp
theorem joinS_le (nm vl : Nat → List UInt8) (m : Nat) : (joinS nm vl m).length ≤ m := Nat.le_trans (srtT_len _ _ _) (joinL_len nm vl m)
set_option maxHeartbeats 8000000 in
set_option maxRecDepth 100000 in
theorem keyown_law (m f : List UInt8) (A A2 : Option Addr) (n cap N c2 : Nat) (tk tv nm : Nat → List UInt8) (w : World) (hr : SerIn w m f A n tk tv) (hm : TxtRow w A2 N nm) (hl : ∀ i, i < N → (nm i).length ≤ 9223372036854775807) (hn : n ≤ 1048576) (hN : N ≤ 1048576) (hA : A = none → n = 0 ∧ cap = 0) (hG : GlobK w) :
    Calls Tryz.prog 3 #[.agg #[strV m, .slice A n cap, strV f], .slice A2 N c2] w fun e w' => e = .returned (.bool true) ∧ Below w.heap.size w w' := by
  have HR : Bx _ := ⟨And.intro hr (And.intro hm (And.intro hl (And.intro hn (And.intro hN (And.intro hA hG)))))⟩
  clear hr hm hl hn hN hA hG
  have h0 : ((w.alloc (serO m f A n cap)).alloc (serO m f A n cap)).heap[w.heap.size]? = some (.cells #[strV m, .slice A n cap, strV f] 24 (0, 0)) := by
    rw [(below1 (w.alloc (serO m f A n cap)) (serO m f A n cap)).block _ (by simp)]
    exact heap_alloc_new w _
  have c0 := cells_at h0 0 _ rfl
  have c1 := cells_at h0 1 _ rfl
  have c3 := cells_at h0 2 _ rfl
  have kl := lent_any A n cap tk tv _ (HR.out.1.row.below (below2 w (serO m f A n cap) (serO m f A n cap))) (by have := HR.out.2.2.2.1; omega) HR.out.2.2.2.2.2.1
  have HS : Bx (∀ w2 M capm, Lent ((w.alloc (serO m f A n cap)).alloc (serO m f A n cap)) w2 M n capm tk tv → _) := ⟨fun w2 M capm h => KoB.start (M := M) (capm := capm) h⟩
  clear h0
  go_enter Tryz.func3, Tryz.ntmps3
  go_upto_region 2 with (fail)
  change Code.wp _ _ _ _ ((w.alloc (serO m f A n cap)).alloc (serO m f A n cap))
  generalize ((w.alloc (serO m f A n cap)).alloc (serO m f A n cap)) = w1 at *
  go_wp2_with fail
  refine kl.mono ?_
  rintro e w2 ⟨M, capm, rfl, hL⟩
  obtain ⟨d0, d1, hK⟩ := HS.out w2 M capm hL
  have HK : Bx _ := ⟨hK⟩
  have HCAP : Bx (n + 1 ≤ capm) := ⟨hL.cap⟩
  clear hL hK c0 c1 c3 kl HS
  go_upto_region 4 with (fail)
  generalize ((w2.setCell ⟨w.heap.size + 1, 1, none⟩ (.slice (some ⟨M, 0, none⟩) n capm)).alloc bookO) = w3 at *
  generalize w2.heap.size = bk at *
  generalize w.heap.size = S at *
  clear d0 d1
  go_wp2_with fail
  go_loopw [7] (fun i wr => ∃ (q : Nat) (u v : Value) (xs ys : List SlE), q ≤ 2 ∧ i = .int .i64 (q : Int) ∧ xs.length = q ∧ ys.length = 3 * q ∧ Bx (KoB w wr S bk M m f A n cap capm tk tv u v xs ys)) (fun i _ => 2 - (intOf i).toNat)
  case atStart => exact ⟨0, _, _, [], [], by omega, rfl, rfl, rfl, HK⟩
  case round =>
    obtain ⟨q, u, v, xs, ys, hq, rfl, hxl, hyl, HR0⟩ := hrel
    by_cases hlt : q < 2
    · have a1 := cells_at HR0.out.s1 1 _ rfl
      have ks := ksort_own (some ⟨M, 0, none⟩) n capm tk tv wr HR0.out.mrow HR.out.2.2.2.1
      go_wp2_with fail
      refine ks.mono ?_
      rintro e w4 ⟨_, rfl, hO, hb⟩
      obtain ⟨⟨A1, c1, L1, rfl, hL1, hr1⟩, hg1⟩ := hO
      have H4 : Bx _ := ⟨And.intro (HR0.out.step hb) (OwnG.mk (w := wr) (w' := w4) (v := slV (A1, _, c1)) ⟨A1, c1, L1, rfl, hL1, hr1⟩ hg1)⟩
      have hn1 : (srtT tk tv n).length ≤ 1048576 := Nat.le_trans (srtT_len _ _ _) HR.out.2.2.2.1
      clear hb hr1 hg1 hL1 ks a1
      generalize (srtT tk tv n).length = n1 at *
      have kt := ttags_any bk (bookTG u v) v ys (A1, n1, c1) w4 H4.out.1.kg.book (by simp) (by omega)
      go_wp2_with fail
      refine kt.mono ?_
      rintro e w5 ⟨rfl, v1, hB, ht, hv⟩
      have H5 : Bx _ := ⟨H4.out.1.takeG H4.out.2 hn1 HR0.out hB ht hv⟩
      clear kt hB ht hv H4
      have kj := kjoin_own A2 A2 N c2 N c2 nm nm w5 (HR.out.2.1.below H5.out.below) (HR.out.2.1.below H5.out.below) (fun i hi => ⟨HR.out.2.2.1 i (by omega), HR.out.2.2.1 i (by omega)⟩) HR.out.2.2.2.2.1 HR.out.2.2.2.2.1
      go_wp2_with fail
      refine kj.mono ?_
      rintro e w6 ⟨_, rfl, hO, hb⟩
      obtain ⟨⟨A3, c3, L3, rfl, hL3, hr3⟩, hg3⟩ := hO
      have H6 : Bx _ := ⟨And.intro (H5.out.step hb) (OwnG.mk (w := w5) (w' := w6) (v := slV (A3, _, c3)) ⟨A3, c3, L3, rfl, hL3, hr3⟩ hg3)⟩
      have hn3 : (joinS nm nm (min N N)).length ≤ 1048576 := Nat.le_trans (joinS_le _ _ _) (Nat.le_trans (Nat.min_le_left _ _) HR.out.2.2.2.2.1)
      clear hb hr3 hg3 hL3 kj
      generalize (joinS nm nm (min N N)).length = n3 at *
      have kt := ttags_any bk (bookTG u v1) v1 _ (A3, n3, c3) w6 H6.out.1.kg.book (by simp) (by rw [List.length_append, List.length_singleton]; omega)
      go_wp2_with fail
      refine kt.mono ?_
      rintro e w7 ⟨rfl, v2, hB, ht, hv⟩
      have H7 : Bx _ := ⟨H6.out.1.takeG H6.out.2 hn3 H5.out hB ht hv⟩
      clear kt hB ht hv H6 H5
      have a1 := cells_at H7.out.s1 1 _ rfl
      have kg := kgroup_own (some ⟨M, 0, none⟩) A2 n capm N c2 tk tv nm w7 H7.out.mrow (HR.out.2.1.below H7.out.below) (by have := HR.out.2.2.2.1; omega) HR.out.2.2.2.2.1
      go_wp2_with fail
      refine kg.mono ?_
      rintro e w8 ⟨_, rfl, hO, hb⟩
      obtain ⟨⟨A4, c4, L4, rfl, hL4, hr4⟩, hg4⟩ := hO
      have H8 : Bx _ := ⟨And.intro (H7.out.step hb) (OwnT.mk (w := w7) (w' := w8) (v := slV (A4, N, c4)) ⟨A4, c4, L4, rfl, hL4, hr4⟩ hg4)⟩
      clear hb hr4 hg4 hL4 kg a1
      have kt := ttexts_any bk (bookTG u v2) u xs (A4, N, c4) w8 H8.out.1.kt.book (by simp) (by omega)
      go_wp2_with fail
      refine kt.mono ?_
      rintro e w9 ⟨rfl, u1, hB, ht, hv⟩
      have H9 : Bx _ := ⟨H8.out.1.takeT H8.out.2 HR.out.2.2.2.2.1 H7.out hB ht hv⟩
      clear kt hB ht hv H8 H7
      have a0 := cells_at H9.out.s1 0 _ rfl
      have a1 := cells_at H9.out.s1 1 _ rfl
      have a2 := cells_at H9.out.s1 2 _ rfl
      have kp := kprint_any m f (some ⟨M, 0, none⟩) n capm tk tv w9 ⟨H9.out.mrow, HR.out.1.m, HR.out.1.f, HR.out.1.n⟩ (HR.out.2.2.2.2.2.2.below H9.out.below)
      go_wp2_with fail
      refine kp.mono ?_
      rintro e w10 ⟨rfl, hb⟩
      have H10 : Bx _ := ⟨H9.out.step hb⟩
      have hkl := keyL_len m f n tk tv
      clear hb kp a0 a1 a2 H9
      generalize keyL m f n tk tv = kl at *
      have kp := parse_own kl w10 hkl (HR.out.2.2.2.2.2.2.below H10.out.below)
      go_wp2_with fail
      refine kp.mono ?_
      rintro e w11 ⟨⟨m5, v5, n5, f5, x5, rfl, hO, hn5⟩, hb⟩
      obtain ⟨⟨A5, c5, L5, rfl, hL5, hr5⟩, hg5⟩ := hO
      have hba := below1 w11 (serO m5 f5 A5 n5 c5)
      have H11 : Bx _ := ⟨And.intro ((H10.out.step hb).step hba) (OwnG.mk (w := w10) (w' := w11.alloc (serO m5 f5 A5 n5 c5)) (v := slV (A5, n5, c5)) ⟨A5, c5, L5, rfl, hL5, hr5.kept (S := []) (Turned.ofBelow hba) (by simp)⟩ hg5)⟩
      have b1 := cells_at (heap_alloc_new w11 (serO m5 f5 A5 n5 c5)) 1 _ rfl
      clear hb hr5 hg5 hL5 kp hkl hba
      go_upto_region 11 with (fail)
      change Code.wp _ _ _ _ (w11.alloc (serO m5 f5 A5 n5 c5))
      generalize (w11.alloc (serO m5 f5 A5 n5 c5)) = w12 at *
      generalize w11.heap.size = B5 at *
      have kt := ttags_any bk (bookTG u1 v2) v2 _ (A5, n5, c5) w12 H11.out.1.kg.book (by simp) (by rw [List.length_append, List.length_append, List.length_singleton, List.length_singleton]; omega)
      go_wp2_with fail
      refine kt.mono ?_
      rintro e w13 ⟨rfl, v3, hB, ht, hv⟩
      have H13 : Bx _ := ⟨H11.out.1.takeG H11.out.2 hn5 H10.out hB ht hv⟩
      clear kt hB ht hv H11 H10 b1
      go_wp2_with fail
      exact ⟨⟨q + 1, u1, v3, _, _, by omega, by rw [Int.natCast_succ], by rw [List.length_append, List.length_singleton]; omega, by rw [List.length_append, List.length_append, List.length_append, List.length_singleton, List.length_singleton, List.length_singleton]; omega, H13⟩, by simp only [intOf]; omega⟩
    · have kl := live_any wr (HR.out.2.2.2.2.2.2.below HR0.out.below)
      go_wp2_with fail
      refine kl.mono ?_
      rintro e w4 ⟨rfl, hb⟩
      have H4 : Bx _ := ⟨HR0.out.step hb⟩
      clear kl hb HR0
      have ka := ko_alone H4.out.kt H4.out.kg (by omega) (by omega)
      go_wp2_with fail
      refine ka.mono ?_
      rintro e w5 ⟨rfl, ht⟩
      obtain ⟨g0, g1, g2, g3, g4, g5⟩ := H4.out.fin (H4.out.alone_below ht)
      have kk := kept_any A n cap M capm tk tv w5 (HR.out.1.row.below g0) g3 g4 g5 HCAP.out (by have := HR.out.2.2.2.1; omega)
      have H5 : Bx _ := ⟨g0⟩
      clear ka ht g0 g3 g4 g5 H4
      go_wp2_with fail
      refine kk.mono ?_
      rintro e w6 ⟨rfl, hb⟩
      have H6 : Bx (Below w.heap.size w w6) := ⟨H5.out.trans (hb.mono H5.out.size)⟩
      clear kk hb g1 g2
      go_wp2
      go_ret
      exact ⟨rfl, H6.out⟩
end
section
open Go.ChangeShapes Go.WideShapes Go.ChangeAt Go.RowKit Go.Deep
section
variable {H : Type} {enc : TypeId × Value → H}
set_option maxRecDepth 100000 in
theorem tagsf_upto {W : World} {A : Option Addr} {n c0 k : Nat} {y : DataW H × List MemPlace} (hf : DataW.trod enc Tryz.prog W 0 (fun _ => true) true k 22 [Value.slice A n c0] = some y) (hb : Rows.uptoBulk y.1 ≤ 1048576) : n ≤ 1048576 ∧ (A = none → n = 0 ∧ c0 = 0) := by
  obtain ⟨d, p⟩ := y
  rcases open_slice Tryz.underlying22 hf with ⟨hcs, hx⟩ | ⟨a, len, cap, m, k, D, Pl, hcs, _, hl, hm, hmm, hx, hi⟩
  · have hcs : [Value.slice A n c0] = _ := hcs
    simp only [List.cons.injEq, Value.slice.injEq, and_true] at hcs
    obtain ⟨rfl, rfl, rfl⟩ := hcs
    exact ⟨by omega, fun _ => ⟨rfl, rfl⟩⟩
  · have hcs : [Value.slice A n c0] = _ := hcs
    simp only [List.cons.injEq, Value.slice.injEq, and_true] at hcs
    obtain ⟨rfl, rfl, rfl⟩ := hcs
    refine ⟨?_, fun e => by cases e⟩
    injection hx with hx _
    subst hx
    have := bulk_len ((List.range n).map D)
    simp only [List.length_map, List.length_range, Rows.uptoBulk] at this hb
    omega
set_option maxRecDepth 100000 in
theorem series_upto {W : World} {r : Reach} {b0 : Nat} {v : Value} {d : DataW H} {p : List MemPlace} (hv : Value.okWide Tryz.prog W r b0 24 v) (h : DataW.Trod enc Tryz.prog W 0 (fun _ => true) true 24 v d p) (hb : Rows.uptoBulk d ≤ 1048576) :
    ∃ (m f : List UInt8) (A : Option Addr) (n cap : Nat) (tk tv : Nat → List UInt8), v = .agg #[strV m, .slice A n cap, strV f] ∧ SerIn W m f A n tk tv ∧ n ≤ 1048576 ∧ (A = none → n = 0 ∧ cap = 0) := by
  obtain ⟨m, f, A, n, cap, tk, tv, rfl, hs⟩ := series_opened hv h
  have cz : Tryz.prog.cellsOf 24 = 3 := by kernel_rfl
  obtain ⟨v0, v1, v2, y0, y1, y2, k, he, rfl, rfl, h0, h1, h2⟩ := Go.Joins.open_agg3 Tryz.underlying24 (by kernel_rfl) cz hv h
  simp only [Value.agg.injEq, Array.mk.injEq, List.cons.injEq, and_true] at he
  obtain ⟨rfl, rfl, rfl⟩ := he
  simp only [Rows.uptoBulk, Rows.uptoBulkAll] at hb
  obtain ⟨g1, g2⟩ := tagsf_upto h1 (by omega)
  exact ⟨m, f, A, n, cap, tk, tv, rfl, hs, g1, g2⟩
end
end
end Go.Proofs.YtbaopcpmmdmomaaGreatDoor
