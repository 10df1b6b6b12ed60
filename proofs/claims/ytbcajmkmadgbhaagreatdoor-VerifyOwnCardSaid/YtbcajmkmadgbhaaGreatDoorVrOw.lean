/- The statement VerifyOwn. Conditions: code.table, the two tables of unicode/utf8 and errors.errorType hold what the program's text lays in them. -/
import Derived.Test.YtbcajmkmadgbhaaGreatDoorOwi
import Derived.Test.YtbcajmkmadgbhaaGreatDoorGra
import Derived.Test.YtbcajmkmadgbhaaGreatDoorAloi
import Derived.Test.YtbcajmkmadgbhaaGreatDoorVrU
import Derived.Deep.RegionHeld3
set_option linter.unusedSimpArgs false
set_option linter.unusedVariables false
namespace Go.Proofs.YtbcajmkmadgbhaaGreatDoor
open Go.RowKit
open Bk
theorem verB_form (o : Option (Int × Option Nat)) : ∃ c n b, verB o = .agg #[.int .i64 c, .int .i64 n, .int .i64 0, .bool b, .bool false] := by
  cases o with
  | none => exact ⟨0, 0, false, rfl⟩
  | some x =>
    obtain ⟨c, o⟩ := x
    obtain ⟨n, b, h⟩ := verB_cells (c := c) (o := o)
    exact ⟨c, n, b, h⟩
abbrev KpI (S : Nat) (wr : World) (b : Nat) (v : Value) (xs : List SlE) : Prop := Kp encI 1 3 62 2 S wr b (bookI v) v xs 65536
theorem own_alone {S : Nat} {wr : World} {b : Nat} {v : Value} {xs : List SlE} (K : KpI S wr b v xs) (hx : xs.length ≤ 100) :
    Calls Tryz.prog 11 #[.pointer (some ⟨b, 0, none⟩)] wr fun e w' => e = .returned (.bool true) ∧ Turned (b :: blocksOf xs) wr w' := by
  obtain ⟨T, hb⟩ := K.book.blk
  obtain ⟨A, cap, hv, _⟩ := K.book.at
  have kI := alone_ints b (bookI v) v xs wr K.mk0 (by omega) (fun j hj => by have := K.len j hj; omega)
  refine (alone_book b v wr (fun w1 => Turned (blocksOf xs) wr w1) ⟨_, _, _, hv⟩ T hb (kI.mono fun e w' ⟨h1, h2⟩ => ⟨h1, ⟨h2⟩, h2.block b (block_lt hb) (fun hm => by
    obtain ⟨i, hi, h3⟩ := blocksOf_mem hm
    exact K.ap.b i hi h3)⟩)).mono ?_
  rintro e w' ⟨h1, w1, h2, h3⟩
  exact ⟨h1, (h2.more (fun x hx => List.mem_cons_of_mem _ hx)).trans (h3.more (fun x hx => by simp at hx; subst hx; exact List.mem_cons_self ..))⟩
/-- what the law knows: the program, its error, the book; none of them lies in another -/
structure OwB (w wr : World) (S bk NB : Nat) (D : PrgD) (L : PLoc) (cs : Array Value) (v : Value) (xs : List SlE) : Prop where
  hd : HdB w wr S D L
  nb : CB wr NB cs
  k : KpI bk wr bk v xs
  sb : S < bk
  fr : Free NB bk v xs
section
variable {w wr w' : World} {S bk NB : Nat} {D : PrgD} {L : PLoc} {cs : Array Value} {v : Value} {xs : List SlE}
theorem OwB.step (h : OwB w wr S bk NB D L cs v xs) (hb : Below wr.heap.size wr w') : OwB w w' S bk NB D L cs v xs := ⟨h.hd.step hb, h.nb.below hb, h.k.step hb, h.sb, h.fr⟩
theorem OwB.bkl (h : OwB w wr S bk NB D L cs v xs) : bk < wr.heap.size := h.k.ap.lb
/-- a row that waits to be taken -/
structure Wt (wr : World) (bk : Nat) (v : Value) (xs : List SlE) (NB : Nat) (y : SlE) (Y : List Int) : Prop where
  row : RowG encI 1 3 wr (slV y) Y
  n : Y.length ≤ 65536
  fr : ∀ g, gB (slV y) = some g → Free g bk v xs ∧ bk ≤ g ∧ g ≠ NB
theorem Wt.step {y : SlE} {Y : List Int} (h : Wt wr bk v xs NB y Y) (hb : Below wr.heap.size wr w') : Wt w' bk v xs NB y Y := ⟨h.row.kept (S := []) (Turned.ofBelow hb) (by simp), h.n, h.fr⟩
theorem Wt.new {y : SlE} {Y : List Int} {w0 : World} (h : OwB w w0 S bk NB D L cs v xs) (hr : RowG encI 1 3 wr (slV y) Y) (hn : Y.length ≤ 65536) (hg : ∀ g, gB (slV y) = some g → w0.heap.size ≤ g) : Wt wr bk v xs NB y Y :=
  ⟨hr, hn, fun g e => ⟨Free.new h.k.ap (hg g e), by have := h.bkl; have := hg g e; omega, by have := h.nb.lt; have := hg g e; omega⟩⟩
theorem OwB.tk {y : SlE} {Y : List Int} {v' : Value} (h : OwB w wr S bk NB D L cs v xs) (hy : Wt wr bk v xs NB y Y) (hB : BookG 2 62 w' bk (bookI v') v' (xs ++ [y])) (ht : Turned (bk :: v.ownBlock.toList) wr w') (hv : v'.ownBlock = v.ownBlock ∨ ∀ g, v'.ownBlock = some g → wr.heap.size ≤ g) : OwB w w' S bk NB D L cs v' (xs ++ [y]) where
  hd := h.hd.turned ht (fun x hx => by
    rcases List.mem_cons.1 hx with rfl | hx
    · exact h.sb
    · have := h.k.gv x (by rw [Option.mem_toList] at hx; exact hx); have := h.sb; omega)
  nb := h.nb.turned ht (fun hx => by
    rcases List.mem_cons.1 hx with e | hx
    · exact h.fr.b e
    · exact h.fr.v (by rw [Option.mem_toList] at hx; exact hx))
  k := h.k.take hy.row hy.n (fun g e => ⟨(hy.fr g e).1, (hy.fr g e).2.1⟩) hB ht hv (Nat.le_of_lt h.bkl)
  sb := h.sb
  fr := h.fr.take (fun e => (hy.fr NB e).2.2 rfl) hv h.nb.lt
theorem Wt.tk {y z : SlE} {Z : List Int} {v' : Value} (h : Wt wr bk v xs NB z Z) (hy : ∀ g, gB (slV z) = some g → gB (slV y) ≠ some g) (ht : Turned (bk :: v.ownBlock.toList) wr w') (hv : v'.ownBlock = v.ownBlock ∨ ∀ g, v'.ownBlock = some g → wr.heap.size ≤ g) : Wt w' bk v' (xs ++ [y]) NB z Z where
  row := h.row.kept ht (fun x hx e => by
    rcases List.mem_cons.1 hx with rfl | hx
    · exact (h.fr x e).1.b rfl
    · exact (h.fr x e).1.v (by rw [Option.mem_toList] at hx; exact hx))
  n := h.n
  fr := fun g e => ⟨(h.fr g e).1.take (hy g e) hv (h.row.lt e), (h.fr g e).2⟩
end
set_option maxHeartbeats 8000000 in
set_option maxRecDepth 100000 in
theorem own_law (D : PrgD) (L : PLoc) (w : World) (hM : PrgM w D L) (hB : PrgB D) (hG : GlobK w) (hT : TabU w) :
    Calls Tryz.prog 3 #[prgV D L] w fun e w' => e = .returned (.bool true) ∧ Below w.heap.size w w' := by
  have H0 : Bx _ := ⟨(HdB.alloc w D L 28 hM hG).step (below1 _ (.cells #[.slice none 0 0, .slice none 0 0, .slice none 0 0, .slice none 0 0, .slice none 0 0, .slice none 0 0, .slice none 0 0, .slice none 0 0, .slice none 0 0, .slice none 0 0, .slice none 0 0, .slice none 0 0, .slice none 0 0, .slice none 0 0, .slice none 0 0, .slice none 0 0, .slice none 0 0, .slice none 0 0, .slice none 0 0, .slice none 0 0, .slice none 0 0, .slice none 0 0, .slice none 0 0, .slice none 0 0, .slice none 0 0, .slice none 0 0, .slice none 0 0, .slice none 0 0] 57))⟩
  have HB : Bx _ := ⟨And.intro hB hT⟩
  have HK0 : Bx (((w.alloc (.cells (prgC D L) 28)).alloc (.cells #[.slice none 0 0, .slice none 0 0, .slice none 0 0, .slice none 0 0, .slice none 0 0, .slice none 0 0, .slice none 0 0, .slice none 0 0, .slice none 0 0, .slice none 0 0, .slice none 0 0, .slice none 0 0, .slice none 0 0, .slice none 0 0, .slice none 0 0, .slice none 0 0, .slice none 0 0, .slice none 0 0, .slice none 0 0, .slice none 0 0, .slice none 0 0, .slice none 0 0, .slice none 0 0, .slice none 0 0, .slice none 0 0, .slice none 0 0, .slice none 0 0, .slice none 0 0] 57)).heap[w.heap.size + 1]? = some (.cells #[.slice none 0 0, .slice none 0 0, .slice none 0 0, .slice none 0 0, .slice none 0 0, .slice none 0 0, .slice none 0 0, .slice none 0 0, .slice none 0 0, .slice none 0 0, .slice none 0 0, .slice none 0 0, .slice none 0 0, .slice none 0 0, .slice none 0 0, .slice none 0 0, .slice none 0 0, .slice none 0 0, .slice none 0 0, .slice none 0 0, .slice none 0 0, .slice none 0 0, .slice none 0 0, .slice none 0 0, .slice none 0 0, .slice none 0 0, .slice none 0 0, .slice none 0 0] 57 (0, 0)) ∧ ((w.alloc (.cells (prgC D L) 28)).alloc (.cells #[.slice none 0 0, .slice none 0 0, .slice none 0 0, .slice none 0 0, .slice none 0 0, .slice none 0 0, .slice none 0 0, .slice none 0 0, .slice none 0 0, .slice none 0 0, .slice none 0 0, .slice none 0 0, .slice none 0 0, .slice none 0 0, .slice none 0 0, .slice none 0 0, .slice none 0 0, .slice none 0 0, .slice none 0 0, .slice none 0 0, .slice none 0 0, .slice none 0 0, .slice none 0 0, .slice none 0 0, .slice none 0 0, .slice none 0 0, .slice none 0 0, .slice none 0 0] 57)).heap.size = w.heap.size + 2) := ⟨by
    have h := heap_alloc_new (w.alloc (.cells (prgC D L) 28)) (.cells #[.slice none 0 0, .slice none 0 0, .slice none 0 0, .slice none 0 0, .slice none 0 0, .slice none 0 0, .slice none 0 0, .slice none 0 0, .slice none 0 0, .slice none 0 0, .slice none 0 0, .slice none 0 0, .slice none 0 0, .slice none 0 0, .slice none 0 0, .slice none 0 0, .slice none 0 0, .slice none 0 0, .slice none 0 0, .slice none 0 0, .slice none 0 0, .slice none 0 0, .slice none 0 0, .slice none 0 0, .slice none 0 0, .slice none 0 0, .slice none 0 0, .slice none 0 0] 57)
    simp only [heap_push, Array.size_push] at h
    exact h, by simp only [heap_push, Array.size_push]⟩
  clear hM hG hB hT
  go_enter Tryz.func3, Tryz.ntmps3
  go_upto_region 2 with (fail)
  generalize ((w.alloc (.cells (prgC D L) 28)).alloc (.cells #[.slice none 0 0, .slice none 0 0, .slice none 0 0, .slice none 0 0, .slice none 0 0, .slice none 0 0, .slice none 0 0, .slice none 0 0, .slice none 0 0, .slice none 0 0, .slice none 0 0, .slice none 0 0, .slice none 0 0, .slice none 0 0, .slice none 0 0, .slice none 0 0, .slice none 0 0, .slice none 0 0, .slice none 0 0, .slice none 0 0, .slice none 0 0, .slice none 0 0, .slice none 0 0, .slice none 0 0, .slice none 0 0, .slice none 0 0, .slice none 0 0, .slice none 0 0] 57)) = w0 at *
  generalize hS : w.heap.size = S at *
  have HZ : Bx (w.heap.size = S) := ⟨hS⟩
  clear hS
  obtain ⟨c, n, b, hVB⟩ := verB_form (verF D)
  have HVB : Bx _ := ⟨hVB⟩
  have HTB : Bx (∀ x, Below S w x → TabU x) := ⟨fun x h => HB.out.2.below (by rw [HZ.out]; exact h)⟩
  clear hVB
  have p0 := H0.out.box.cell 0 _ rfl
  have p1 := H0.out.box.cell 1 _ rfl
  have p2 := H0.out.box.cell 2 _ rfl
  have p3 := H0.out.box.cell 3 _ rfl
  have p4 := H0.out.box.cell 4 _ rfl
  have p5 := H0.out.box.cell 5 _ rfl
  have p6 := H0.out.box.cell 6 _ rfl
  have p7 := H0.out.box.cell 7 _ rfl
  have p8 := H0.out.box.cell 8 _ rfl
  have p9 := H0.out.box.cell 9 _ rfl
  have p10 := H0.out.box.cell 10 _ rfl
  have p11 := H0.out.box.cell 11 _ rfl
  have p12 := H0.out.box.cell 12 _ rfl
  have p13 := H0.out.box.cell 13 _ rfl
  have kp := rprogram_any D L w0 H0.out.mem HB.out.1 H0.out.glob
  rw [HVB.out] at kp
  go_wp2_with fail
  refine kp.mono ?_
  rintro e w1 ⟨rfl, hb⟩
  have H1 : Bx (OwB w (w1.alloc (.cells #[.int .i64 c, .int .i64 n, .int .i64 0, .bool b, .bool false] 60)) S (S + 1) w1.heap.size D L #[.int .i64 c, .int .i64 n, .int .i64 0, .bool b, .bool false] (.slice none 0 0) []) := ⟨by
    have hbb := below1 w1 (.cells #[.int .i64 c, .int .i64 n, .int .i64 0, .bool b, .bool false] 60)
    have hlt : S + 1 < w1.heap.size := by have := HK0.out.2; have := hb.size; omega
    have hblk : (w1.alloc (.cells #[.int .i64 c, .int .i64 n, .int .i64 0, .bool b, .bool false] 60)).heap[S + 1]? = some (.cells (bookI (.slice none 0 0)) 57 (0, 0)) := by
      rw [hbb.block (S + 1) hlt, hb.block (S + 1) (by have := HK0.out.2; omega)]; exact HK0.out.1
    refine ⟨(H0.out.step hb).step hbb, CB.new w1 _ _, ⟨⟨⟨_, hblk⟩, rfl, World.ownsRow_nil _ _ _ _, by simp [Value.ownBlock]⟩, fun j hj => absurd hj (by simp), ⟨Nat.lt_of_lt_of_le hlt hbb.size, fun g e => (by cases e), fun j hj => absurd hj (by simp), fun j hj => absurd hj (by simp), fun j hj => absurd hj (by simp), fun i j hi => absurd hi (by simp)⟩, Nat.le_refl _, fun g e => (by cases e), fun j hj => absurd hj (by simp)⟩, by omega, ⟨by omega, by simp [Value.ownBlock], fun j hj => absurd hj (by simp)⟩⟩⟩
  clear hb kp p0 p1 p2 p3 p4 p5 p6 p7 p8 p9 p10 p11 p12 p13
  go_upto_region 3 with (fail)
  generalize (w1.alloc (.cells #[.int .i64 c, .int .i64 n, .int .i64 0, .bool b, .bool false] 60)) = w2 at *
  generalize w1.heap.size = NB at *
  go_wp2_with fail
  go_loopw [5] (fun i wr => ∃ (q : Nat) (v : Value) (xs : List SlE), q ≤ 2 ∧ i = .int .i64 (q : Int) ∧ xs.length = 3 * q ∧ Bx (OwB w wr S (S + 1) NB D L #[.int .i64 c, .int .i64 n, .int .i64 0, .bool b, .bool false] v xs)) (fun i _ => 2 - (intOf i).toNat)
  case atStart => exact ⟨0, _, [], by omega, rfl, rfl, ⟨H1.out⟩⟩
  case round =>
    obtain ⟨q, v, xs, hq, rfl, hxl, HR⟩ := hrel
    by_cases hlt : q < 2
    · 
      have p0 := HR.out.hd.box.cell 0 _ rfl
      have p1 := HR.out.hd.box.cell 1 _ rfl
      have p2 := HR.out.hd.box.cell 2 _ rfl
      have p3 := HR.out.hd.box.cell 3 _ rfl
      have p4 := HR.out.hd.box.cell 4 _ rfl
      have p5 := HR.out.hd.box.cell 5 _ rfl
      have p6 := HR.out.hd.box.cell 6 _ rfl
      have p7 := HR.out.hd.box.cell 7 _ rfl
      have p8 := HR.out.hd.box.cell 8 _ rfl
      have p9 := HR.out.hd.box.cell 9 _ rfl
      have p10 := HR.out.hd.box.cell 10 _ rfl
      have p11 := HR.out.hd.box.cell 11 _ rfl
      have p12 := HR.out.hd.box.cell 12 _ rfl
      have p13 := HR.out.hd.box.cell 13 _ rfl
      go_wp2_with fail
      refine (vheights_own D L wr HR.out.hd.mem HB.out.1 HR.out.hd.glob (HTB.out _ HR.out.hd.below)).mono ?_
      rintro e w3 ⟨_, rfl, ⟨A1, c1, L1, x1, rfl, hr1, hg1, hn1⟩, hb⟩
      have H3 : Bx _ := ⟨And.intro (HR.out.step hb) (Wt.new HR.out (y := (A1, L1.length, c1)) hr1 hn1 hg1)⟩
      clear hb hr1 hg1 hn1 p0 p1 p2 p3 p4 p5 p6 p7 p8 p9 p10 p11 p12 p13
      have p0 := H3.out.1.hd.box.cell 0 _ rfl
      have p1 := H3.out.1.hd.box.cell 1 _ rfl
      have p2 := H3.out.1.hd.box.cell 2 _ rfl
      have p3 := H3.out.1.hd.box.cell 3 _ rfl
      have p4 := H3.out.1.hd.box.cell 4 _ rfl
      have p5 := H3.out.1.hd.box.cell 5 _ rfl
      have p6 := H3.out.1.hd.box.cell 6 _ rfl
      have p7 := H3.out.1.hd.box.cell 7 _ rfl
      have p8 := H3.out.1.hd.box.cell 8 _ rfl
      have p9 := H3.out.1.hd.box.cell 9 _ rfl
      have p10 := H3.out.1.hd.box.cell 10 _ rfl
      have p11 := H3.out.1.hd.box.cell 11 _ rfl
      have p12 := H3.out.1.hd.box.cell 12 _ rfl
      have p13 := H3.out.1.hd.box.cell 13 _ rfl
      go_wp2_with fail
      refine (vrises_own D L w3 H3.out.1.hd.mem HB.out.1 H3.out.1.hd.glob (HTB.out _ H3.out.1.hd.below)).mono ?_
      rintro e w4 ⟨_, rfl, ⟨A2, c2, L2, x2, rfl, hr2, hg2, hn2⟩, hb⟩
      have H4 : Bx _ := ⟨And.intro (H3.out.1.step hb) (And.intro (H3.out.2.step hb) (Wt.new H3.out.1 (y := (A2, L2.length, c2)) hr2 hn2 hg2))⟩
      have HD12 : Bx (∀ g, gB (slV (A2, L2.length, c2)) = some g → gB (slV (A1, L1.length, c1)) ≠ some g) := ⟨fun g e e2 => by have := hg2 g e; have := H3.out.2.row.lt e2; omega⟩
      clear hb hr2 hg2 hn2 p0 p1 p2 p3 p4 p5 p6 p7 p8 p9 p10 p11 p12 p13
      have p0 := H4.out.1.hd.box.cell 0 _ rfl
      have p1 := H4.out.1.hd.box.cell 1 _ rfl
      have p2 := H4.out.1.hd.box.cell 2 _ rfl
      have p3 := H4.out.1.hd.box.cell 3 _ rfl
      have p4 := H4.out.1.hd.box.cell 4 _ rfl
      have p5 := H4.out.1.hd.box.cell 5 _ rfl
      have p6 := H4.out.1.hd.box.cell 6 _ rfl
      have p7 := H4.out.1.hd.box.cell 7 _ rfl
      have p8 := H4.out.1.hd.box.cell 8 _ rfl
      have p9 := H4.out.1.hd.box.cell 9 _ rfl
      have p10 := H4.out.1.hd.box.cell 10 _ rfl
      have p11 := H4.out.1.hd.box.cell 11 _ rfl
      have p12 := H4.out.1.hd.box.cell 12 _ rfl
      have p13 := H4.out.1.hd.box.cell 13 _ rfl
      go_wp2_with fail
      refine (vdead_own D L w4 H4.out.1.hd.mem HB.out.1 H4.out.1.hd.glob (HTB.out _ H4.out.1.hd.below)).mono ?_
      rintro e w5 ⟨_, rfl, ⟨A3, c3, L3, x3, rfl, hr3, hg3, hn3⟩, hb⟩
      have H5 : Bx _ := ⟨And.intro (H4.out.1.step hb) (And.intro (H4.out.2.1.step hb) (And.intro (H4.out.2.2.step hb) (Wt.new H4.out.1 (y := (A3, L3.length, c3)) hr3 hn3 hg3)))⟩
      have HD3 : Bx ((∀ g, gB (slV (A3, L3.length, c3)) = some g → gB (slV (A1, L1.length, c1)) ≠ some g) ∧ ∀ g, gB (slV (A3, L3.length, c3)) = some g → gB (slV (A2, L2.length, c2)) ≠ some g) := ⟨fun g e e2 => by have := hg3 g e; have := H4.out.2.1.row.lt e2; omega, fun g e e2 => by have := hg3 g e; have := H4.out.2.2.row.lt e2; omega⟩
      clear hb hr3 hg3 hn3 p0 p1 p2 p3 p4 p5 p6 p7 p8 p9 p10 p11 p12 p13
      have kt := tints_any (S + 1) (bookI v) v xs (A1, L1.length, c1) w5 H5.out.1.k.book (by simp) (by omega)
      go_wp2_with fail
      refine kt.mono ?_
      rintro e w6 ⟨rfl, v1, hB1, ht1, hv1⟩
      have H6 : Bx _ := ⟨And.intro (H5.out.1.tk H5.out.2.1 hB1 ht1 hv1) (And.intro (H5.out.2.2.1.tk HD12.out ht1 hv1) (H5.out.2.2.2.tk HD3.out.1 ht1 hv1))⟩
      clear kt hB1 ht1 hv1
      have kt := tints_any (S + 1) (bookI v1) v1 _ (A2, L2.length, c2) w6 H6.out.1.k.book (by simp) (by rw [List.length_append, List.length_singleton]; omega)
      go_wp2_with fail
      refine kt.mono ?_
      rintro e w7 ⟨rfl, v2, hB2, ht2, hv2⟩
      have H7 : Bx _ := ⟨And.intro (H6.out.1.tk H6.out.2.1 hB2 ht2 hv2) (H6.out.2.2.tk HD3.out.2 ht2 hv2)⟩
      clear kt hB2 ht2 hv2
      have kt := tints_any (S + 1) (bookI v2) v2 _ (A3, L3.length, c3) w7 H7.out.1.k.book (by simp) (by rw [List.length_append, List.length_append, List.length_singleton, List.length_singleton]; omega)
      go_wp2_with fail
      refine kt.mono ?_
      rintro e w8 ⟨rfl, v3, hB3, ht3, hv3⟩
      have H8 : Bx _ := ⟨H7.out.1.tk H7.out.2 hB3 ht3 hv3⟩
      clear kt hB3 ht3 hv3
      go_wp2_with fail
      exact ⟨⟨q + 1, v3, _, by omega, by rw [Int.natCast_succ], by rw [List.length_append, List.length_append, List.length_append, List.length_singleton, List.length_singleton, List.length_singleton]; omega, ⟨H8.out⟩⟩, by simp only [intOf]; omega⟩
    · have hx6 : xs.length ≤ 100 := by omega
      have HW : Bx (OwB w wr.drew S (S + 1) NB D L #[.int .i64 c, .int .i64 n, .int .i64 0, .bool b, .bool false] v xs) := ⟨HR.out.step ((Below.refl _ _).drew)⟩
      have hS0 : ∀ x, HdB w x S D L → CB x NB #[.int .i64 c, .int .i64 n, .int .i64 0, .bool b, .bool false] → (x.cell? ⟨S, 0, none⟩ = some (strV D.from_) ∧ x.cell? ⟨S, 1, none⟩ = some (strV D.into) ∧ x.cell? ⟨S, 2, none⟩ = some (.int .i64 D.every) ∧ x.cell? ⟨S, 3, none⟩ = some (.int .i64 D.offset) ∧ x.cell? ⟨S, 4, none⟩ = some (.slice L.ag D.groups.length L.cg) ∧ x.cell? ⟨S, 5, none⟩ = some (.slice L.ac D.accs.length L.cc) ∧ x.cell? ⟨S, 6, none⟩ = some (.slice L.al D.aliases.length L.cl) ∧ x.cell? ⟨S, 7, none⟩ = some (.slice L.an D.names.length L.cn) ∧ x.cell? ⟨S, 8, none⟩ = some (.slice L.at_ D.texts.length L.ct) ∧ x.cell? ⟨S, 9, none⟩ = some (.slice L.ai D.lists.length L.ci) ∧ x.cell? ⟨S, 10, none⟩ = some (.slice L.am D.times.length L.cm) ∧ x.cell? ⟨S, 11, none⟩ = some (.slice L.az D.ints.length L.cz) ∧ x.cell? ⟨S, 12, none⟩ = some (.slice L.af D.filter.length L.cf) ∧ x.cell? ⟨S, 13, none⟩ = some (.slice L.ao D.output.length L.co) ∧ x.cell? ⟨NB, 0, none⟩ = some (.int .i64 c) ∧ x.cell? ⟨NB, 1, none⟩ = some (.int .i64 n) ∧ x.cell? ⟨NB, 2, none⟩ = some (.int .i64 0) ∧ x.cell? ⟨NB, 3, none⟩ = some (.bool b) ∧ x.cell? ⟨NB, 4, none⟩ = some (.bool false)) := fun x h1 h2 =>
        ⟨h1.box.cell 0 _ rfl, h1.box.cell 1 _ rfl, h1.box.cell 2 _ rfl, h1.box.cell 3 _ rfl, h1.box.cell 4 _ rfl, h1.box.cell 5 _ rfl, h1.box.cell 6 _ rfl, h1.box.cell 7 _ rfl, h1.box.cell 8 _ rfl, h1.box.cell 9 _ rfl, h1.box.cell 10 _ rfl, h1.box.cell 11 _ rfl, h1.box.cell 12 _ rfl, h1.box.cell 13 _ rfl, h2.at 0 _ rfl, h2.at 1 _ rfl, h2.at 2 _ rfl, h2.at 3 _ rfl, h2.at 4 _ rfl⟩
      have kl := live_any wr.drew HW.out.hd.glob (HTB.out _ HW.out.hd.below)
      have z0 := hS0 _ HW.out.hd HW.out.nb
      go_wp2_with fail
      go_region_held3 (fun x => x.cell? ⟨S, 0, none⟩ = some (strV D.from_) ∧ x.cell? ⟨S, 1, none⟩ = some (strV D.into) ∧ x.cell? ⟨S, 2, none⟩ = some (.int .i64 D.every) ∧ x.cell? ⟨S, 3, none⟩ = some (.int .i64 D.offset) ∧ x.cell? ⟨S, 4, none⟩ = some (.slice L.ag D.groups.length L.cg) ∧ x.cell? ⟨S, 5, none⟩ = some (.slice L.ac D.accs.length L.cc) ∧ x.cell? ⟨S, 6, none⟩ = some (.slice L.al D.aliases.length L.cl) ∧ x.cell? ⟨S, 7, none⟩ = some (.slice L.an D.names.length L.cn) ∧ x.cell? ⟨S, 8, none⟩ = some (.slice L.at_ D.texts.length L.ct) ∧ x.cell? ⟨S, 9, none⟩ = some (.slice L.ai D.lists.length L.ci) ∧ x.cell? ⟨S, 10, none⟩ = some (.slice L.am D.times.length L.cm) ∧ x.cell? ⟨S, 11, none⟩ = some (.slice L.az D.ints.length L.cz) ∧ x.cell? ⟨S, 12, none⟩ = some (.slice L.af D.filter.length L.cf) ∧ x.cell? ⟨S, 13, none⟩ = some (.slice L.ao D.output.length L.co) ∧ x.cell? ⟨NB, 0, none⟩ = some (.int .i64 c) ∧ x.cell? ⟨NB, 1, none⟩ = some (.int .i64 n) ∧ x.cell? ⟨NB, 2, none⟩ = some (.int .i64 0) ∧ x.cell? ⟨NB, 3, none⟩ = some (.bool b) ∧ x.cell? ⟨NB, 4, none⟩ = some (.bool false))
        (first | exact z0 | assumption)
        (first
          | (go_at_call 10; (with_reducible refine kl.mono ?_); rintro e w3 ⟨rfl, hb3⟩; have H3 := Bx.mk (HW.out.step hb3); have z3 := hS0 _ H3.out.hd H3.out.nb; have kA := own_alone H3.out.k hx6; clear hb3)
          | (go_at_call 11; (with_reducible refine kA.mono ?_); rintro e w4 ⟨rfl, ht4⟩; have H4 : Bx (HdB w w4 S D L ∧ CB w4 NB #[.int .i64 c, .int .i64 n, .int .i64 0, .bool b, .bool false]) := ⟨H3.out.hd.turned ht4 (fun x hx => by
              rcases List.mem_cons.1 hx with rfl | hx
              · exact H3.out.sb
              · obtain ⟨i, hi, h5⟩ := blocksOf_mem hx
                have := H3.out.k.gx i hi x h5
                have := H3.out.sb
                omega), H3.out.nb.turned ht4 (fun hx => by
              rcases List.mem_cons.1 hx with e | hx
              · exact H3.out.fr.b e
              · obtain ⟨i, hi, h5⟩ := blocksOf_mem hx
                exact H3.out.fr.x i hi h5)⟩; have z4 := hS0 _ H4.out.1 H4.out.2; have kp := rprogram_any D L w4 H4.out.1.mem HB.out.1 H4.out.1.glob; rw [HVB.out] at kp; clear ht4)
          | (go_at_call 5; (with_reducible refine kp.mono ?_); rintro e w5 ⟨rfl, hb5⟩; have H5 := Bx.mk (H4.out.1.step hb5); have z5 := hS0 _ H5.out (H4.out.2.below hb5); clear hb5))
      clear kl z0 z3 z4 z5
      go_wp2
      go_ret
      exact ⟨rfl, by rw [HZ.out]; exact H5.out.below⟩
end Go.Proofs.YtbcajmkmadgbhaaGreatDoor
