/- Verify: small, live. Conditions: code.table, the two tables of unicode/utf8 and errors.errorType hold what the program's text lays in them. -/
import Derived.Test.YtbcajmkmadgbhaaGreatDoorVrT
set_option linter.unusedSimpArgs false
set_option linter.unusedVariables false
namespace Go.Proofs.YtbcajmkmadgbhaaGreatDoor
open Go.RowKit
/-- the small program -/
def D0 : PrgD := ⟨[99, 112, 117], [116], 1, 0, [], [(4, [118])], [[109]], [], [], [], [], [], [⟨1, 0, 0⟩, ⟨13, 0, 0⟩], [⟨14, 0, 0⟩, ⟨23, 0, 0⟩, ⟨24, 0, 0⟩]⟩
theorem five (w : World) (o0 o1 o2 o3 o4 : Obj) : ((((((w.alloc o0).alloc o1).alloc o2).alloc o3).alloc o4).heap[w.heap.size]? = some o0 ∧ (((((w.alloc o0).alloc o1).alloc o2).alloc o3).alloc o4).heap[w.heap.size + 1]? = some o1 ∧ (((((w.alloc o0).alloc o1).alloc o2).alloc o3).alloc o4).heap[w.heap.size + 1 + 1]? = some o2 ∧ (((((w.alloc o0).alloc o1).alloc o2).alloc o3).alloc o4).heap[w.heap.size + 1 + 1 + 1]? = some o3 ∧ (((((w.alloc o0).alloc o1).alloc o2).alloc o3).alloc o4).heap[w.heap.size + 1 + 1 + 1 + 1]? = some o4) ∧ Below w.heap.size w (((((w.alloc o0).alloc o1).alloc o2).alloc o3).alloc o4) := by
  refine ⟨⟨?_, ?_, ?_, ?_, ?_⟩, below5 _ _ _ _ _ _⟩ <;> simp only [heap_push, Array.getElem?_push, Array.size_push] <;> repeat (first | rw [if_pos trivial] | rw [if_pos rfl] | rw [if_neg (by omega)])
theorem row_of_cb {α : Type} {k : Nat} {enc : α → List Value} {w : World} {b : Nat} {cs : Array Value} {T : TypeId} {l : List α} (h : w.heap[b]? = some (.cells cs T (0, 0))) (hc : ∀ i x, l[i]? = some x → ∀ j v, (enc x)[j]? = some v → cs[i * k + j]? = some v) (hl : l.length ≤ 9223372036854775807) : RowL k enc w (some ⟨b, 0, none⟩) l where
  row := fun _ => ⟨b, 0, rfl, fun i x hx j v hj => cells_at h _ v (by rw [Nat.zero_add]; exact hc i x hx j v hj)⟩
  n := hl
/-- where the small program's rows lie -/
def L0 (S : Nat) : PLoc where
  ag := none
  cg := 0
  ac := some ⟨S + 1, 0, none⟩
  cc := 1
  al := some ⟨S + 1 + 1, 0, none⟩
  cl := 1
  an := none
  cn := 0
  at_ := none
  ct := 0
  ai := none
  ci := 0
  am := none
  cm := 0
  az := none
  cz := 0
  af := some ⟨S + 1 + 1 + 1, 0, none⟩
  cf := 2
  ao := some ⟨S + 1 + 1 + 1 + 1, 0, none⟩
  co := 3
  la := fun _ => none
  lc := fun _ => 0
theorem small_mem {w : World} {S : Nat} {T1 T2 T3 : TypeId} (h1 : w.heap[S + 1]? = some (.cells #[.int .u8 4, .string ⟨#[118]⟩] T1 (0, 0))) (h2 : w.heap[S + 1 + 1]? = some (.cells #[.string ⟨#[109]⟩] T2 (0, 0)))
    (h3 : w.heap[S + 1 + 1 + 1]? = some (.cells #[.int .u8 1, .int .i64 0, .int .i64 0, .int .u8 13, .int .i64 0, .int .i64 0] T3 (0, 0))) (h4 : w.heap[S + 1 + 1 + 1 + 1]? = some (.cells #[.int .u8 14, .int .i64 0, .int .i64 0, .int .u8 23, .int .i64 0, .int .i64 0, .int .u8 24, .int .i64 0, .int .i64 0] T3 (0, 0))) : PrgM w D0 (L0 S) where
  groups := RowL.nil
  accs := row_of_cb h1 (fun i x hx j v hj => by
    match i, hx with
    | 0, hx =>
      cases hx
      match j, hj with
      | 0, hj => cases hj; rfl
      | 1, hj => cases hj; rfl) (by decide)
  aliases := row_of_cb h2 (fun i x hx j v hj => by
    match i, hx with
    | 0, hx =>
      cases hx
      match j, hj with
      | 0, hj => cases hj; rfl) (by decide)
  names := RowL.nil
  texts := RowL.nil
  lists := fun h => absurd h (by decide)
  nl := by decide
  times := RowL.nil
  ints := RowL.nil
  filter := row_of_cb h3 (fun i x hx j v hj => by
    match i, hx with
    | 0, hx =>
      cases hx
      match j, hj with
      | 0, hj => cases hj; rfl
      | 1, hj => cases hj; rfl
      | 2, hj => cases hj; rfl
    | 1, hx =>
      cases hx
      match j, hj with
      | 0, hj => cases hj; rfl
      | 1, hj => cases hj; rfl
      | 2, hj => cases hj; rfl) (by decide)
  output := row_of_cb h4 (fun i x hx j v hj => by
    match i, hx with
    | 0, hx =>
      cases hx
      match j, hj with
      | 0, hj => cases hj; rfl
      | 1, hj => cases hj; rfl
      | 2, hj => cases hj; rfl
    | 1, hx =>
      cases hx
      match j, hj with
      | 0, hj => cases hj; rfl
      | 1, hj => cases hj; rfl
      | 2, hj => cases hj; rfl
    | 2, hx =>
      cases hx
      match j, hj with
      | 0, hj => cases hj; rfl
      | 1, hj => cases hj; rfl
      | 2, hj => cases hj; rfl) (by decide)
set_option maxHeartbeats 4000000 in
set_option maxRecDepth 100000 in
theorem small_any (w : World) : Calls Tryz.prog 32 #[] w fun e w' => ∃ L, e = .returned (prgV D0 L) ∧ PrgM w' D0 L ∧ L.cf = 2 ∧ Below w.heap.size w w' := by
  have h5 := five w (.cells #[.string ⟨#[99, 112, 117]⟩, .string ⟨#[116]⟩, .int .i64 1, .int .i64 0, .slice none 0 0, .slice (some ⟨w.heap.size + 1, 0, none⟩) 1 1, .slice (some ⟨w.heap.size + 1 + 1, 0, none⟩) 1 1, .slice none 0 0, .slice none 0 0, .slice none 0 0, .slice none 0 0, .slice none 0 0, .slice (some ⟨w.heap.size + 1 + 1 + 1, 0, none⟩) 2 2, .slice (some ⟨w.heap.size + 1 + 1 + 1 + 1, 0, none⟩) 3 3] 28)
    (.cells #[.int .u8 4, .string ⟨#[118]⟩] 134) (.cells #[.string ⟨#[109]⟩] 9) (.cells #[.int .u8 1, .int .i64 0, .int .i64 0, .int .u8 13, .int .i64 0, .int .i64 0] 94)
    (.cells #[.int .u8 14, .int .i64 0, .int .i64 0, .int .u8 23, .int .i64 0, .int .i64 0, .int .u8 24, .int .i64 0, .int .i64 0] 94)
  have H5 : Bx _ := ⟨h5⟩
  clear h5
  go_enter Tryz.func32, Tryz.ntmps32
  go_wp2
  obtain ⟨⟨h0, h1, h2, h3, h4⟩, hb⟩ := H5.out
  clear H5
  generalize (((((w.alloc (.cells #[.string ⟨#[99, 112, 117]⟩, .string ⟨#[116]⟩, .int .i64 1, .int .i64 0, .slice none 0 0, .slice (some ⟨w.heap.size + 1, 0, none⟩) 1 1, .slice (some ⟨w.heap.size + 1 + 1, 0, none⟩) 1 1, .slice none 0 0, .slice none 0 0, .slice none 0 0, .slice none 0 0, .slice none 0 0, .slice (some ⟨w.heap.size + 1 + 1 + 1, 0, none⟩) 2 2, .slice (some ⟨w.heap.size + 1 + 1 + 1 + 1, 0, none⟩) 3 3] 28)).alloc
    (.cells #[.int .u8 4, .string ⟨#[118]⟩] 134)).alloc (.cells #[.string ⟨#[109]⟩] 9)).alloc (.cells #[.int .u8 1, .int .i64 0, .int .i64 0, .int .u8 13, .int .i64 0, .int .i64 0] 94)).alloc
    (.cells #[.int .u8 14, .int .i64 0, .int .i64 0, .int .u8 23, .int .i64 0, .int .i64 0, .int .u8 24, .int .i64 0, .int .i64 0] 94)) = w5 at *
  have HM : Bx _ := ⟨And.intro (small_mem h1 h2 h3 h4) hb⟩
  clear h1 h2 h3 h4 hb
  have c0 := cells_at h0 0 _ rfl
  have c1 := cells_at h0 1 _ rfl
  have c2 := cells_at h0 2 _ rfl
  have c3 := cells_at h0 3 _ rfl
  have c4 := cells_at h0 4 _ rfl
  have c5 := cells_at h0 5 _ rfl
  have c6 := cells_at h0 6 _ rfl
  have c7 := cells_at h0 7 _ rfl
  have c8 := cells_at h0 8 _ rfl
  have c9 := cells_at h0 9 _ rfl
  have c10 := cells_at h0 10 _ rfl
  have c11 := cells_at h0 11 _ rfl
  have c12 := cells_at h0 12 _ rfl
  have c13 := cells_at h0 13 _ rfl
  clear h0
  refine bodyPost_ret (v := prgV D0 (L0 w.heap.size)) (by simp [results, Tryz.results32, go_sem, c0, c1, c2, c3, c4, c5, c6, c7, c8, c9, c10, c11, c12, c13, D0, L0]; first | done | rfl) rfl ?_
  exact ⟨_, rfl, HM.out.1, rfl, HM.out.2⟩
/-- the small program, its filter cut -/
def D1 : PrgD := { D0 with filter := [⟨1, 0, 0⟩] }
theorem head0 : headB D0 = true := by
  have g1 : rightB [99, 112, 117] 64 = true := by unfold rightB; rw [goodAsc _ (by decide)]; rfl
  have g2 : rightB [116] 64 = true := by unfold rightB; rw [goodAsc _ (by decide)]; rfl
  have g3 : wordB [118] = true := by unfold wordB rightB; rw [goodAsc _ (by decide)]; rfl
  have g4 : wordB [109] = true := by unfold wordB rightB; rw [goodAsc _ (by decide)]; rfl
  unfold headB D0
  simp [g1, g2, g3, g4, accB, aliF]
theorem head1 : headB D1 = true := by
  have h := head0
  unfold headB at h ⊢
  simp only [D1]
  simp only [D0] at h ⊢
  simpa using h
theorem hei0 : heiF D0.filter 0 hs0 = .inr [0, 1] := by rfl
theorem ver0 : verF D0 = none := by
  have h1 : formF true D0 D0.filter = none := by decide
  have h2 : formF false D0 D0.output = none := by decide
  have h4 : heiF D0.output 0 hs0 = .inr [0, 1, 0] := by rfl
  exact (verF_emit head0 h1 h2 hei0 h4).1 ((emitB_iff D0).1 (by decide))
theorem ver1 : verF D1 = some (193, some 1) := verF_form1 head1 (by decide)
theorem bound0 : PrgB D0 where
  from_ := by decide
  into := by decide
  every := by unfold i64B; decide
  offset := by unfold i64B; decide
  groups := fun s h => by cases h
  accs := by decide
  aliases := fun s h => by have := List.mem_singleton.1 h; subst this; decide
  names := fun s h => by cases h
  texts := fun s h => by cases h
  lists := fun s h => by cases h
  filter := fun i h => by
    simp only [D0, List.mem_cons, List.not_mem_nil, or_false] at h
    rcases h with rfl | rfl <;> exact ⟨by decide, by unfold i64B; decide, by unfold i64B; decide⟩
  output := fun i h => by
    simp only [D0, List.mem_cons, List.not_mem_nil, or_false] at h
    rcases h with rfl | rfl | rfl <;> exact ⟨by decide, by unfold i64B; decide, by unfold i64B; decide⟩
theorem bound1 : PrgB D1 where
  from_ := bound0.from_
  into := bound0.into
  every := bound0.every
  offset := bound0.offset
  groups := bound0.groups
  accs := bound0.accs
  aliases := bound0.aliases
  names := bound0.names
  texts := bound0.texts
  lists := bound0.lists
  filter := fun i h => bound0.filter i (by simp only [D1, D0, List.mem_cons, List.not_mem_nil, or_false] at h ⊢; exact Or.inl h)
  output := bound0.output
theorem mem1 {w : World} {L : PLoc} (h : PrgM w D0 L) : PrgM w D1 L where
  groups := h.groups
  accs := h.accs
  aliases := h.aliases
  names := h.names
  texts := h.texts
  lists := h.lists
  nl := h.nl
  times := h.times
  ints := h.ints
  filter := ⟨fun _ => by
    obtain ⟨b, off, e, hr⟩ := h.filter.row (by decide)
    refine ⟨b, off, e, fun i x hx j v hj => hr i x ?_ j v hj⟩
    match i, hx with
    | 0, hx => exact hx, by decide⟩
  output := h.output
set_option maxHeartbeats 8000000 in
set_option maxRecDepth 100000 in
theorem live_any (w : World) (hG : GlobK w) (hT : TabU w) : Calls Tryz.prog 10 #[] w fun e w' => e = .returned (.bool true) ∧ Below w.heap.size w w' := by
  have HG : Bx _ := ⟨And.intro hG hT⟩
  clear hG hT
  go_enter Tryz.func10, Tryz.ntmps10
  go_wp2_with fail
  refine (small_any _).mono ?_
  rintro e w1 ⟨L, rfl, hM, hcf, hb⟩
  have HCF : Bx (L.cf = 2) := ⟨hcf⟩
  have fin : ∀ B, w1.heap.size = B → ∀ x, Below B w1 x → Below w.heap.size w x ∧ PrgM x D0 L ∧ GlobK x ∧ TabU x := fun B e x hx => by
    subst e
    have h := hb.trans (hx.mono hb.size)
    exact ⟨h, hM.below hx, HG.out.1.below h, HG.out.2.below h⟩
  have H2 : Bx _ := ⟨And.intro (PBox.alloc w1 D0 L 28) (below1 w1 (.cells (prgC D0 L) 28))⟩
  have HF0 : Bx _ := ⟨fin w1.heap.size rfl⟩
  clear hM hb hcf fin
  go_upto_region 2 with (fail)
  generalize (w1.alloc (.cells (prgC D0 L) 28)) = w2 at *
  generalize w1.heap.size = B at *
  have p0 := H2.out.1.cell 0 _ rfl
  have p1 := H2.out.1.cell 1 _ rfl
  have p2 := H2.out.1.cell 2 _ rfl
  have p3 := H2.out.1.cell 3 _ rfl
  have p4 := H2.out.1.cell 4 _ rfl
  have p5 := H2.out.1.cell 5 _ rfl
  have p6 := H2.out.1.cell 6 _ rfl
  have p7 := H2.out.1.cell 7 _ rfl
  have p8 := H2.out.1.cell 8 _ rfl
  have p9 := H2.out.1.cell 9 _ rfl
  have p10 := H2.out.1.cell 10 _ rfl
  have p11 := H2.out.1.cell 11 _ rfl
  have p12 := H2.out.1.cell 12 _ rfl
  have p13 := H2.out.1.cell 13 _ rfl
  have kh := vheights_any D0 L w2 (HF0.out w2 H2.out.2).2.1 bound0 (HF0.out w2 H2.out.2).2.2.1 (HF0.out w2 H2.out.2).2.2.2
  go_wp2_with fail
  refine kh.mono ?_
  rintro e w3 ⟨v, rfl, ho, hb⟩
  unfold HtsOut at ho
  rw [ver0] at ho
  obtain ⟨ls, A, c, hls, rfl, hi, hnew⟩ := ho
  rw [hei0] at hls
  injection hls with hls
  subst hls
  have H3 : Bx _ := ⟨And.intro (H2.out.1.below hb) (And.intro (H2.out.2.trans (hb.mono (Nat.le_of_lt H2.out.1.lt))) hi)⟩
  have HNW : Bx _ := ⟨hnew⟩
  clear kh hb hi hnew p0 p1 p2 p3 p4 p5 p6 p7 p8 p9 p10 p11 p12 p13
  obtain ⟨b, off, hA, _⟩ := (HF0.out w3 H3.out.2.1).2.1.filter.row (by decide)
  have HAx : Bx (L.af = some ⟨b, off, none⟩) := ⟨hA⟩
  clear hA
  have p12 : w3.cell? ⟨B, 12, none⟩ = some (.slice (some ⟨b, off, none⟩) 2 2) := by
    have h := H3.out.1.cell 12 _ rfl
    rw [h]
    show some (Value.slice L.af 2 L.cf) = _
    rw [HAx.out, HCF.out]
  have f12 : w3.frozen? ⟨B, 12, none⟩ = false := H3.out.1.free 12
  have HB4 : Bx (PBox (w3.setCell ⟨B, 12, none⟩ (.slice (some ⟨b, off, none⟩) 1 2)) B D1 L) := ⟨by
    obtain ⟨T, h0⟩ := H3.out.1.blk
    refine ⟨T, ?_⟩
    rw [cells_set h0]
    have e : (Value.slice (some ⟨b, off, none⟩) 1 2) = .slice L.af D1.filter.length L.cf := by rw [HAx.out, HCF.out]; rfl
    rw [e]
    rfl⟩
  have H4 : Bx (Below B w1 (w3.setCell ⟨B, 12, none⟩ (.slice (some ⟨b, off, none⟩) 1 2))) := ⟨H3.out.2.1.setCell (Nat.le_refl _) _⟩
  have HI4 : Bx (I64L (w3.setCell ⟨B, 12, none⟩ (.slice (some ⟨b, off, none⟩) 1 2)) A [0, 1]) := ⟨by
    refine ⟨fun hn => ?_, by decide⟩
    obtain ⟨b', off', e, hr⟩ := H3.out.2.2.row hn
    refine ⟨b', off', e, fun i x hx j v hj => ?_⟩
    have h1 := hr i x hx j v hj
    have hne : b' ≠ B := by
      have h2 := HNW.out b' off' e
      have h3 := H2.out.1.lt
      omega
    rw [World.cell?_of_block (w := w3) (Below.heap_setCell _ _ _ _ hne)]
    exact h1⟩
  have HI5 : Bx (I64L ((w3.setCell ⟨B, 12, none⟩ (.slice (some ⟨b, off, none⟩) 1 2)).alloc (.cells #[.int .i64 0, .int .i64 1] 3)) (some ⟨w3.heap.size, 0, none⟩) [0, 1]) := ⟨by
    have h := heap_alloc_new (w3.setCell ⟨B, 12, none⟩ (.slice (some ⟨b, off, none⟩) 1 2)) (.cells #[.int .i64 0, .int .i64 1] 3)
    rw [show (w3.setCell ⟨B, 12, none⟩ (.slice (some ⟨b, off, none⟩) 1 2)).heap.size = w3.heap.size by simp] at h
    refine row_of_cb h (fun i x hx j v hj => ?_) (by decide)
    match i, hx with
    | 0, hx =>
      cases hx
      match j, hj with
      | 0, hj => cases hj; rfl
    | 1, hx =>
      cases hx
      match j, hj with
      | 0, hj => cases hj; rfl⟩
  have HX5 : Bx _ := ⟨And.intro (HB4.out.below (below1 (w3.setCell ⟨B, 12, none⟩ (.slice (some ⟨b, off, none⟩) 1 2)) (.cells #[.int .i64 0, .int .i64 1] 3))) (And.intro (HI4.out.below (below1 (w3.setCell ⟨B, 12, none⟩ (.slice (some ⟨b, off, none⟩) 1 2)) (.cells #[.int .i64 0, .int .i64 1] 3))) (H4.out.trans ((below1 (w3.setCell ⟨B, 12, none⟩ (.slice (some ⟨b, off, none⟩) 1 2)) (.cells #[.int .i64 0, .int .i64 1] 3)).mono (by have := HB4.out.lt; omega))))⟩
  clear HI4 HB4 H4 H3
  go_wp2_with fail
  have ks := sameints_any A (some ⟨w3.heap.size, 0, none⟩) [0, 1] c 2 _ HX5.out.2.1 HI5.out
  refine ks.mono ?_
  rintro e w5 ⟨rfl, hb⟩
  have HX6 : Bx _ := ⟨And.intro (HX5.out.1.below hb) (HX5.out.2.2.trans (hb.mono (Nat.le_of_lt HX5.out.1.lt)))⟩
  clear ks hb p12 f12
  have HF5 : Bx _ := ⟨HF0.out w5 HX6.out.2⟩
  have kp := program_any D1 L w5 (mem1 HF5.out.2.1) bound1 HF5.out.2.2.1 HF5.out.2.2.2
  rw [ver1] at kp
  have p0 := HX6.out.1.cell 0 _ rfl
  have p1 := HX6.out.1.cell 1 _ rfl
  have p2 := HX6.out.1.cell 2 _ rfl
  have p3 := HX6.out.1.cell 3 _ rfl
  have p4 := HX6.out.1.cell 4 _ rfl
  have p5 := HX6.out.1.cell 5 _ rfl
  have p6 := HX6.out.1.cell 6 _ rfl
  have p7 := HX6.out.1.cell 7 _ rfl
  have p8 := HX6.out.1.cell 8 _ rfl
  have p9 := HX6.out.1.cell 9 _ rfl
  have p10 := HX6.out.1.cell 10 _ rfl
  have p11 := HX6.out.1.cell 11 _ rfl
  have p12 := HX6.out.1.cell 12 _ rfl
  have p13 := HX6.out.1.cell 13 _ rfl
  go_wp2_with fail
  refine kp.mono ?_
  rintro e w6 ⟨rfl, hb⟩
  have HX7 : Bx _ := ⟨HF5.out.1.trans (hb.mono HF5.out.1.size)⟩
  clear kp hb p0 p1 p2 p3 p4 p5 p6 p7 p8 p9 p10 p11 p12 p13
  have ki := is_A 1 193 193 w6 (HG.out.1.below HX7.out).g (by decide) (by decide)
  simp only [verV]
  go_wp2_with fail
  refine ki.mono ?_
  rintro e w7 ⟨rfl, hb⟩
  have HX8 : Bx _ := ⟨HX7.out.trans (hb.mono HX7.out.size)⟩
  clear ki hb
  go_wp2
  go_ret
  exact ⟨rfl, HX8.out⟩
end Go.Proofs.YtbcajmkmadgbhaaGreatDoor
